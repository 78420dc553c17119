/- what the claim's row stands on, part 6. -/
import Derived.Shelf.SlGeneric
import Derived.Shelf.SlIter.Nil
import Derived.Shelf.SortM.Plain
import Derived.Shelf.SortM.SortNone
import Derived.Shelf.SlLaysF0
import Derived.Ground.GgzProg
import Derived.Ground.SlgmProg
import Derived.Ground.SlsfProg
import Derived.Test.YtgmlenpcchhmbaaGreatProg
import Derived.Test.YtgmlenpcchhmbaaGreatZc2
import Derived.Test.YtgmlenpcchhmbaaGreatZc1
import Derived.Lib.OwnBridge
import Derived.Maps.OwnOps
import Derived.Maps.OwnSet
import Derived.Maps.RangeWalk
import Derived.StringKeys
import Derived.Sort.KeysCollected
import Derived.Test.YtgmlenpcchhmbaaGreatZc3
import Derived.Deep.QuietTactic
import Derived.BigQuiet
import Derived.Lib.AppendZerosOnto
import Derived.Lib.Overlaps
import Derived.Laws.CopyRow
import Derived.Laws.Tables
import Derived.Lib.Bytealg
import Derived.Test.YtgmlenpcchhmbaaGreatZc4
section
set_option linter.unusedVariables false
set_option linter.unusedSimpArgs false
namespace Go.Proofs
open Go.Shelf
def Tryz.shKeysB_ren : Go.Shelf.Ren := ⟨fun | 7 => 69 | 10 => 117 | n => n, fun | 23 => 105 | 26 => 9 | 3 => 4 | 28 => 111 | 0 => 0 | 27 => 110 | 33 => 73 | 4 => 4 | n => n, fun | n => n⟩
theorem Tryz.shKeysB : Go.Proofs.SlLaysZ.n7 Tryz.prog Tryz.shKeysB_ren := {
  mixed := by kernel_rfl
  f7 := ⟨Tryz.f69.name, by decide, Tryz.func69.trans (congrArg some (by kernel_rfl))⟩
  f10 := ⟨Tryz.f117.name, by decide, Tryz.func117.trans (congrArg some (by kernel_rfl))⟩
  t0 := Tryz.underlying0
  a0 := Tryz.isAgg0
  z0 := Tryz.sizeOf0
  v0 := Tryz.zeroValue0
  t4 := Tryz.underlying4
  a4 := Tryz.isAgg4
  z4 := Tryz.sizeOf4
  v4 := Tryz.zeroValue4
  t23 := Tryz.underlying105
  a23 := Tryz.isAgg105
  z23 := Tryz.sizeOf105
  v23 := Tryz.zeroValue105
  t26 := Tryz.underlying9
  a26 := Tryz.isAgg9
  z26 := Tryz.sizeOf9
  v26 := Tryz.zeroValue9
  t27 := Tryz.underlying110
  a27 := Tryz.isAgg110
  z27 := Tryz.sizeOf110
  v27 := Tryz.zeroValue110
  t28 := Tryz.underlying111
  a28 := Tryz.isAgg111
  z28 := Tryz.sizeOf111
  v28 := Tryz.zeroValue111
  t33 := Tryz.underlying73
  a33 := Tryz.isAgg73
  z33 := Tryz.sizeOf73
  v33 := Tryz.zeroValue73 }
def Tryz.shKeysN_ren : Go.Shelf.Ren := ⟨fun | 7 => 160 | 10 => 182 | n => n, fun | 23 => 103 | 26 => 9 | 3 => 58 | 28 => 111 | 0 => 0 | 27 => 110 | 33 => 73 | 4 => 4 | n => n, fun | n => n⟩
theorem Tryz.shKeysN : Go.Proofs.SlLaysZ.n7 Tryz.prog Tryz.shKeysN_ren := {
  mixed := by kernel_rfl
  f7 := ⟨Tryz.f160.name, by decide, Tryz.func160.trans (congrArg some (by kernel_rfl))⟩
  f10 := ⟨Tryz.f182.name, by decide, Tryz.func182.trans (congrArg some (by kernel_rfl))⟩
  t0 := Tryz.underlying0
  a0 := Tryz.isAgg0
  z0 := Tryz.sizeOf0
  v0 := Tryz.zeroValue0
  t4 := Tryz.underlying4
  a4 := Tryz.isAgg4
  z4 := Tryz.sizeOf4
  v4 := Tryz.zeroValue4
  t23 := Tryz.underlying103
  a23 := Tryz.isAgg103
  z23 := Tryz.sizeOf103
  v23 := Tryz.zeroValue103
  t26 := Tryz.underlying9
  a26 := Tryz.isAgg9
  z26 := Tryz.sizeOf9
  v26 := Tryz.zeroValue9
  t27 := Tryz.underlying110
  a27 := Tryz.isAgg110
  z27 := Tryz.sizeOf110
  v27 := Tryz.zeroValue110
  t28 := Tryz.underlying111
  a28 := Tryz.isAgg111
  z28 := Tryz.sizeOf111
  v28 := Tryz.zeroValue111
  t33 := Tryz.underlying73
  a33 := Tryz.isAgg73
  z33 := Tryz.sizeOf73
  v33 := Tryz.zeroValue73 }
def Tryz.shSorted_ren : Go.Shelf.Ren := ⟨fun | 6 => 68 | 8 => 115 | 9 => 116 | 11 => 149 | 13 => 151 | 12 => 150 | 23 => 171 | 24 => 172 | 14 => 162 | 15 => 163 | 16 => 164 | 17 => 165 | 18 => 166 | 19 => 167 | 20 => 168 | 21 => 169 | 22 => 170 | 25 => 183 | 26 => 184 | 27 => 185 | 28 => 186 | 29 => 187 | 30 => 188 | 31 => 192 | n => n, fun | 26 => 9 | 28 => 111 | 24 => 56 | 0 => 0 | 3 => 3 | 37 => 158 | 48 => 196 | 50 => 57 | 4 => 4 | 40 => 189 | 39 => 188 | 45 => 119 | 5 => 5 | 9 => 9 | 51 => 204 | 55 => 208 | 57 => 212 | 58 => 213 | 33 => 73 | n => n, fun | n => n⟩
theorem Tryz.shSorted : Go.Proofs.SlLaysZ.n6 Tryz.prog Tryz.shSorted_ren := {
  mixed := by kernel_rfl
  f6 := ⟨Tryz.f68.name, by decide, Tryz.func68.trans (congrArg some (by kernel_rfl))⟩
  f8 := ⟨Tryz.f115.name, by decide, Tryz.func115.trans (congrArg some (by kernel_rfl))⟩
  f11 := ⟨Tryz.f149.name, by decide, Tryz.func149.trans (congrArg some (by kernel_rfl))⟩
  t0 := Tryz.underlying0
  a0 := Tryz.isAgg0
  z0 := Tryz.sizeOf0
  v0 := Tryz.zeroValue0
  t24 := Tryz.underlying56
  a24 := Tryz.isAgg56
  z24 := Tryz.sizeOf56
  v24 := Tryz.zeroValue56
  t26 := Tryz.underlying9
  a26 := Tryz.isAgg9
  z26 := Tryz.sizeOf9
  v26 := Tryz.zeroValue9
  t28 := Tryz.underlying111
  a28 := Tryz.isAgg111
  z28 := Tryz.sizeOf111
  v28 := Tryz.zeroValue111
  i26 := by kernel_rfl }
def Tryz.shSort_ren : Go.Shelf.Ren := ⟨fun | 6 => 116 | 8 => 151 | 9 => 150 | 19 => 171 | 20 => 172 | 21 => 162 | 22 => 163 | 23 => 164 | 24 => 165 | 25 => 166 | 26 => 167 | 27 => 168 | 28 => 169 | 29 => 170 | 36 => 183 | 31 => 184 | 32 => 185 | 37 => 186 | 38 => 187 | 39 => 188 | 41 => 192 | n => n, fun | 27 => 56 | 29 => 9 | 3 => 3 | 32 => 158 | 26 => 56 | 0 => 0 | 44 => 196 | 46 => 57 | 4 => 4 | 36 => 189 | 35 => 188 | 41 => 119 | 5 => 5 | 9 => 9 | 53 => 204 | 57 => 208 | 63 => 212 | 64 => 213 | n => n, fun | n => n⟩
theorem Tryz.shSort : Go.Proofs.SlLaysM.n6 Tryz.prog Tryz.shSort_ren := {
  mixed := by kernel_rfl
  f6 := ⟨Tryz.f116.name, by decide, Tryz.func116.trans (congrArg some (by kernel_rfl))⟩
  f8 := Tryz.func151.trans (congrArg some (by kernel_rfl))
  f9 := ⟨Tryz.f150.name, by decide, Tryz.func150.trans (congrArg some (by kernel_rfl))⟩
  f19 := Tryz.func171.trans (congrArg some (by kernel_rfl))
  f20 := Tryz.func172.trans (congrArg some (by kernel_rfl))
  f21 := ⟨Tryz.f162.name, by decide, Tryz.func162.trans (congrArg some (by kernel_rfl))⟩
  f22 := ⟨Tryz.f163.name, by decide, Tryz.func163.trans (congrArg some (by kernel_rfl))⟩
  f23 := ⟨Tryz.f164.name, by decide, Tryz.func164.trans (congrArg some (by kernel_rfl))⟩
  f24 := ⟨Tryz.f165.name, by decide, Tryz.func165.trans (congrArg some (by kernel_rfl))⟩
  f25 := ⟨Tryz.f166.name, by decide, Tryz.func166.trans (congrArg some (by kernel_rfl))⟩
  f26 := ⟨Tryz.f167.name, by decide, Tryz.func167.trans (congrArg some (by kernel_rfl))⟩
  f27 := ⟨Tryz.f168.name, by decide, Tryz.func168.trans (congrArg some (by kernel_rfl))⟩
  f28 := ⟨Tryz.f169.name, by decide, Tryz.func169.trans (congrArg some (by kernel_rfl))⟩
  f29 := ⟨Tryz.f170.name, by decide, Tryz.func170.trans (congrArg some (by kernel_rfl))⟩
  f31 := Tryz.func184.trans (congrArg some (by kernel_rfl))
  f32 := Tryz.func185.trans (congrArg some (by kernel_rfl))
  f36 := ⟨Tryz.f183.name, by decide, Tryz.func183.trans (congrArg some (by kernel_rfl))⟩
  f37 := ⟨Tryz.f186.name, by decide, Tryz.func186.trans (congrArg some (by kernel_rfl))⟩
  f38 := ⟨Tryz.f187.name, by decide, Tryz.func187.trans (congrArg some (by kernel_rfl))⟩
  f39 := ⟨Tryz.f188.name, by decide, Tryz.func188.trans (congrArg some (by kernel_rfl))⟩
  f41 := ⟨Tryz.f192.name, by decide, Tryz.func192.trans (congrArg some (by kernel_rfl))⟩
  t0 := Tryz.underlying0
  a0 := Tryz.isAgg0
  z0 := Tryz.sizeOf0
  v0 := Tryz.zeroValue0
  t3 := Tryz.underlying3
  a3 := Tryz.isAgg3
  z3 := Tryz.sizeOf3
  v3 := Tryz.zeroValue3
  t4 := Tryz.underlying4
  a4 := Tryz.isAgg4
  z4 := Tryz.sizeOf4
  v4 := Tryz.zeroValue4
  t5 := Tryz.underlying5
  a5 := Tryz.isAgg5
  z5 := Tryz.sizeOf5
  v5 := Tryz.zeroValue5
  t9 := Tryz.underlying9
  a9 := Tryz.isAgg9
  z9 := Tryz.sizeOf9
  v9 := Tryz.zeroValue9
  t26 := Tryz.underlying56
  a26 := Tryz.isAgg56
  z26 := Tryz.sizeOf56
  v26 := Tryz.zeroValue56
  t27 := Tryz.underlying56
  a27 := Tryz.isAgg56
  z27 := Tryz.sizeOf56
  v27 := Tryz.zeroValue56
  t29 := Tryz.underlying9
  a29 := Tryz.isAgg9
  z29 := Tryz.sizeOf9
  v29 := Tryz.zeroValue9
  t32 := Tryz.underlying158
  a32 := Tryz.isAgg158
  z32 := Tryz.sizeOf158
  v32 := Tryz.zeroValue158
  t35 := Tryz.underlying188
  a35 := Tryz.isAgg188
  z35 := Tryz.sizeOf188
  v35 := Tryz.zeroValue188
  t36 := Tryz.underlying189
  a36 := Tryz.isAgg189
  z36 := Tryz.sizeOf189
  v36 := Tryz.zeroValue189
  t41 := Tryz.underlying119
  a41 := Tryz.isAgg119
  z41 := Tryz.sizeOf119
  v41 := Tryz.zeroValue119
  t44 := Tryz.underlying196
  a44 := Tryz.isAgg196
  z44 := Tryz.sizeOf196
  v44 := Tryz.zeroValue196
  t46 := Tryz.underlying57
  a46 := Tryz.isAgg57
  z46 := Tryz.sizeOf57
  v46 := Tryz.zeroValue57
  t53 := Tryz.underlying204
  a53 := Tryz.isAgg204
  z53 := Tryz.sizeOf204
  v53 := Tryz.zeroValue204
  t57 := Tryz.underlying208
  a57 := Tryz.isAgg208
  z57 := Tryz.sizeOf208
  v57 := Tryz.zeroValue208
  t63 := Tryz.underlying212
  a63 := Tryz.isAgg212
  z63 := Tryz.sizeOf212
  v63 := Tryz.zeroValue212
  t64 := Tryz.underlying213
  a64 := Tryz.isAgg213
  z64 := Tryz.sizeOf213
  v64 := Tryz.zeroValue213 }
end Go.Proofs
end
section
set_option linter.unusedVariables false
set_option linter.unusedSimpArgs false
namespace Go.Proofs.YtgmlenpcchhmbaaGreat.P
open Go.RowKit Go.Sort Go.Lib Go.Shelf Go.Maps Go.ChangeMaps Go.Proofs.YtgmlenpcchhmbaaGreatW.PrintWords Go.Proofs.YtgmlenpcchhmbaaGreatW.PrintLast Go.Proofs.YtgmlenpcchhmbaaGreatW.PrintMore
def kS (x : ByteArray) : Lit := .string x.data.toList
theorem kS_key (x : ByteArray) : WideAt.IsKeyLit (kS x) := trivial
theorem kS_inj {x y : ByteArray} (h : kS x = kS y) : x = y := ba_ext (by simpa [kS] using h)
abbrev HD := DataW Value
def heldR (v : Value) : Option (HD × List MemPlace) := some (.held v, [])
theorem own_tight {w : World} {P : Program} {k b n : Nat} {R : Value → Option (HD × List MemPlace)} {D : HD} (h : w.ownsMap P k R b n D) : w.ownsMap P k R b (Maps.size D) D := by
  obtain ⟨es, clock, hb, F, hs, rfl⟩ := h
  exact ⟨es, clock, hb, F, by simp [Maps.size, length_sorted], rfl⟩
theorem own_upd_map {w w' : World} {P : Program} {k b n : Nat} {R : Value → Option (HD × List MemPlace)} {D : HD} (h : w.ownsMap P k R b n D) (he : w'.heap[b]? = w.heap[b]?) : w'.ownsMap P k R b n D := by
  obtain ⟨es, clock, hb, r⟩ := h
  exact ⟨es, clock, he.trans hb, r⟩
theorem str_law : Keyed Tryz.prog 9 := Maps.string_keyed Tryz.underlying9
section
variable {V : Type} (enc : V → Value)
structure HoldsS (D : HD) (l : List (ByteArray × V)) : Prop where
  size : Maps.size D = l.length
  has : ∀ x, Maps.has D (kS x) = (getL l x).isSome
  at_ : ∀ x z, D.atKey (kS x) (.held z) = .held (((getL l x).map enc).getD z)
def MS (w : World) (mb : Nat) (l : List (ByteArray × V)) : Prop := SortK l ∧ ∃ D : HD, w.ownsMap Tryz.prog 9 heldR mb (Maps.size D) D ∧ HoldsS enc D l
end
section
variable {V : Type} {enc : V → Value} {w w' : World} {mb : Nat} {l : List (ByteArray × V)}
theorem MS.lt (h : MS enc w mb l) : mb < w.heap.size := by obtain ⟨_, D, h, _⟩ := h; exact h.lt
theorem MS.upd {S : Nat → Prop} (h : MS enc w mb l) (hu : Upd w w' S) (hs : ¬ S mb) : MS enc w' mb l := by
  have hlt := h.lt
  obtain ⟨hk, D, h, hh⟩ := h
  exact ⟨hk, D, own_upd_map h (hu.block mb hlt hs), hh⟩
theorem MS.below (h : MS enc w mb l) (hb : Below w.heap.size w w') : MS enc w' mb l := h.upd (Upd.of_below hb (fun _ => False)) (fun x => x)
set_option maxRecDepth 100000 in
theorem MS.made (enc : V → Value) (w : World) : MS enc (w.alloc (.map #[] 0)) w.heap.size [] := ⟨.nil, .map [], World.ownsMap_made _ _ _ _, rfl, fun _ => rfl, fun _ _ => rfl⟩
theorem MS.block (h : MS enc w mb l) {t : TypeId} {cs : Array Value} {g : Nat} (hb : Blk w g t cs) : g ≠ mb := by
  obtain ⟨_, D, ⟨es, clock, h2, _⟩, _⟩ := h
  rintro rfl
  unfold Blk at hb
  rw [hb] at h2
  cases h2
set_option maxRecDepth 100000 in
theorem MS.look {t e : TypeId} (ht : Tryz.prog.underlying t = some (.map 9 e)) {z : Value} (hz : (zeroValue e).run Tryz.prog w = .ok z w) (h : MS enc w mb l) {x : ByteArray} (hx : x.size ≤ maxLen) :
    (Instr.lookup t (.map (some mb)) (.string x) true).run Tryz.prog w = .ok (.tuple #[((getL l x).map enc).getD z, .bool (getL l x).isSome]) w := by
  obtain ⟨_, D, h, hh⟩ := h
  obtain ⟨v, ps, hrun, hv⟩ := h.look_ok str_law ht hz (zd := .held z) (zp := []) rfl (WideMaps.keyOf_string_mk Tryz.underlying9 hx)
  rw [show Lit.string x.data.toList = kS x from rfl, hh.has x] at hrun
  rw [show Lit.string x.data.toList = kS x from rfl, hh.at_ x] at hv
  unfold heldR at hv
  injection hv with hv
  injection hv with hv _
  injection hv with hv
  rw [hrun, hv]
set_option maxRecDepth 100000 in
theorem MS.look1 {t e : TypeId} (ht : Tryz.prog.underlying t = some (.map 9 e)) {z : Value} (hz : (zeroValue e).run Tryz.prog w = .ok z w) (h : MS enc w mb l) {x : ByteArray} (hx : x.size ≤ maxLen) :
    (Instr.lookup t (.map (some mb)) (.string x) false).run Tryz.prog w = .ok (((getL l x).map enc).getD z) w := by
  obtain ⟨_, D, h, hh⟩ := h
  obtain ⟨v, ps, hrun, hv⟩ := h.lookup str_law ht hz (zd := .held z) (zp := []) rfl (WideMaps.keyOf_string_mk Tryz.underlying9 hx)
  rw [show Lit.string x.data.toList = kS x from rfl, hh.at_ x] at hv
  unfold heldR at hv
  injection hv with hv
  injection hv with hv _
  injection hv with hv
  rw [hrun, hv]
set_option maxRecDepth 100000 in
theorem MS.put {t e : TypeId} (ht : Tryz.prog.underlying t = some (.map 9 e)) (h : MS enc w mb l) {x : ByteArray} (hx : x.size ≤ maxLen) (hl : l.length < maxLen) (v : V) :
    ∃ w', (Instr.mapUpdate t (.map (some mb)) (.string x) (enc v)).run Tryz.prog w = .ok () w' ∧ MS enc w' mb (putL l x v) ∧ Upd w w' (· = mb) := by
  obtain ⟨hk, D, h, hh⟩ := h
  have hT := h.tidy str_law
  obtain ⟨w', hrun, hown, hg⟩ := h.update str_law ht (by rw [hh.size]; exact hl) (WideMaps.keyOf_string_mk Tryz.underlying9 hx) (d := .held (enc v)) (ps := []) (val := enc v) rfl
  refine ⟨w', hrun, ⟨hk.put x v, D.put (kS x) (.held (enc v)), own_tight hown, ?_, fun y => ?_, fun y z => ?_⟩, Upd.of_grown hg (fun k hk => by injection hk with hk; exact hk.symm)⟩
  · rw [Maps.size_put hT, hh.has x, putL_len hk, hh.size]
  · rw [getL_put]
    by_cases e : y = x
    · subst e
      rw [Maps.has_put_same hT.isMap (kS_key y), if_pos rfl]; rfl
    · rw [Maps.has_put_other (fun h => e (kS_inj h)), if_neg e]; exact hh.has y
  · rw [getL_put]
    by_cases e : y = x
    · subst e
      rw [Maps.atKey_put_same hT.isMap (kS_key y), if_pos rfl]; rfl
    · rw [Maps.atKey_put_other (fun h => e (kS_inj h)), if_neg e]; exact hh.at_ y z
set_option maxRecDepth 100000 in
theorem MS.del {t e : TypeId} (ht : Tryz.prog.underlying t = some (.map 9 e)) (h : MS enc w mb l) {x : ByteArray} (hx : x.size ≤ maxLen) (ty : TypeId) :
    ∃ w', (Builtin.delete_ #[t, 9] ty #[.map (some mb), .string x]).run Tryz.prog w = .ok (.tuple #[]) w' ∧ MS enc w' mb (delL l x) ∧ Upd w w' (· = mb) := by
  obtain ⟨hk, D, h, hh⟩ := h
  have hT := h.tidy str_law
  obtain ⟨w', hrun, hown, hg⟩ := h.drop str_law ht (WideMaps.keyOf_string_mk Tryz.underlying9 hx) ty
  refine ⟨w', hrun, ⟨hk.del x, D.del (kS x), own_tight hown, ?_, fun y => ?_, fun y z => ?_⟩, Upd.of_grown hg.grown (fun k hk => by injection hk with hk; exact hk.symm)⟩
  · have h1 := Maps.size_del hT (k := kS x)
    rw [hh.has x] at h1
    rw [delL_len hk]
    have h2 := hh.size
    cases hq : (getL l x).isSome with
    | true => rw [hq] at h1; simp at *; omega
    | false => rw [hq] at h1; simp at *; omega
  · rw [getL_del]
    by_cases e : y = x
    · subst e
      rw [Maps.has_del_same, if_pos rfl]; rfl
    · rw [Maps.has_del_other (fun h => e (kS_inj h)), if_neg e]; exact hh.has y
  · rw [getL_del]
    by_cases e : y = x
    · subst e
      rw [Maps.atKey_del_same, if_pos rfl]; rfl
    · rw [Maps.atKey_del_other (fun h => e (kS_inj h)), if_neg e]; exact hh.at_ y z
theorem leB_of {a b : List UInt8} (h : Op.bytesLess a b = true) : a ≤ b := by
  induction a generalizing b with
  | nil => exact List.nil_le b
  | cons x a ih =>
    cases b with
    | nil => rw [bl_nil] at h; cases h
    | cons y b =>
      rw [bl_cons] at h
      simp only [Bool.or_eq_true, decide_eq_true_eq, Bool.and_eq_true, beq_iff_eq] at h
      rw [List.cons_le_cons_iff]
      rcases h with h | ⟨rfl, h⟩
      · exact .inl h
      · exact .inr ⟨rfl, ih h⟩
theorem sorted_keys (h : SortK l) : (l.map fun x => x.1.data.toList).Pairwise (fun x y => decide (x ≤ y) = true) := by
  rw [List.pairwise_map]
  exact h.imp fun hxy => decide_eq_true (leB_of hxy)
theorem nodup_keys (h : SortK l) : (l.map fun x => x.1.data.toList).Nodup := by
  unfold List.Nodup
  rw [List.pairwise_map]
  exact h.imp fun hxy e => klt_ne hxy (ba_ext e)
end
theorem sortsA (m : Nat) : AnyZ.SortsIn Tryz.prog Tryz.shSorted_ren Fence.wide m :=
  ⟨fun blk off cap ss W hH hblk hsz => callsIn_wide.2 (AnyM.slices_Sort_string Tryz.shSort blk off cap ss W hH hblk hsz),
   fun p cap W => callsIn_wide.2 (AnyM.slices_Sort_string_none Tryz.shSort p cap W)⟩
theorem own_str_keys {w : World} {n mb : Nat} {D : HD} (h : w.ownsMap Tryz.prog 9 heldR mb n D) : ∃ es, D = .map es ∧ es.Pairwise (fun p q => p.1 ≠ q.1) ∧ ∀ p ∈ es, ∃ x, p.1 = .string x := by
  obtain ⟨es, e, hp⟩ := h.tidy str_law
  obtain ⟨es0, clock, hb, F, _, e0⟩ := h
  rw [e] at e0
  injection e0 with e0
  refine ⟨es, e, hp, fun p hpm => ?_⟩
  rw [e0] at hpm
  have hpm := (WideShapes.sorted_perm _).mem_iff.1 hpm
  obtain ⟨x, hx, rfl⟩ := List.mem_map.1 hpm
  obtain ⟨y, hy⟩ := F.reads x hx
  rw [WideElems.rg_of hy]
  obtain ⟨z, _, hz⟩ := WideMaps.string_of_keyOf Tryz.underlying9 (WideElems.rd_key hy)
  exact ⟨_, hz.1⟩
theorem skeys_perm {V : Type} {enc : V → Value} {w : World} {n mb : Nat} {D : HD} {l : List (ByteArray × V)} (hk : SortK l) (h : w.ownsMap Tryz.prog 9 heldR mb n D) (hh : HoldsS enc D l) : (l.map fun x => x.1.data.toList).Perm (strKeys D) := by
  obtain ⟨es, rfl, hp, hs⟩ := own_str_keys h
  refine perm_strKeys hp hs (nodup_keys hk) (fun x => ?_)
  have hx := hh.has ⟨x.toArray⟩
  have ek : kS ⟨x.toArray⟩ = .string x := by unfold kS; simp
  rw [ek] at hx
  rw [hx]
  constructor
  · intro hm
    obtain ⟨y, hy, rfl⟩ := List.mem_map.1 hm
    rw [(getL_some hk (v := y.2)).2 (by simpa using hy)]; rfl
  · intro hm
    obtain ⟨v, hv⟩ := Option.isSome_iff_exists.1 hm
    exact List.mem_map.2 ⟨_, (getL_some hk).1 hv, by simp⟩
theorem row_keys {V : Type} {w : World} {base : Nat} {v : Value} {l : List (ByteArray × V)} {D : HD} {ss : List (List UInt8)} (hk : SortK l) (hp : ss.Perm (strKeys D)) (hq : (l.map fun x => x.1.data.toList).Perm (strKeys D))
    (h : w.ownsRow base 9 1 v ss.length ((ss.mergeSort (fun x y => decide (x ≤ y))).map encStr)) : Kd.R Kd.string 9 w base (fun _ => True) v (l.map (·.1)) := by
  have hpm := hp.trans hq.symm
  have e := mergeSort_of_perm hpm
  have e2 : ss.mergeSort (fun x y => decide (x ≤ y)) = l.map fun x => x.1.data.toList := by
    have := e
    unfold leB at this
    rw [this]
    exact List.mergeSort_of_pairwise (sorted_keys hk)
  rw [e2, hpm.length_eq, List.length_map] at h
  refine Kd.R_of_own (h1 := fun _ => rfl) ?_ (fun _ _ => trivial)
  rw [List.length_map]
  unfold encs
  rw [List.map_map] at h ⊢
  exact h
theorem keysSN_any (mb : Option Nat) (W : World) : Calls Tryz.prog 160 #[.map mb] W fun e w' => e = .returned (.func (.func 182) #[] #[.pointer (some ⟨W.heap.size, 0, none⟩)]) ∧ w' = W.alloc (.cells #[.map mb] 103) :=
  (callsIn_wide (n := 5)).1 (AnyZ.keys_in Tryz.shKeysN Fence.wide 5 trivial rfl mb W)
theorem keysSB_any (mb : Option Nat) (W : World) : Calls Tryz.prog 69 #[.map mb] W fun e w' => e = .returned (.func (.func 117) #[] #[.pointer (some ⟨W.heap.size, 0, none⟩)]) ∧ w' = W.alloc (.cells #[.map mb] 105) :=
  (callsIn_wide (n := 5)).1 (AnyZ.keys_in Tryz.shKeysB Fence.wide 5 trivial rfl mb W)
theorem sortedSN_any {V : Type} {enc : V → Value} {w : World} {mb : Nat} {l : List (ByteArray × V)} {Bm : Nat} (hM : MS enc w mb l) (hn : l.length ≤ 1000000) (hB : Bm < w.heap.size) (hm : w.cell? ⟨Bm, 0, none⟩ = some (.map (some mb))) :
    Calls Tryz.prog 68 #[.func (.func 182) #[] #[.pointer (some ⟨Bm, 0, none⟩)]] w fun e w' => ∃ v, e = .returned v ∧ Kd.R Kd.string 9 w' w.heap.size (fun _ => True) v (l.map (·.1)) ∧ Below w.heap.size w w' := by
  obtain ⟨hk, D, hown, hh⟩ := hM
  have hsz := hh.size
  have hseq : SeqGives Fence.wide 2 Tryz.prog 182 #[.pointer (some ⟨Bm, 0, none⟩)] encStr (fun ss => ss.Perm (strKeys D)) (Maps.size D) w :=
    AnyZ.keys_gives (ρ := Tryz.shKeysN_ren) { Tryz.shKeysN with } Fence.wide _ trivial rfl (by omega) Bm mb (Maps.size D) D w hB hm hown
  have cS := AnyZ.sorted_in Tryz.shSorted Fence.wide 5 trivial trivial trivial trivial rfl (by omega) (sortsA _) (enters_of Tryz.func116 (by kernel_rfl) rfl) 182 #[.pointer (some ⟨Bm, 0, none⟩)] trivial (enters_of Tryz.func182 (by kernel_rfl) rfl) _ _ (by rw [hsz]; unfold maxLen; omega) (by rw [hsz]; omega) _ hseq
  exact ((callsIn_wide (n := 5)).1 cS).mono fun e w' ⟨v, ss, he, hp, ho, _, hb⟩ => ⟨v, he, row_keys hk hp (skeys_perm hk hown hh) ho, hb⟩
theorem sortedSB_any {V : Type} {enc : V → Value} {w : World} {mb : Nat} {l : List (ByteArray × V)} {Bm : Nat} (hM : MS enc w mb l) (hn : l.length ≤ 1000000) (hB : Bm < w.heap.size) (hm : w.cell? ⟨Bm, 0, none⟩ = some (.map (some mb))) :
    Calls Tryz.prog 68 #[.func (.func 117) #[] #[.pointer (some ⟨Bm, 0, none⟩)]] w fun e w' => ∃ v, e = .returned v ∧ Kd.R Kd.string 9 w' w.heap.size (fun _ => True) v (l.map (·.1)) ∧ Below w.heap.size w w' := by
  obtain ⟨hk, D, hown, hh⟩ := hM
  have hsz := hh.size
  have hseq : SeqGives Fence.wide 2 Tryz.prog 117 #[.pointer (some ⟨Bm, 0, none⟩)] encStr (fun ss => ss.Perm (strKeys D)) (Maps.size D) w :=
    AnyZ.keys_gives (ρ := Tryz.shKeysB_ren) { Tryz.shKeysB with } Fence.wide _ trivial rfl (by omega) Bm mb (Maps.size D) D w hB hm hown
  have cS := AnyZ.sorted_in Tryz.shSorted Fence.wide 5 trivial trivial trivial trivial rfl (by omega) (sortsA _) (enters_of Tryz.func116 (by kernel_rfl) rfl) 117 #[.pointer (some ⟨Bm, 0, none⟩)] trivial (enters_of Tryz.func117 (by kernel_rfl) rfl) _ _ (by rw [hsz]; unfold maxLen; omega) (by rw [hsz]; omega) _ hseq
  exact ((callsIn_wide (n := 5)).1 cS).mono fun e w' ⟨v, ss, he, hp, ho, _, hb⟩ => ⟨v, he, row_keys hk hp (skeys_perm hk hown hh) ho, hb⟩
end Go.Proofs.YtgmlenpcchhmbaaGreat.P
end
section
set_option linter.unusedVariables false
set_option linter.unusedSimpArgs false
namespace Go.Proofs.YtgmlenpcchhmbaaGreat.P
open Go.RowKit Go.Proofs.YtgmlenpcchhmbaaGreatW.PrintWords Go.Proofs.YtgmlenpcchhmbaaGreatW.PrintLast Go.Proofs.YtgmlenpcchhmbaaGreatW.PrintMore
abbrev encN : Int → Value := Value.int .u64
abbrev encB : Bool → Value := Value.bool
abbrev ptrR (g : Nat) : Value := .pointer (some ⟨g, 0, none⟩)
theorem C_atP {w : World} {A : Option Addr} {n : Nat} {xs : List S61} (h : Kd.C k61 w A n xs) (k : Nat) (hk : k < xs.length) : ∃ ad, A = some ad ∧ w.cell? (ad.add (k * 2)) = some (.string xs[k].f0) ∧ w.cell? ⟨(ad.add (k * 2)).block, (ad.add (k * 2)).off + 1, none⟩ = some (.int .u64 xs[k].f1) := by
  obtain ⟨ad, hA, x0, x1⟩ := at_T61 h (k : Int) (by omega) (by have := h.1; omega)
  have er : rd_T61 xs (k : Int) = xs[k] := by
    unfold rd_T61
    rw [Int.toNat_natCast, List.getD_eq_getElem?_getD, List.getElem?_eq_getElem hk]
    rfl
  rw [er, Int.toNat_natCast] at x0 x1
  exact ⟨ad, hA, x0, x1⟩
def keysOk (data : List S61) : Prop := data.length ≤ 1000000 ∧ ∀ p ∈ data, p.f0.size ≤ 1000000
theorem maxLen_ge {n : Nat} (h : n ≤ 1000000) : n ≤ maxLen := by unfold maxLen; omega
theorem foldl_len : ∀ (data : List S61) (l : List (ByteArray × Int)), SortK l → (data.foldl (fun l p => putL l p.f0 p.f1) l).length ≤ l.length + data.length
  | [], _, _ => Nat.le_refl _
  | p :: r, l, h => by
    have := foldl_len r _ (h.put p.f0 p.f1)
    have h2 := putL_len h p.f0 p.f1
    rw [List.foldl_cons, List.length_cons]
    split at h2 <;> omega
theorem mapT_len (data : List S61) : (mapT data).length ≤ data.length := by
  have := foldl_len data [] .nil
  simpa [mapT] using this
theorem zeroNum (w : World) : (zeroValue 58).run Tryz.prog w = .ok (.int .u64 0) w := by kernel_rfl
set_option maxHeartbeats 1000000 in
theorem mapped_any (A : Option Addr) (c : Nat) (data : List S61) (w : World) (hr : Kd.C k61 w A data.length data) (hk : keysOk data) :
    Calls Tryz.prog 66 #[.slice A data.length c] w fun e w' => e = .returned (.map (some w.heap.size)) ∧ MS encN w' w.heap.size (mapT data) ∧ Below w.heap.size w w' := by
  have hm := Kd.C_max hr
  have HR := Lib.hid hr; clear hr
  have HK := Lib.hid hk; clear hk
  have hmm := @run_makeMap Tryz.prog
  go_enter Tryz.func66, Tryz.ntmps66
  go_wp2
  go_loopw [5, 9] (fun _ i wr => ∃ k : Nat, i = .int .i64 k ∧ k ≤ data.length ∧ RowKit.Hid (MS encN wr w.heap.size (mapT (data.take k)) ∧ Below w.heap.size w wr)) (fun _ i _ => data.length - (intOf i).toNat)
  case atStart => exact ⟨0, rfl, Nat.zero_le _, Lib.hid ⟨MS.made encN w, (Below.refl _ _).alloc (Nat.le_refl _) _⟩⟩
  case round =>
    obtain ⟨k, rfl, hk, HM⟩ := hrel
    by_cases hlt : k < data.length
    · obtain ⟨ad, hA, d0, d1⟩ := C_atP (Kd.C_below HR.out HM.out.2) k hlt
      subst hA
      have hsz := maxLen_ge (HK.out.2 data[k] (List.getElem_mem hlt))
      have hst : mapT (data.take (k + 1)) = putL (mapT (data.take k)) data[k].f0 data[k].f1 := by
        unfold mapT
        rw [List.take_succ_eq_append_getElem hlt, List.foldl_append]; rfl
      generalize data[k] = x at *
      obtain ⟨x0, x1⟩ := x
      simp only at d0 d1 hsz hst
      have hb1 : Below wr.heap.size wr (wr.alloc (.cells #[.string x0, .int .u64 x1] 61)) := (Below.refl _ _).alloc (Nat.le_refl _) _
      obtain ⟨w2, hput, hm2, hu2⟩ := (HM.out.1.below hb1).put Tryz.underlying103 hsz (by have h1 := mapT_len (data.take k); have h2 := HK.out.1; rw [List.length_take] at h1; unfold maxLen; omega) x1
      have HN := Lib.hid (And.intro hm2 (And.intro hst (HM.out.2.trans ((hu2.below (B := w.heap.size) (by have := HM.out.2.size; simp; omega) (fun q hq e => by omega)) |> fun z => (hb1.mono HM.out.2.size).trans z))))
      clear hm2 hst hu2 hb1
      go_wp2
      go_roundw
      case rel => exact ⟨k + 1, by go_num, by omega, Lib.hid ⟨by rw [HN.out.2.1]; exact HN.out.1, HN.out.2.2⟩⟩
      case measure => simp [intOf]; omega
    · obtain rfl : k = data.length := by omega
      rw [List.take_length] at HM
      go_wp2
      go_ret
      exact ⟨rfl, HM.out⟩
structure RunIs (w : World) (g mb cb : Nat) (s : St) : Prop where
  blk : Blk w g 107 #[.map (some mb), .map (some cb)]
  ne : mb ≠ cb
  d : MS encN w mb s.d
  c : MS encB w cb s.c
theorem RunIs.upd {w w' : World} {S : Nat → Prop} {g mb cb : Nat} {s : St} (h : RunIs w g mb cb s) (hu : Upd w w' S) (h1 : ¬ S g) (h2 : ¬ S mb) (h3 : ¬ S cb) : RunIs w' g mb cb s :=
  ⟨h.blk.upd hu h1, h.ne, h.d.upd hu h2, h.c.upd hu h3⟩
theorem RunIs.below {w w' : World} {g mb cb : Nat} {s : St} (h : RunIs w g mb cb s) (hb : Below w.heap.size w w') : RunIs w' g mb cb s := h.upd (Upd.of_below hb (fun _ => False)) (fun h => h) (fun h => h) (fun h => h)
def St.small (s : St) : Prop := s.d.length ≤ 2000000 ∧ s.c.length ≤ 2000000
theorem rnput_any {w : World} {g mb cb : Nat} {s : St} (h : RunIs w g mb cb s) (hs : s.small) (k : ByteArray) (hk : k.size ≤ maxLen) (n : Int) :
    Calls Tryz.prog 144 #[ptrR g, .string k, .int .u64 n] w fun e w' => e = .returned (.tuple #[]) ∧ RunIs w' g mb cb (s.put k n) ∧ Upd w w' (fun b => b = mb ∨ b = cb) := by
  have hgm : g ≠ mb := h.d.block h.blk
  have hgc : g ≠ cb := h.c.block h.blk
  obtain ⟨w1, hp1, hd1, hu1⟩ := h.d.put Tryz.underlying103 hk (by have := hs.1; unfold maxLen; omega) n
  obtain ⟨w2, hp2, hc2, hu2⟩ := (h.c.upd hu1 (fun e => h.ne e.symm)).put Tryz.underlying105 hk (by have := hs.2; unfold maxLen; omega) true
  have hB1 := h.blk.upd hu1 hgm
  have c0 : w.cell? ⟨g, 0, none⟩ = some (.map (some mb)) := h.blk.cell 0
  have c1 : w1.cell? ⟨g, 1, none⟩ = some (.map (some cb)) := hB1.cell 1
  have HH := Lib.hid (And.intro (RunIs.mk (s := s.put k n) (hB1.upd hu2 hgc) h.ne (hd1.upd hu2 h.ne) hc2) ((hu1.mono fun _ _ e => Or.inl e).trans (hu2.mono fun _ _ e => Or.inr e)))
  clear h hd1 hu1 hc2 hu2 hB1 hgm hgc
  go_enter Tryz.func144, Tryz.ntmps144
  go_wp2
  (try simp only [Exit.inBlock, Exit.then]); refine bodyPost_end (results_none rfl _ _ _) rfl ?_
  exact ⟨rfl, HH.out⟩
end Go.Proofs.YtgmlenpcchhmbaaGreat.P
end
section
set_option linter.unusedVariables false
set_option linter.unusedSimpArgs false

end
section
set_option linter.unusedVariables false
set_option linter.unusedSimpArgs false

end
section
set_option linter.unusedVariables false
set_option linter.unusedSimpArgs false
namespace Go.Proofs.YtgmlenpcchhmbaaGreat.P
open Go.RowKit Go.Proofs.YtgmlenpcchhmbaaGreatW.PrintWords Go.Proofs.YtgmlenpcchhmbaaGreatW.PrintLast Go.Proofs.YtgmlenpcchhmbaaGreatW.PrintMore
structure AtK (xs : List S61) (k : ByteArray) (i : Nat) : Prop where
  le : i ≤ xs.length
  low : ∀ (q : Nat) (x : S61), q < i → xs[q]? = some x → klt x.f0 k = true
  high : ∀ (q : Nat) (x : S61), i ≤ q → xs[q]? = some x → klt x.f0 k = false
end Go.Proofs.YtgmlenpcchhmbaaGreat.P
end
section
set_option linter.unusedVariables false
set_option linter.unusedSimpArgs false
namespace Go.Proofs.YtgmlenpcchhmbaaGreat.P
open Go.RowKit Go.Proofs.YtgmlenpcchhmbaaGreatW.PrintWords Go.Proofs.YtgmlenpcchhmbaaGreatW.PrintLast Go.Proofs.YtgmlenpcchhmbaaGreatW.PrintMore
theorem AtK.tail {x : S61} {xs : List S61} {k : ByteArray} {i : Nat} (h : AtK (x :: xs) k (i + 1)) : AtK xs k i :=
  ⟨by have := h.le; rw [List.length_cons] at this; omega, fun q y hq hy => h.low (q + 1) y (by omega) (by simpa using hy), fun q y hq hy => h.high (q + 1) y (by omega) (by simpa using hy)⟩
end Go.Proofs.YtgmlenpcchhmbaaGreat.P
end
section
set_option linter.unusedVariables false
set_option linter.unusedSimpArgs false
namespace Go.Proofs.YtgmlenpcchhmbaaGreat.P
def Cov (d0 : List (ByteArray × Int)) (s : St) : Prop := ∀ k, getL s.c k = none → getL s.d k = getL d0 k
theorem Cov.put {d0 : List (ByteArray × Int)} {s : St} (h : Cov d0 s) (k : ByteArray) (n : Int) : Cov d0 (s.put k n) := fun x hx => by
  unfold St.put at hx ⊢
  simp only [getL_put] at hx ⊢
  by_cases e : x = k
  · rw [if_pos e] at hx; cases hx
  · rw [if_neg e] at hx ⊢; exact h x hx
theorem Cov.drop {d0 : List (ByteArray × Int)} {s : St} (h : Cov d0 s) (k : ByteArray) : Cov d0 (s.drop k) := fun x hx => by
  unfold St.drop at hx ⊢
  simp only [getL_put, getL_del] at hx ⊢
  by_cases e : x = k
  · rw [if_pos e] at hx; cases hx
  · rw [if_neg e] at hx ⊢; exact h x hx
theorem Cov.step {d0 : List (ByteArray × Int)} {s : St} (h : Cov d0 s) (o : S63) : Cov d0 (stepS o s) := by
  unfold stepS
  repeat' split
  all_goals first | exact h | exact h.put _ _ | exact h.drop _ | exact (h.put _ _).put _ _
theorem Cov.run {d0 : List (ByteArray × Int)} : ∀ (l : List S63) {s : St}, Cov d0 s → Cov d0 (runS l s)
  | [], _, h => h
  | o :: l, _, h => Cov.run l (h.step o)
theorem putL_le2 {V : Type} : ∀ (l : List (ByteArray × V)) (k : ByteArray) (v : V), (putL l k v).length ≤ l.length + 1
  | [], _, _ => Nat.le_refl _
  | x :: r, k, v => by
    rw [putL]
    have := putL_le2 r k v
    repeat' split
    all_goals simp only [List.length_cons] at *; omega
theorem delL_le2 {V : Type} (l : List (ByteArray × V)) (k : ByteArray) : (delL l k).length ≤ l.length := List.length_filter_le _ _
theorem St.drop_le (s : St) (k : ByteArray) : (s.drop k).d.length ≤ s.d.length + 1 ∧ (s.drop k).c.length ≤ s.c.length + 1 := ⟨Nat.le_succ_of_le (delL_le2 _ _), putL_le2 _ _ _⟩
def KeysD (d : List (ByteArray × Int)) : Prop := ∀ x ∈ d, x.1.size ≤ 16
theorem KeysD.put {d : List (ByteArray × Int)} (h : KeysD d) {k : ByteArray} (hk : k.size ≤ 16) (n : Int) : KeysD (putL d k n) := fun x hx => by
  rcases mem_putL hx with rfl | hx
  · exact hk
  · exact h x hx
theorem KeysD.del {d : List (ByteArray × Int)} (h : KeysD d) (k : ByteArray) : KeysD (delL d k) := fun x hx => h x (List.mem_filter.1 hx).1
theorem KeysD.step {s : St} (h : KeysD s.d) {o : S63} (h1 : o.f1.size ≤ 16) (h2 : o.f2.size ≤ 16) : KeysD (stepS o s).d := by
  unfold stepS
  repeat' split
  all_goals first | exact h | exact h.put h1 _ | exact h.del _ | exact (h.put h1 _).put h2 _
theorem KeysD.run : ∀ (l : List S63) {s : St}, KeysD s.d → (∀ o ∈ l, o.f1.size ≤ 16 ∧ o.f2.size ≤ 16) → KeysD (runS l s).d
  | [], _, h, _ => h
  | o :: l, _, h, ho => KeysD.run l (h.step (ho o (List.mem_cons_self ..)).1 (ho o (List.mem_cons_self ..)).2) (fun x hx => ho x (List.mem_cons_of_mem _ hx))
end Go.Proofs.YtgmlenpcchhmbaaGreat.P
end
section
set_option linter.unusedVariables false
set_option linter.unusedSimpArgs false
namespace Go.Proofs.YtgmlenpcchhmbaaGreat.P
open Go.RowKit Go.Proofs.YtgmlenpcchhmbaaGreatW.PrintWords Go.Proofs.YtgmlenpcchhmbaaGreatW.PrintLast Go.Proofs.YtgmlenpcchhmbaaGreatW.PrintMore
def StepOut (w : World) (g mb cb : Nat) (a : S65) (s' : St) (e : Ending) (w' : World) : Prop :=
  ∃ vs, e = .returned (.agg #[.bool a.f0, .int .u64 a.f1, vs]) ∧ Kd.R k61 61 w' w.heap.size (fun _ => True) vs a.f2 ∧ RunIs w' g mb cb s' ∧ Upd w w' (fun b => b = mb ∨ b = cb)
abbrev opV (o : S63) : Value := .agg #[.int .i64 o.f0, .string o.f1, .string o.f2, .int .u64 o.f3]
theorem StepOut.drew {w : World} {g mb cb : Nat} {a : S65} {s' : St} {e : Ending} {w' : World} (h : StepOut w g mb cb a s' e w') : StepOut w g mb cb a s' e w'.drew := by
  obtain ⟨vs, he, hv, hr, hu⟩ := h
  exact ⟨vs, he, Kd.R_drew hv, hr.below (below_drew (Below.refl _ _)), hu.drew⟩
structure Boxed (w W : World) (g mb cb : Nat) (s : St) (o : S63) (y : Bool) (n : Int) (v : Value) : Prop where
  upd : Upd w W (fun b => b = mb ∨ b = cb)
  run : RunIs W g mb cb s
  op : Blk W w.heap.size 63 #[.int .i64 o.f0, .string o.f1, .string o.f2, .int .u64 o.f3]
  ans : Blk W (w.heap.size + 1) 65 #[.bool y, .int .u64 n, v]
theorem boxed {w : World} {g mb cb : Nat} {s : St} (h : RunIs w g mb cb s) (o : S63) : Boxed w ((w.alloc (.cells #[.int .i64 o.f0, .string o.f1, .string o.f2, .int .u64 o.f3] 63)).alloc (.cells #[.bool false, .int .u64 0, .slice none 0 0] 65)) g mb cb s o false 0 (.slice none 0 0) := by
  have hb : Below w.heap.size w ((w.alloc (.cells #[.int .i64 o.f0, .string o.f1, .string o.f2, .int .u64 o.f3] 63)).alloc (.cells #[.bool false, .int .u64 0, .slice none 0 0] 65)) := ((Below.refl _ _).alloc (Nat.le_refl _) _).alloc (by simp) _
  refine ⟨Upd.of_below hb _, h.below hb, (Blk.new w 63 _).alloc _, ?_⟩
  have := Blk.new (w.alloc (.cells #[.int .i64 o.f0, .string o.f1, .string o.f2, .int .u64 o.f3] 63)) 65 #[.bool false, .int .u64 0, .slice none 0 0]
  simpa using this
theorem Boxed.lt {w W : World} {g mb cb : Nat} {s : St} {o : S63} {y : Bool} {n : Int} {v : Value} (h : Boxed w W g mb cb s o y n v) (hr : RunIs w g mb cb s) : g < w.heap.size ∧ mb < w.heap.size ∧ cb < w.heap.size := ⟨hr.blk.lt, hr.d.lt, hr.c.lt⟩
theorem Boxed.drew {w W : World} {g mb cb : Nat} {s : St} {o : S63} {y : Bool} {n : Int} {v : Value} (h : Boxed w W g mb cb s o y n v) : Boxed w W.drew g mb cb s o y n v := ⟨h.upd.drew, h.run.below (below_drew (Below.refl _ _)), h.op.drew, h.ans.drew⟩
theorem Boxed.out {w W : World} {g mb cb : Nat} {s : St} {o : S63} {y y' : Bool} {n n' : Int} {v vs : Value} {ps : List S61} (h : Boxed w W g mb cb s o y n v) (hl : g < w.heap.size ∧ mb < w.heap.size ∧ cb < w.heap.size) (hv : Kd.R k61 61 W w.heap.size (fun q => q ≠ w.heap.size + 1) vs ps) :
    StepOut w g mb cb ⟨y', n', ps⟩ s (.returned (.agg #[.bool y', .int .u64 n', vs])) (((W.setCell ⟨w.heap.size + 1, 0, none⟩ (.bool y')).setCell ⟨w.heap.size + 1, 1, none⟩ (.int .u64 n')).setCell ⟨w.heap.size + 1, 2, none⟩ vs) := by
  have hu : Upd W (((W.setCell ⟨w.heap.size + 1, 0, none⟩ (.bool y')).setCell ⟨w.heap.size + 1, 1, none⟩ (.int .u64 n')).setCell ⟨w.heap.size + 1, 2, none⟩ vs) (· = w.heap.size + 1) :=
    (((Upd.refl W (· = w.heap.size + 1)).setCell (p := ⟨w.heap.size + 1, 0, none⟩) (.inl rfl) _).setCell (p := ⟨w.heap.size + 1, 1, none⟩) (.inl rfl) _).setCell (p := ⟨w.heap.size + 1, 2, none⟩) (.inl rfl) _
  refine ⟨vs, rfl, Kd.R_mono (Kd.R_step hv (fun k hk hlt => hu.block k hlt hk)) (fun _ _ => trivial), h.run.upd hu (by omega) (by omega) (by omega), ?_⟩
  exact ((h.upd.setCell (p := ⟨w.heap.size + 1, 0, none⟩) (.inr (Nat.le_succ _)) _).setCell (p := ⟨w.heap.size + 1, 1, none⟩) (.inr (Nat.le_succ _)) _).setCell (p := ⟨w.heap.size + 1, 2, none⟩) (.inr (Nat.le_succ _)) _
theorem Boxed.fin {w W : World} {g mb cb : Nat} {s : St} {o : S63} {y y' : Bool} {n n' : Int} {v vs : Value} (h : Boxed w W g mb cb s o y n v) : Blk (((W.setCell ⟨w.heap.size + 1, 0, none⟩ (.bool y')).setCell ⟨w.heap.size + 1, 1, none⟩ (.int .u64 n')).setCell ⟨w.heap.size + 1, 2, none⟩ vs) (w.heap.size + 1) 65 #[.bool y', .int .u64 n', vs] :=
  ((h.ans.set_ 0 _).set_ 1 _).set_ 2 _
theorem Boxed.put {w W W' : World} {g mb cb : Nat} {s s' : St} {o : S63} {y : Bool} {n : Int} {v : Value} (h : Boxed w W g mb cb s o y n v) (hl : g < w.heap.size ∧ mb < w.heap.size ∧ cb < w.heap.size) (hr : RunIs W' g mb cb s') (hu : Upd W W' (fun b => b = mb ∨ b = cb)) : Boxed w W' g mb cb s' o y n v :=
  ⟨h.upd.trans hu, hr, h.op.upd hu (by omega), h.ans.upd hu (by omega)⟩
theorem Boxed.drewN {w W : World} {g mb cb : Nat} {s : St} {o : S63} {y : Bool} {n : Int} {v : Value} (h : Boxed w W g mb cb s o y n v) (m : Nat) : Boxed w (W.drewN m) g mb cb s o y n v := ⟨h.upd.drewN m, h.run.below (pw_below_drewN (Below.refl _ _) m), h.op.drewN m, h.ans.drewN m⟩
section
variable {w : World} {g mb cb : Nat} {s : St}
set_option maxHeartbeats 1000000 in
set_option maxRecDepth 100000 in
theorem rnget_any (h : RunIs w g mb cb s) (o : S63) (hk : o.f1.size ≤ maxLen) : Calls Tryz.prog 109 #[ptrR g, opV o] w (StepOut w g mb cb ⟨s.has o.f1, s.at o.f1, []⟩ s) := by
  have hX := boxed h o
  obtain ⟨W, hW⟩ : ∃ W, ((w.alloc (.cells #[.int .i64 o.f0, .string o.f1, .string o.f2, .int .u64 o.f3] 63)).alloc (.cells #[.bool false, .int .u64 0, .slice none 0 0] 65)) = W := ⟨_, rfl⟩
  rw [hW] at hX
  have hlt := hX.lt h
  have hg : W.cell? ⟨g, 0, none⟩ = some (.map (some mb)) := hX.run.blk.cell 0
  have hk1 : W.cell? ⟨w.heap.size, 1, none⟩ = some (.string o.f1) := hX.op.cell 1
  have hl := (hX.drew.run.d).look Tryz.underlying103 (zeroNum _) hk
  have hy : (getL s.d o.f1).isSome = s.has o.f1 := rfl
  have hn : ((getL s.d o.f1).map encN).getD (.int .u64 0) = .int .u64 (s.at o.f1) := by unfold St.at; cases getL s.d o.f1 <;> rfl
  rw [hy, hn] at hl
  clear hy hn
  generalize s.has o.f1 = y at *
  generalize s.at o.f1 = n at *
  have HX := Lib.hid (And.intro hX hlt); clear h hX hlt
  go_enter Tryz.func109, Tryz.ntmps109
  go_upto_region 1 with fail
  clear hW
  refine wp_region_held (S := (fun W => W.cell? ⟨g, 0, none⟩ = some (.map (some mb)) ∧ W.cell? ⟨w.heap.size, 1, none⟩ = some (.string o.f1) ∧ (Instr.lookup 103 (.map (some mb)) (.string o.f1) true).run Tryz.prog W = .ok (.tuple #[.int .u64 n, .bool y]) W)) (by kernel_rfl) ?_
  simp only [List.size_toArray, List.length_cons, List.length_nil, Nat.zero_add, Nat.reduceAdd]
  have hHeld : ((fun W => W.cell? ⟨g, 0, none⟩ = some (.map (some mb)) ∧ W.cell? ⟨w.heap.size, 1, none⟩ = some (.string o.f1) ∧ (Instr.lookup 103 (.map (some mb)) (.string o.f1) true).run Tryz.prog W = .ok (.tuple #[.int .u64 n, .bool y]) W)) W.drew := ⟨hg, hk1, hl⟩
  refine tk_ 0 hHeld ?_
  refine tk_ 1 hHeld ?_
  refine tk_ 2 hHeld ?_
  refine tk_ 3 hHeld ?_
  refine tk_ 4 hHeld ?_
  refine tk_ 5 hHeld ?_
  refine tk_ 6 hHeld ?_
  refine tk_ 7 hHeld ?_
  refine tk_ 8 hHeld ?_
  refine tk_ 9 hHeld ?_
  refine tk_ 10 hHeld ?_
  refine tk_ 11 hHeld ?_
  refine wpAnyH_done (by kernel_rfl) ?_ _
  clear hHeld hl hg hk1
  have a0 : W.cell? ⟨w.heap.size + 1, 0, none⟩ = some (.bool false) := HX.out.1.ans.cell 0
  have a1 : W.cell? ⟨w.heap.size + 1, 1, none⟩ = some (.int .u64 0) := HX.out.1.ans.cell 1
  have a2 : W.cell? ⟨w.heap.size + 1, 2, none⟩ = some (.slice none 0 0) := HX.out.1.ans.cell 2
  have z0 := HX.out.1.ans.frozen 0
  have z1 := HX.out.1.ans.frozen 1
  have z2 := HX.out.1.ans.frozen 2
  go_wp2
  refine bodyPost_ret (results_cell_row (by rfl) _ _ (w.heap.size + 1) 65 #[.bool y, .int .u64 n, .slice none 0 0] (0, 0) _ (by rfl) HX.out.1.fin.drew Tryz.underlying65 (by rfl) (by kernel_rfl)) rfl ?_
  exact (HX.out.1.out HX.out.2 (Kd.R_nil _ _ _ _ _)).drew
set_option maxHeartbeats 1000000 in
set_option maxRecDepth 100000 in
theorem rnset_any (h : RunIs w g mb cb s) (hs : s.small) (o : S63) (hk : o.f1.size ≤ maxLen) : Calls Tryz.prog 111 #[ptrR g, opV o] w (StepOut w g mb cb ⟨true, 0, []⟩ (s.put o.f1 o.f3)) := by
  have hX := boxed h o
  obtain ⟨W, hW⟩ : ∃ W, ((w.alloc (.cells #[.int .i64 o.f0, .string o.f1, .string o.f2, .int .u64 o.f3] 63)).alloc (.cells #[.bool false, .int .u64 0, .slice none 0 0] 65)) = W := ⟨_, rfl⟩
  rw [hW] at hX
  have hlt := hX.lt h
  have hk1 : W.cell? ⟨w.heap.size, 1, none⟩ = some (.string o.f1) := hX.op.cell 1
  have hk3 : W.cell? ⟨w.heap.size, 3, none⟩ = some (.int .u64 o.f3) := hX.op.cell 3
  have HP := Lib.hid (rnput_any hX.run hs o.f1 hk o.f3)
  have HX := Lib.hid (And.intro hX hlt); clear h hX hlt
  go_enter Tryz.func111, Tryz.ntmps111
  go_wp2_with fail
  refine HP.out.mono ?_
  rintro e w1 ⟨rfl, hr1, hu1⟩
  have HX1 := Lib.hid (And.intro (HX.out.1.put HX.out.2 hr1 hu1) HX.out.2)
  clear hr1 hu1 hW hk1 hk3
  have a0 : w1.cell? ⟨w.heap.size + 1, 0, none⟩ = some (.bool false) := HX1.out.1.ans.cell 0
  have a1 : w1.cell? ⟨w.heap.size + 1, 1, none⟩ = some (.int .u64 0) := HX1.out.1.ans.cell 1
  have a2 : w1.cell? ⟨w.heap.size + 1, 2, none⟩ = some (.slice none 0 0) := HX1.out.1.ans.cell 2
  have z0 := HX1.out.1.ans.frozen 0
  have z1 := HX1.out.1.ans.frozen 1
  have z2 := HX1.out.1.ans.frozen 2
  go_wp2
  refine bodyPost_ret (results_cell_row (by rfl) _ _ (w.heap.size + 1) 65 #[.bool true, .int .u64 0, .slice none 0 0] (0, 0) _ (by rfl) HX1.out.1.fin Tryz.underlying65 (by rfl) (by kernel_rfl)) rfl ?_
  exact HX1.out.1.out HX1.out.2 (Kd.R_nil _ _ _ _ _)
set_option maxHeartbeats 1000000 in
set_option maxRecDepth 100000 in
theorem rnadd_any (h : RunIs w g mb cb s) (hs : s.small) (o : S63) (hk : o.f1.size ≤ maxLen) : Calls Tryz.prog 112 #[ptrR g, opV o] w (StepOut w g mb cb ⟨s.has o.f1, addN (s.at o.f1) o.f3, []⟩ (s.put o.f1 (addN (s.at o.f1) o.f3))) := by
  have hX := boxed h o
  obtain ⟨W, hW⟩ : ∃ W, ((w.alloc (.cells #[.int .i64 o.f0, .string o.f1, .string o.f2, .int .u64 o.f3] 63)).alloc (.cells #[.bool false, .int .u64 0, .slice none 0 0] 65)) = W := ⟨_, rfl⟩
  rw [hW] at hX
  have hlt := hX.lt h
  have hg : W.cell? ⟨g, 0, none⟩ = some (.map (some mb)) := hX.run.blk.cell 0
  have hk1 : W.cell? ⟨w.heap.size, 1, none⟩ = some (.string o.f1) := hX.op.cell 1
  have hl := (hX.drew.run.d).look Tryz.underlying103 (zeroNum _) hk
  have hy : (getL s.d o.f1).isSome = s.has o.f1 := rfl
  have hn : ((getL s.d o.f1).map encN).getD (.int .u64 0) = .int .u64 (s.at o.f1) := by unfold St.at; cases getL s.d o.f1 <;> rfl
  rw [hy, hn] at hl
  clear hy hn
  have hnew : ((getL (s.put o.f1 (addN (s.at o.f1) o.f3)).d o.f1).map encN).getD (.int .u64 0) = .int .u64 (addN (s.at o.f1) o.f3) := by
    show ((getL (putL s.d o.f1 (addN (s.at o.f1) o.f3)) o.f1).map encN).getD _ = _
    rw [getL_put, if_pos rfl]; rfl
  have HA := Lib.hid (nAdd_any (s.at o.f1) o.f3)
  generalize s.has o.f1 = y at *
  generalize s.at o.f1 = n at *
  generalize addN n o.f3 = m at *
  have HNEW := Lib.hid hnew; clear hnew
  have HX := Lib.hid (And.intro hX hlt); clear h hX hlt
  go_enter Tryz.func112, Tryz.ntmps112
  go_upto_region 1 with fail
  clear hW
  refine wp_region_held (S := (fun W => W.cell? ⟨g, 0, none⟩ = some (.map (some mb)) ∧ W.cell? ⟨w.heap.size, 1, none⟩ = some (.string o.f1) ∧ (Instr.lookup 103 (.map (some mb)) (.string o.f1) true).run Tryz.prog W = .ok (.tuple #[.int .u64 n, .bool y]) W)) (by kernel_rfl) ?_
  simp only [List.size_toArray, List.length_cons, List.length_nil, Nat.zero_add, Nat.reduceAdd]
  have hHeld : ((fun W => W.cell? ⟨g, 0, none⟩ = some (.map (some mb)) ∧ W.cell? ⟨w.heap.size, 1, none⟩ = some (.string o.f1) ∧ (Instr.lookup 103 (.map (some mb)) (.string o.f1) true).run Tryz.prog W = .ok (.tuple #[.int .u64 n, .bool y]) W)) W.drew := ⟨hg, hk1, hl⟩
  refine tk_ 0 hHeld ?_
  refine tk_ 1 hHeld ?_
  refine tk_ 2 hHeld ?_
  refine tk_ 3 hHeld ?_
  refine tk_ 4 hHeld ?_
  refine tk_ 5 hHeld ?_
  refine tk_ 6 hHeld ?_
  refine tk_ 7 hHeld ?_
  refine tk_ 8 hHeld ?_
  refine tk_ 9 hHeld ?_
  refine tk_ 10 hHeld ?_
  refine tk_ 11 hHeld ?_
  refine wpAnyH_done (by kernel_rfl) ?_ _
  clear hHeld hl hg
  have hk3 : W.cell? ⟨w.heap.size, 3, none⟩ = some (.int .u64 o.f3) := HX.out.1.op.cell 3
  go_upto_region 2 with fail
  refine wp_region_last1_held (S := (fun V => Drawn0 W V ∧ V.cell? ⟨w.heap.size, 1, none⟩ = some (.string o.f1) ∧ V.cell? ⟨w.heap.size, 3, none⟩ = some (.int .u64 o.f3))) (l := [_, _, _, _, _, _, _]) (o := _) (by kernel_rfl) (by kernel_rfl) ?_
  simp only [List.size_toArray, List.length_cons, List.length_nil, Nat.zero_add, Nat.reduceAdd]
  have hHeld : ((fun V => Drawn0 W V ∧ V.cell? ⟨w.heap.size, 1, none⟩ = some (.string o.f1) ∧ V.cell? ⟨w.heap.size, 3, none⟩ = some (.int .u64 o.f3))) W.drew.drew := ⟨⟨2, rfl⟩, hk1, hk3⟩
  refine tk_ 0 hHeld ?_
  refine tk_ 1 hHeld ?_
  refine tk_ 2 hHeld ?_
  refine tk_ 3 hHeld ?_
  refine tk_ 4 hHeld ?_
  refine tk_ 5 hHeld ?_
  refine wpAnyH_ready (rs := [6]) (by kernel_rfl) (by simp) ?_
  refine (AllReadyH.cons rfl (fun K hK => ?_) AllReadyH.nil)
  go_simp
  refine (HA.out _).mono ?_
  rintro e w1 ⟨rfl, n1, rfl⟩
  refine hK.out _ _ ?_ (fun hHeld => ?_)
  · exact ⟨hHeld.1.step n1, hHeld.2.1, hHeld.2.2⟩
  clear hK K
  try simp only [List.getElem_toArray, List.getElem_cons_succ, List.getElem_cons_zero, Act.put, List.setIfInBounds_toArray, List.set_cons_zero, List.set_cons_succ]
  refine wpAnyH_done (by kernel_rfl) ?_ _
  refine lastPost_wp ?_
  obtain ⟨⟨q, hq⟩, _, _⟩ := hHeld
  rw [hq]
  clear hq
  have hXq := HX.out.1.drewN q
  have HP := Lib.hid (rnput_any hXq.run hs o.f1 hk m)
  have HXq := Lib.hid hXq
  clear hXq hk1 hk3
  generalize W.drewN q = V at *
  go_wp2_with fail
  refine HP.out.mono ?_
  rintro e w3 ⟨rfl, hr3, hu3⟩
  have hX3 := HXq.out.put HX.out.2 hr3 hu3
  have hg3 : w3.cell? ⟨g, 0, none⟩ = some (.map (some mb)) := hX3.run.blk.cell 0
  have hk3 : w3.cell? ⟨w.heap.size, 1, none⟩ = some (.string o.f1) := hX3.op.cell 1
  have hl3 := (hX3.drew.run.d).look1 Tryz.underlying103 (zeroNum _) hk
  rw [HNEW.out] at hl3
  have HX3 := Lib.hid (And.intro hX3 HX.out.2)
  clear hr3 hu3 hX3
  go_upto_region 3 with fail
  refine wp_region_last1_held (S := (fun V => V.cell? ⟨g, 0, none⟩ = some (.map (some mb)) ∧ V.cell? ⟨w.heap.size, 1, none⟩ = some (.string o.f1) ∧ (Instr.lookup 103 (.map (some mb)) (.string o.f1) false).run Tryz.prog V = .ok (.int .u64 m) V)) (l := [_, _, _, _, _, _, _, _, _]) (o := _) (by kernel_rfl) (by kernel_rfl) ?_
  simp only [List.size_toArray, List.length_cons, List.length_nil, Nat.zero_add, Nat.reduceAdd]
  have hHeld : ((fun V => V.cell? ⟨g, 0, none⟩ = some (.map (some mb)) ∧ V.cell? ⟨w.heap.size, 1, none⟩ = some (.string o.f1) ∧ (Instr.lookup 103 (.map (some mb)) (.string o.f1) false).run Tryz.prog V = .ok (.int .u64 m) V)) w3.drew := ⟨hg3, hk3, hl3⟩
  refine tk_ 0 hHeld ?_
  refine tk_ 1 hHeld ?_
  refine tk_ 2 hHeld ?_
  refine tk_ 3 hHeld ?_
  refine tk_ 4 hHeld ?_
  refine tk_ 5 hHeld ?_
  refine tk_ 6 hHeld ?_
  refine tk_ 7 hHeld ?_
  refine tk_ 8 hHeld ?_
  refine wpAnyH_done (by kernel_rfl) ?_ _
  refine lastPost_wp ?_
  clear hHeld hg3 hk3 hl3
  have a0 : w3.cell? ⟨w.heap.size + 1, 0, none⟩ = some (.bool false) := HX3.out.1.ans.cell 0
  have a1 : w3.cell? ⟨w.heap.size + 1, 1, none⟩ = some (.int .u64 0) := HX3.out.1.ans.cell 1
  have a2 : w3.cell? ⟨w.heap.size + 1, 2, none⟩ = some (.slice none 0 0) := HX3.out.1.ans.cell 2
  have z0 := HX3.out.1.ans.frozen 0
  have z1 := HX3.out.1.ans.frozen 1
  have z2 := HX3.out.1.ans.frozen 2
  go_wp2
  refine bodyPost_ret (results_cell_row (by rfl) _ _ (w.heap.size + 1) 65 #[.bool y, .int .u64 m, .slice none 0 0] (0, 0) _ (by rfl) HX3.out.1.fin.drew Tryz.underlying65 (by rfl) (by kernel_rfl)) rfl ?_
  exact (HX3.out.1.out HX3.out.2 (Kd.R_nil _ _ _ _ _)).drew
set_option maxHeartbeats 1000000 in
set_option maxRecDepth 100000 in
theorem rndrop_any (h : RunIs w g mb cb s) (hs : s.small) (o : S63) (hk : o.f1.size ≤ maxLen) : Calls Tryz.prog 113 #[ptrR g, opV o] w (StepOut w g mb cb ⟨s.has o.f1, 0, []⟩ (s.drop o.f1)) := by
  have hX := boxed h o
  obtain ⟨W, hW⟩ : ∃ W, ((w.alloc (.cells #[.int .i64 o.f0, .string o.f1, .string o.f2, .int .u64 o.f3] 63)).alloc (.cells #[.bool false, .int .u64 0, .slice none 0 0] 65)) = W := ⟨_, rfl⟩
  rw [hW] at hX
  have hlt := hX.lt h
  have hg : W.cell? ⟨g, 0, none⟩ = some (.map (some mb)) := hX.run.blk.cell 0
  have hk1 : W.cell? ⟨w.heap.size, 1, none⟩ = some (.string o.f1) := hX.op.cell 1
  have hl := (hX.drew.run.d).look Tryz.underlying103 (zeroNum _) hk
  have hy : (getL s.d o.f1).isSome = s.has o.f1 := rfl
  have hn : ((getL s.d o.f1).map encN).getD (.int .u64 0) = .int .u64 (s.at o.f1) := by unfold St.at; cases getL s.d o.f1 <;> rfl
  rw [hy, hn] at hl
  clear hy hn
  generalize s.has o.f1 = y at *
  generalize s.at o.f1 = n at *
  have HX := Lib.hid (And.intro hX hlt); clear h hX hlt
  go_enter Tryz.func113, Tryz.ntmps113
  go_upto_region 1 with fail
  clear hW
  refine wp_region_held (S := (fun W => W.cell? ⟨g, 0, none⟩ = some (.map (some mb)) ∧ W.cell? ⟨w.heap.size, 1, none⟩ = some (.string o.f1) ∧ (Instr.lookup 103 (.map (some mb)) (.string o.f1) true).run Tryz.prog W = .ok (.tuple #[.int .u64 n, .bool y]) W)) (by kernel_rfl) ?_
  simp only [List.size_toArray, List.length_cons, List.length_nil, Nat.zero_add, Nat.reduceAdd]
  have hHeld : ((fun W => W.cell? ⟨g, 0, none⟩ = some (.map (some mb)) ∧ W.cell? ⟨w.heap.size, 1, none⟩ = some (.string o.f1) ∧ (Instr.lookup 103 (.map (some mb)) (.string o.f1) true).run Tryz.prog W = .ok (.tuple #[.int .u64 n, .bool y]) W)) W.drew := ⟨hg, hk1, hl⟩
  refine tk_ 0 hHeld ?_
  refine tk_ 1 hHeld ?_
  refine tk_ 2 hHeld ?_
  refine tk_ 3 hHeld ?_
  refine tk_ 4 hHeld ?_
  refine tk_ 5 hHeld ?_
  refine tk_ 6 hHeld ?_
  refine tk_ 7 hHeld ?_
  refine tk_ 8 hHeld ?_
  refine tk_ 9 hHeld ?_
  refine tk_ 10 hHeld ?_
  refine tk_ 11 hHeld ?_
  refine wpAnyH_done (by kernel_rfl) ?_ _
  clear hHeld hl hg
  have hg1 : W.cell? ⟨g, 1, none⟩ = some (.map (some cb)) := HX.out.1.run.blk.cell 1
  go_upto_region 2 with fail
  refine wp_region_last1_held (S := (fun V => Drawn0 W V ∧ V.cell? ⟨g, 1, none⟩ = some (.map (some cb)) ∧ V.cell? ⟨w.heap.size, 1, none⟩ = some (.string o.f1))) (l := [_, _, _, _, _, _]) (o := _) (by kernel_rfl) (by kernel_rfl) ?_
  simp only [List.size_toArray, List.length_cons, List.length_nil, Nat.zero_add, Nat.reduceAdd]
  have hHeld : ((fun V => Drawn0 W V ∧ V.cell? ⟨g, 1, none⟩ = some (.map (some cb)) ∧ V.cell? ⟨w.heap.size, 1, none⟩ = some (.string o.f1))) W.drew.drew := ⟨⟨2, rfl⟩, hg1, hk1⟩
  refine tk_ 0 hHeld ?_
  refine tk_ 1 hHeld ?_
  refine tk_ 2 hHeld ?_
  refine tk_ 3 hHeld ?_
  refine tk_ 4 hHeld ?_
  refine tk_ 5 hHeld ?_
  refine wpAnyH_done (by kernel_rfl) ?_ _
  refine lastPost_wp ?_
  clear hHeld hg1 hk1
  suffices hz : wpList _ _ _ _ _ (W.drewN 2) from hz
  have hXq := HX.out.1.drewN 2
  obtain ⟨w3, hput, hc3, hu3⟩ := hXq.run.c.put Tryz.underlying105 hk (by have := hs.2; unfold maxLen; omega) true
  have hgm : g ≠ cb := hXq.run.c.block hXq.run.blk
  have hX3 := hXq.put (s' := ⟨s.d, putL s.c o.f1 true⟩) HX.out.2 ⟨hXq.run.blk.upd hu3 hgm, hXq.run.ne, hXq.run.d.upd hu3 hXq.run.ne, hc3⟩ (hu3.mono fun _ _ e => .inr e)
  generalize W.drewN 2 = V at *
  have hg3 : w3.cell? ⟨g, 0, none⟩ = some (.map (some mb)) := hX3.run.blk.cell 0
  have hk3 : w3.cell? ⟨w.heap.size, 1, none⟩ = some (.string o.f1) := hX3.op.cell 1
  have HX3 := Lib.hid hX3
  clear hXq hc3 hu3 hgm hX3
  go_upto_region 3 with fail
  clear hput
  refine wp_region_last1_held (S := (fun U => Drawn0 w3 U ∧ U.cell? ⟨g, 0, none⟩ = some (.map (some mb)) ∧ U.cell? ⟨w.heap.size, 1, none⟩ = some (.string o.f1))) (l := [_, _, _, _, _, _]) (o := _) (by kernel_rfl) (by kernel_rfl) ?_
  simp only [List.size_toArray, List.length_cons, List.length_nil, Nat.zero_add, Nat.reduceAdd]
  have hHeld : ((fun U => Drawn0 w3 U ∧ U.cell? ⟨g, 0, none⟩ = some (.map (some mb)) ∧ U.cell? ⟨w.heap.size, 1, none⟩ = some (.string o.f1))) w3.drew := ⟨⟨1, rfl⟩, hg3, hk3⟩
  refine tk_ 0 hHeld ?_
  refine tk_ 1 hHeld ?_
  refine tk_ 2 hHeld ?_
  refine tk_ 3 hHeld ?_
  refine tk_ 4 hHeld ?_
  refine tk_ 5 hHeld ?_
  refine wpAnyH_done (by kernel_rfl) ?_ _
  refine lastPost_wp ?_
  clear hHeld hg3 hk3
  suffices hz : wpList _ _ _ _ _ (w3.drewN 1) from hz
  have hX4 := HX3.out.drewN 1
  obtain ⟨w4, hdel, hd4, hu4⟩ := hX4.run.d.del Tryz.underlying103 hk 0
  have hgm : g ≠ mb := hX4.run.d.block hX4.run.blk
  have hX5 := hX4.put (s' := s.drop o.f1) HX.out.2 ⟨hX4.run.blk.upd hu4 hgm, hX4.run.ne, hd4, hX4.run.c.upd hu4 (fun e => hX4.run.ne e.symm)⟩ (hu4.mono fun _ _ e => .inl e)
  generalize w3.drewN 1 = V2 at *
  clear hX4 hd4 hu4 hgm
  obtain ⟨w3, hw3⟩ : ∃ w3, w4 = w3 := ⟨_, rfl⟩
  rw [hw3] at hX5 hdel
  clear hw3
  have HX3 := Lib.hid (And.intro hX5 HX.out.2)
  clear hX5
  have a0 : w3.cell? ⟨w.heap.size + 1, 0, none⟩ = some (.bool false) := HX3.out.1.ans.cell 0
  have a1 : w3.cell? ⟨w.heap.size + 1, 1, none⟩ = some (.int .u64 0) := HX3.out.1.ans.cell 1
  have a2 : w3.cell? ⟨w.heap.size + 1, 2, none⟩ = some (.slice none 0 0) := HX3.out.1.ans.cell 2
  have z0 := HX3.out.1.ans.frozen 0
  have z1 := HX3.out.1.ans.frozen 1
  have z2 := HX3.out.1.ans.frozen 2
  go_wp2
  refine bodyPost_ret (results_cell_row (by rfl) _ _ (w.heap.size + 1) 65 #[.bool y, .int .u64 0, .slice none 0 0] (0, 0) _ (by rfl) HX3.out.1.fin Tryz.underlying65 (by rfl) (by kernel_rfl)) rfl ?_
  exact HX3.out.1.out HX3.out.2 (Kd.R_nil _ _ _ _ _)
end
end Go.Proofs.YtgmlenpcchhmbaaGreat.P
end
section
set_option linter.unusedVariables false
set_option linter.unusedSimpArgs false
namespace Go.Proofs.YtgmlenpcchhmbaaGreat.P
open Go.RowKit Go.Proofs.YtgmlenpcchhmbaaGreatW.PrintWords Go.Proofs.YtgmlenpcchhmbaaGreatW.PrintLast Go.Proofs.YtgmlenpcchhmbaaGreatW.PrintMore
theorem ofN_zero : ofN 0 = 0 := by decide
section
variable {w : World} {g mb cb : Nat} {s : St}
set_option maxHeartbeats 1000000 in
set_option maxRecDepth 100000 in
theorem rnmove_no1 (h : RunIs w g mb cb s) (o : S63) (hk : o.f1.size ≤ maxLen) (hc1 : geN (s.at o.f1) o.f3 = false) : Calls Tryz.prog 114 #[ptrR g, opV o] w (StepOut w g mb cb ⟨false, 0, []⟩ s) := by
  have hX := boxed h o
  obtain ⟨W, hW⟩ : ∃ W, ((w.alloc (.cells #[.int .i64 o.f0, .string o.f1, .string o.f2, .int .u64 o.f3] 63)).alloc (.cells #[.bool false, .int .u64 0, .slice none 0 0] 65)) = W := ⟨_, rfl⟩
  rw [hW] at hX
  have hlt := hX.lt h
  have hg : W.cell? ⟨g, 0, none⟩ = some (.map (some mb)) := hX.run.blk.cell 0
  have hk1 : W.cell? ⟨w.heap.size, 1, none⟩ = some (.string o.f1) := hX.op.cell 1
  have hk3 : W.cell? ⟨w.heap.size, 3, none⟩ = some (.int .u64 o.f3) := hX.op.cell 3
  have hl := (hX.drew.run.d).look1 Tryz.underlying103 (zeroNum _) hk
  have hn : ((getL s.d o.f1).map encN).getD (.int .u64 0) = .int .u64 (s.at o.f1) := by unfold St.at; cases getL s.d o.f1 <;> rfl
  rw [hn] at hl
  have HC1 := Lib.hid (nCovers_any (s.at o.f1) o.f3)
  have HC2 := Lib.hid (nCovers_any o.f3 0)
  have HOF := Lib.hid (nOf_any 0)
  rw [ofN_zero] at HOF
  clear hn
  rw [hc1] at HC1
  clear hc1
  generalize s.at o.f1 = n at *
  have HX := Lib.hid (And.intro hX hlt); clear h hX hlt
  go_enter Tryz.func114, Tryz.ntmps114
  go_upto_region 1 with fail
  clear hW
  refine wp_region_held (S := (fun W => W.cell? ⟨g, 0, none⟩ = some (.map (some mb)) ∧ W.cell? ⟨w.heap.size, 1, none⟩ = some (.string o.f1) ∧ (Instr.lookup 103 (.map (some mb)) (.string o.f1) false).run Tryz.prog W = .ok (.int .u64 n) W)) (by kernel_rfl) ?_
  simp only [List.size_toArray, List.length_cons, List.length_nil, Nat.zero_add, Nat.reduceAdd]
  have hHeld : ((fun W => W.cell? ⟨g, 0, none⟩ = some (.map (some mb)) ∧ W.cell? ⟨w.heap.size, 1, none⟩ = some (.string o.f1) ∧ (Instr.lookup 103 (.map (some mb)) (.string o.f1) false).run Tryz.prog W = .ok (.int .u64 n) W)) W.drew := ⟨hg, hk1, hl⟩
  refine tk_ 0 hHeld ?_
  refine tk_ 1 hHeld ?_
  refine tk_ 2 hHeld ?_
  refine tk_ 3 hHeld ?_
  refine tk_ 4 hHeld ?_
  refine tk_ 5 hHeld ?_
  refine tk_ 6 hHeld ?_
  refine tk_ 7 hHeld ?_
  refine wpAnyH_done (by kernel_rfl) ?_ _
  clear hHeld hl hg hk1
  go_upto_region 2 with fail
  refine wp_region_held (S := (fun V => Drawn0 W V ∧ V.cell? ⟨w.heap.size, 3, none⟩ = some (.int .u64 o.f3))) (by kernel_rfl) ?_
  simp only [List.size_toArray, List.length_cons, List.length_nil, Nat.zero_add, Nat.reduceAdd]
  have hHeld : ((fun V => Drawn0 W V ∧ V.cell? ⟨w.heap.size, 3, none⟩ = some (.int .u64 o.f3))) W.drew.drew := ⟨⟨2, rfl⟩, hk3⟩
  refine tk_ 0 hHeld ?_
  refine tk_ 1 hHeld ?_
  refine tk_ 2 hHeld ?_
  refine wpAnyH_ready (rs := [3]) (by kernel_rfl) (by simp) ?_
  refine (AllReadyH.cons rfl (fun K hK => ?_) AllReadyH.nil)
  go_simp
  refine (HC1.out _).mono ?_
  rintro e w1 ⟨rfl, rfl⟩
  refine hK.out _ _ ?_ (fun hHeld => ?_)
  · exact hHeld
  clear hK K
  try simp only [List.getElem_toArray, List.getElem_cons_succ, List.getElem_cons_zero, Act.put, List.setIfInBounds_toArray, List.set_cons_zero, List.set_cons_succ]
  refine tk_ 4 hHeld ?_
  refine tk_ 5 hHeld ?_
  refine tf_ 6 hHeld ?_
  refine tf_ 7 hHeld ?_
  refine tf_ 8 hHeld ?_
  refine tf_ 9 hHeld ?_
  refine tf_ 10 hHeld ?_
  refine tk_ 11 hHeld ?_
  refine wpAnyH_done (by kernel_rfl) ?_ _
  clear hHeld hk3
  suffices hz : Exit.then _ _ _ _ (W.drewN 2) from hz
  obtain ⟨w3, hw3⟩ : ∃ w3, W.drewN 2 = w3 := ⟨_, rfl⟩
  rw [hw3]
  have HX3 := Lib.hid (And.intro (hw3 ▸ HX.out.1.drewN 2) HX.out.2)
  clear hw3 HX
  have a0 : w3.cell? ⟨w.heap.size + 1, 0, none⟩ = some (.bool false) := HX3.out.1.ans.cell 0
  have a1 : w3.cell? ⟨w.heap.size + 1, 1, none⟩ = some (.int .u64 0) := HX3.out.1.ans.cell 1
  have a2 : w3.cell? ⟨w.heap.size + 1, 2, none⟩ = some (.slice none 0 0) := HX3.out.1.ans.cell 2
  have z0 := HX3.out.1.ans.frozen 0
  have z1 := HX3.out.1.ans.frozen 1
  have z2 := HX3.out.1.ans.frozen 2
  go_wp2
  refine bodyPost_ret (results_cell_row (by rfl) _ _ (w.heap.size + 1) 65 #[.bool false, .int .u64 0, .slice none 0 0] (0, 0) _ (by rfl) HX3.out.1.fin Tryz.underlying65 (by rfl) (by kernel_rfl)) rfl ?_
  exact HX3.out.1.out HX3.out.2 (Kd.R_nil _ _ _ _ _)
set_option maxHeartbeats 1000000 in
set_option maxRecDepth 100000 in
theorem rnmove_no2 (h : RunIs w g mb cb s) (o : S63) (hk : o.f1.size ≤ maxLen) (hc1 : geN (s.at o.f1) o.f3 = true) (hc2 : geN o.f3 0 = false) : Calls Tryz.prog 114 #[ptrR g, opV o] w (StepOut w g mb cb ⟨false, 0, []⟩ s) := by
  have hX := boxed h o
  obtain ⟨W, hW⟩ : ∃ W, ((w.alloc (.cells #[.int .i64 o.f0, .string o.f1, .string o.f2, .int .u64 o.f3] 63)).alloc (.cells #[.bool false, .int .u64 0, .slice none 0 0] 65)) = W := ⟨_, rfl⟩
  rw [hW] at hX
  have hlt := hX.lt h
  have hg : W.cell? ⟨g, 0, none⟩ = some (.map (some mb)) := hX.run.blk.cell 0
  have hk1 : W.cell? ⟨w.heap.size, 1, none⟩ = some (.string o.f1) := hX.op.cell 1
  have hk3 : W.cell? ⟨w.heap.size, 3, none⟩ = some (.int .u64 o.f3) := hX.op.cell 3
  have hl := (hX.drew.run.d).look1 Tryz.underlying103 (zeroNum _) hk
  have hn : ((getL s.d o.f1).map encN).getD (.int .u64 0) = .int .u64 (s.at o.f1) := by unfold St.at; cases getL s.d o.f1 <;> rfl
  rw [hn] at hl
  have HC1 := Lib.hid (nCovers_any (s.at o.f1) o.f3)
  have HC2 := Lib.hid (nCovers_any o.f3 0)
  have HOF := Lib.hid (nOf_any 0)
  rw [ofN_zero] at HOF
  clear hn
  rw [hc1] at HC1
  rw [hc2] at HC2
  clear hc1 hc2
  generalize s.at o.f1 = n at *
  have HX := Lib.hid (And.intro hX hlt); clear h hX hlt
  go_enter Tryz.func114, Tryz.ntmps114
  go_upto_region 1 with fail
  clear hW
  refine wp_region_held (S := (fun W => W.cell? ⟨g, 0, none⟩ = some (.map (some mb)) ∧ W.cell? ⟨w.heap.size, 1, none⟩ = some (.string o.f1) ∧ (Instr.lookup 103 (.map (some mb)) (.string o.f1) false).run Tryz.prog W = .ok (.int .u64 n) W)) (by kernel_rfl) ?_
  simp only [List.size_toArray, List.length_cons, List.length_nil, Nat.zero_add, Nat.reduceAdd]
  have hHeld : ((fun W => W.cell? ⟨g, 0, none⟩ = some (.map (some mb)) ∧ W.cell? ⟨w.heap.size, 1, none⟩ = some (.string o.f1) ∧ (Instr.lookup 103 (.map (some mb)) (.string o.f1) false).run Tryz.prog W = .ok (.int .u64 n) W)) W.drew := ⟨hg, hk1, hl⟩
  refine tk_ 0 hHeld ?_
  refine tk_ 1 hHeld ?_
  refine tk_ 2 hHeld ?_
  refine tk_ 3 hHeld ?_
  refine tk_ 4 hHeld ?_
  refine tk_ 5 hHeld ?_
  refine tk_ 6 hHeld ?_
  refine tk_ 7 hHeld ?_
  refine wpAnyH_done (by kernel_rfl) ?_ _
  clear hHeld hl hg hk1
  go_upto_region 2 with fail
  refine wp_region_held (S := (fun V => Drawn0 W V ∧ V.cell? ⟨w.heap.size, 3, none⟩ = some (.int .u64 o.f3))) (by kernel_rfl) ?_
  simp only [List.size_toArray, List.length_cons, List.length_nil, Nat.zero_add, Nat.reduceAdd]
  have hHeld : ((fun V => Drawn0 W V ∧ V.cell? ⟨w.heap.size, 3, none⟩ = some (.int .u64 o.f3))) W.drew.drew := ⟨⟨2, rfl⟩, hk3⟩
  refine tk_ 0 hHeld ?_
  refine tk_ 1 hHeld ?_
  refine tk_ 2 hHeld ?_
  refine wpAnyH_ready (rs := [3]) (by kernel_rfl) (by simp) ?_
  refine (AllReadyH.cons rfl (fun K hK => ?_) AllReadyH.nil)
  go_simp
  refine (HC1.out _).mono ?_
  rintro e w1 ⟨rfl, rfl⟩
  refine hK.out _ _ ?_ (fun hHeld => ?_)
  · exact hHeld
  clear hK K
  try simp only [List.getElem_toArray, List.getElem_cons_succ, List.getElem_cons_zero, Act.put, List.setIfInBounds_toArray, List.set_cons_zero, List.set_cons_succ]
  refine tk_ 4 hHeld ?_
  refine tk_ 5 hHeld ?_
  refine tk_ 6 hHeld ?_
  refine tk_ 7 hHeld ?_
  refine wpAnyH_ready (rs := [8]) (by kernel_rfl) (by simp) ?_
  refine (AllReadyH.cons rfl (fun K hK => ?_) AllReadyH.nil)
  go_simp
  refine (HOF.out _).mono ?_
  rintro e w1 ⟨rfl, rfl⟩
  refine hK.out _ _ ?_ (fun hHeld => ?_)
  · exact hHeld
  clear hK K
  try simp only [List.getElem_toArray, List.getElem_cons_succ, List.getElem_cons_zero, Act.put, List.setIfInBounds_toArray, List.set_cons_zero, List.set_cons_succ]
  refine wpAnyH_ready (rs := [9]) (by kernel_rfl) (by simp) ?_
  refine (AllReadyH.cons rfl (fun K hK => ?_) AllReadyH.nil)
  go_simp
  refine (HC2.out _).mono ?_
  rintro e w1 ⟨rfl, rfl⟩
  refine hK.out _ _ ?_ (fun hHeld => ?_)
  · exact hHeld
  clear hK K
  try simp only [List.getElem_toArray, List.getElem_cons_succ, List.getElem_cons_zero, Act.put, List.setIfInBounds_toArray, List.set_cons_zero, List.set_cons_succ]
  refine tk_ 10 hHeld ?_
  refine tk_ 11 hHeld ?_
  refine wpAnyH_done (by kernel_rfl) ?_ _
  clear hHeld hk3
  suffices hz : Exit.then _ _ _ _ (W.drewN 2) from hz
  obtain ⟨w3, hw3⟩ : ∃ w3, W.drewN 2 = w3 := ⟨_, rfl⟩
  rw [hw3]
  have HX3 := Lib.hid (And.intro (hw3 ▸ HX.out.1.drewN 2) HX.out.2)
  clear hw3 HX
  have a0 : w3.cell? ⟨w.heap.size + 1, 0, none⟩ = some (.bool false) := HX3.out.1.ans.cell 0
  have a1 : w3.cell? ⟨w.heap.size + 1, 1, none⟩ = some (.int .u64 0) := HX3.out.1.ans.cell 1
  have a2 : w3.cell? ⟨w.heap.size + 1, 2, none⟩ = some (.slice none 0 0) := HX3.out.1.ans.cell 2
  have z0 := HX3.out.1.ans.frozen 0
  have z1 := HX3.out.1.ans.frozen 1
  have z2 := HX3.out.1.ans.frozen 2
  go_wp2
  refine bodyPost_ret (results_cell_row (by rfl) _ _ (w.heap.size + 1) 65 #[.bool false, .int .u64 0, .slice none 0 0] (0, 0) _ (by rfl) HX3.out.1.fin Tryz.underlying65 (by rfl) (by kernel_rfl)) rfl ?_
  exact HX3.out.1.out HX3.out.2 (Kd.R_nil _ _ _ _ _)
set_option maxHeartbeats 2000000 in
set_option maxRecDepth 100000 in
theorem rnmove_yes (h : RunIs w g mb cb s) (hs : s.small) (hs2 : ∀ k n, (s.put k n).small) (o : S63) (hk : o.f1.size ≤ maxLen) (hk2 : o.f2.size ≤ maxLen) (hc1 : geN (s.at o.f1) o.f3 = true) (hc2 : geN o.f3 0 = true) :
    Calls Tryz.prog 114 #[ptrR g, opV o] w (StepOut w g mb cb ⟨true, 0, []⟩ ((s.put o.f1 (addN (s.at o.f1) (negN o.f3))).put o.f2 (addN ((s.put o.f1 (addN (s.at o.f1) (negN o.f3))).at o.f2) o.f3))) := by
  have hX := boxed h o
  obtain ⟨W, hW⟩ : ∃ W, ((w.alloc (.cells #[.int .i64 o.f0, .string o.f1, .string o.f2, .int .u64 o.f3] 63)).alloc (.cells #[.bool false, .int .u64 0, .slice none 0 0] 65)) = W := ⟨_, rfl⟩
  rw [hW] at hX
  have hlt := hX.lt h
  have hg : W.cell? ⟨g, 0, none⟩ = some (.map (some mb)) := hX.run.blk.cell 0
  have hk1 : W.cell? ⟨w.heap.size, 1, none⟩ = some (.string o.f1) := hX.op.cell 1
  have hk3 : W.cell? ⟨w.heap.size, 3, none⟩ = some (.int .u64 o.f3) := hX.op.cell 3
  have hl := (hX.drew.run.d).look1 Tryz.underlying103 (zeroNum _) hk
  have hn : ((getL s.d o.f1).map encN).getD (.int .u64 0) = .int .u64 (s.at o.f1) := by unfold St.at; cases getL s.d o.f1 <;> rfl
  rw [hn] at hl
  have HC1 := Lib.hid (nCovers_any (s.at o.f1) o.f3)
  have HC2 := Lib.hid (nCovers_any o.f3 0)
  have HOF := Lib.hid (nOf_any 0)
  rw [ofN_zero] at HOF
  clear hn
  rw [hc1] at HC1
  rw [hc2] at HC2
  clear hc1 hc2
  have HNG := Lib.hid (nNeg_any o.f3)
  have HA1 := Lib.hid (nAdd_any (s.at o.f1) (negN o.f3))
  generalize negN o.f3 = ng at *
  generalize hm1 : addN (s.at o.f1) ng = m1 at *
  clear hm1
  generalize s.at o.f1 = n at *
  have HX := Lib.hid (And.intro hX hlt); clear h hX hlt
  go_enter Tryz.func114, Tryz.ntmps114
  go_upto_region 1 with fail
  clear hW
  refine wp_region_held (S := (fun W => W.cell? ⟨g, 0, none⟩ = some (.map (some mb)) ∧ W.cell? ⟨w.heap.size, 1, none⟩ = some (.string o.f1) ∧ (Instr.lookup 103 (.map (some mb)) (.string o.f1) false).run Tryz.prog W = .ok (.int .u64 n) W)) (by kernel_rfl) ?_
  simp only [List.size_toArray, List.length_cons, List.length_nil, Nat.zero_add, Nat.reduceAdd]
  have hHeld : ((fun W => W.cell? ⟨g, 0, none⟩ = some (.map (some mb)) ∧ W.cell? ⟨w.heap.size, 1, none⟩ = some (.string o.f1) ∧ (Instr.lookup 103 (.map (some mb)) (.string o.f1) false).run Tryz.prog W = .ok (.int .u64 n) W)) W.drew := ⟨hg, hk1, hl⟩
  refine tk_ 0 hHeld ?_
  refine tk_ 1 hHeld ?_
  refine tk_ 2 hHeld ?_
  refine tk_ 3 hHeld ?_
  refine tk_ 4 hHeld ?_
  refine tk_ 5 hHeld ?_
  refine tk_ 6 hHeld ?_
  refine tk_ 7 hHeld ?_
  refine wpAnyH_done (by kernel_rfl) ?_ _
  clear hHeld hl hg hk1
  go_upto_region 2 with fail
  refine wp_region_held (S := (fun V => Drawn0 W V ∧ V.cell? ⟨w.heap.size, 3, none⟩ = some (.int .u64 o.f3))) (by kernel_rfl) ?_
  simp only [List.size_toArray, List.length_cons, List.length_nil, Nat.zero_add, Nat.reduceAdd]
  have hHeld : ((fun V => Drawn0 W V ∧ V.cell? ⟨w.heap.size, 3, none⟩ = some (.int .u64 o.f3))) W.drew.drew := ⟨⟨2, rfl⟩, hk3⟩
  refine tk_ 0 hHeld ?_
  refine tk_ 1 hHeld ?_
  refine tk_ 2 hHeld ?_
  refine wpAnyH_ready (rs := [3]) (by kernel_rfl) (by simp) ?_
  refine (AllReadyH.cons rfl (fun K hK => ?_) AllReadyH.nil)
  go_simp
  refine (HC1.out _).mono ?_
  rintro e w1 ⟨rfl, rfl⟩
  refine hK.out _ _ ?_ (fun hHeld => ?_)
  · exact hHeld
  clear hK K
  try simp only [List.getElem_toArray, List.getElem_cons_succ, List.getElem_cons_zero, Act.put, List.setIfInBounds_toArray, List.set_cons_zero, List.set_cons_succ]
  refine tk_ 4 hHeld ?_
  refine tk_ 5 hHeld ?_
  refine tk_ 6 hHeld ?_
  refine tk_ 7 hHeld ?_
  refine wpAnyH_ready (rs := [8]) (by kernel_rfl) (by simp) ?_
  refine (AllReadyH.cons rfl (fun K hK => ?_) AllReadyH.nil)
  go_simp
  refine (HOF.out _).mono ?_
  rintro e w1 ⟨rfl, rfl⟩
  refine hK.out _ _ ?_ (fun hHeld => ?_)
  · exact hHeld
  clear hK K
  try simp only [List.getElem_toArray, List.getElem_cons_succ, List.getElem_cons_zero, Act.put, List.setIfInBounds_toArray, List.set_cons_zero, List.set_cons_succ]
  refine wpAnyH_ready (rs := [9]) (by kernel_rfl) (by simp) ?_
  refine (AllReadyH.cons rfl (fun K hK => ?_) AllReadyH.nil)
  go_simp
  refine (HC2.out _).mono ?_
  rintro e w1 ⟨rfl, rfl⟩
  refine hK.out _ _ ?_ (fun hHeld => ?_)
  · exact hHeld
  clear hK K
  try simp only [List.getElem_toArray, List.getElem_cons_succ, List.getElem_cons_zero, Act.put, List.setIfInBounds_toArray, List.set_cons_zero, List.set_cons_succ]
  refine tk_ 10 hHeld ?_
  refine tk_ 11 hHeld ?_
  refine wpAnyH_done (by kernel_rfl) ?_ _
  clear hHeld hk3
  suffices hz : Exit.then _ _ _ _ (W.drewN 2) from hz
  obtain ⟨w3, hw3⟩ : ∃ w3, W.drewN 2 = w3 := ⟨_, rfl⟩
  rw [hw3]
  have HX3 := Lib.hid (And.intro (hw3 ▸ HX.out.1.drewN 2) HX.out.2)
  clear hw3 HX
  clear HC1 HC2 HOF
  have hk1 : w3.cell? ⟨w.heap.size, 1, none⟩ = some (.string o.f1) := HX3.out.1.op.cell 1
  have hk3 : w3.cell? ⟨w.heap.size, 3, none⟩ = some (.int .u64 o.f3) := HX3.out.1.op.cell 3
  go_upto_region 4 with fail
  refine wp_region_last1_held (S := (fun V => Drawn0 w3 V ∧ V.cell? ⟨w.heap.size, 1, none⟩ = some (.string o.f1) ∧ V.cell? ⟨w.heap.size, 3, none⟩ = some (.int .u64 o.f3))) (l := [_, _, _, _, _, _, _, _]) (o := _) (by kernel_rfl) (by kernel_rfl) ?_
  simp only [List.size_toArray, List.length_cons, List.length_nil, Nat.zero_add, Nat.reduceAdd]
  have hHeld : ((fun V => Drawn0 w3 V ∧ V.cell? ⟨w.heap.size, 1, none⟩ = some (.string o.f1) ∧ V.cell? ⟨w.heap.size, 3, none⟩ = some (.int .u64 o.f3))) w3.drew := ⟨⟨1, rfl⟩, hk1, hk3⟩
  refine tk_ 0 hHeld ?_
  refine tk_ 1 hHeld ?_
  refine tk_ 2 hHeld ?_
  refine tk_ 3 hHeld ?_
  refine tk_ 4 hHeld ?_
  refine tk_ 5 hHeld ?_
  refine wpAnyH_ready (rs := [6]) (by kernel_rfl) (by simp) ?_
  refine (AllReadyH.cons rfl (fun K hK => ?_) AllReadyH.nil)
  go_simp
  refine (HNG.out _).mono ?_
  rintro e w1 ⟨rfl, rfl⟩
  refine hK.out _ _ ?_ (fun hHeld => ?_)
  · exact hHeld
  clear hK K
  try simp only [List.getElem_toArray, List.getElem_cons_succ, List.getElem_cons_zero, Act.put, List.setIfInBounds_toArray, List.set_cons_zero, List.set_cons_succ]
  refine wpAnyH_ready (rs := [7]) (by kernel_rfl) (by simp) ?_
  refine (AllReadyH.cons rfl (fun K hK => ?_) AllReadyH.nil)
  go_simp
  refine (HA1.out _).mono ?_
  rintro e w1 ⟨rfl, n1, rfl⟩
  refine hK.out _ _ ?_ (fun hHeld => ?_)
  · exact ⟨hHeld.1.step n1, hHeld.2.1, hHeld.2.2⟩
  clear hK K
  try simp only [List.getElem_toArray, List.getElem_cons_succ, List.getElem_cons_zero, Act.put, List.setIfInBounds_toArray, List.set_cons_zero, List.set_cons_succ]
  refine wpAnyH_done (by kernel_rfl) ?_ _
  refine lastPost_wp ?_
  obtain ⟨⟨q, hq⟩, _, _⟩ := hHeld
  rw [hq]
  clear hq hk1 hk3
  have hXq := HX3.out.1.drewN q
  have HP := Lib.hid (rnput_any hXq.run hs o.f1 hk m1)
  have HXq := Lib.hid (And.intro hXq HX3.out.2)
  clear hXq HX3
  generalize w3.drewN q = V at *
  go_wp2_with fail
  refine HP.out.mono ?_
  rintro e w4 ⟨rfl, hr4, hu4⟩
  have hX4 := HXq.out.1.put HXq.out.2 hr4 hu4
  have HX4 := Lib.hid (And.intro hX4 HXq.out.2)
  have hg4 : w4.cell? ⟨g, 0, none⟩ = some (.map (some mb)) := hX4.run.blk.cell 0
  have hk2c : w4.cell? ⟨w.heap.size, 2, none⟩ = some (.string o.f2) := hX4.op.cell 2
  have hk3 : w4.cell? ⟨w.heap.size, 3, none⟩ = some (.int .u64 o.f3) := hX4.op.cell 3
  have hl4 := fun q => ((hX4.drewN q).run.d).look1 Tryz.underlying103 (zeroNum _) hk2
  have hn : ((getL (s.put o.f1 m1).d o.f2).map encN).getD (.int .u64 0) = .int .u64 ((s.put o.f1 m1).at o.f2) := by unfold St.at; cases getL (s.put o.f1 m1).d o.f2 <;> rfl
  rw [hn] at hl4
  have HA2 := Lib.hid (nAdd_any ((s.put o.f1 m1).at o.f2) o.f3)
  clear hr4 hu4 hX4 hn HP HXq
  generalize hm2 : addN ((s.put o.f1 m1).at o.f2) o.f3 = m2 at *
  generalize (s.put o.f1 m1).at o.f2 = n2 at *
  clear hm2
  go_upto_region 5 with fail
  refine wp_region_last1_held (S := (fun V => Drawn0 w4 V ∧ V.cell? ⟨g, 0, none⟩ = some (.map (some mb)) ∧ V.cell? ⟨w.heap.size, 2, none⟩ = some (.string o.f2) ∧ V.cell? ⟨w.heap.size, 3, none⟩ = some (.int .u64 o.f3) ∧ (Instr.lookup 103 (.map (some mb)) (.string o.f2) false).run Tryz.prog V = .ok (.int .u64 n2) V)) (l := [_, _, _, _, _, _, _, _, _, _, _, _, _]) (o := _) (by kernel_rfl) (by kernel_rfl) ?_
  simp only [List.size_toArray, List.length_cons, List.length_nil, Nat.zero_add, Nat.reduceAdd]
  have hHeld : ((fun V => Drawn0 w4 V ∧ V.cell? ⟨g, 0, none⟩ = some (.map (some mb)) ∧ V.cell? ⟨w.heap.size, 2, none⟩ = some (.string o.f2) ∧ V.cell? ⟨w.heap.size, 3, none⟩ = some (.int .u64 o.f3) ∧ (Instr.lookup 103 (.map (some mb)) (.string o.f2) false).run Tryz.prog V = .ok (.int .u64 n2) V)) w4.drew := ⟨⟨1, rfl⟩, hg4, hk2c, hk3, hl4 1⟩
  refine tk_ 0 hHeld ?_
  refine tk_ 1 hHeld ?_
  refine tk_ 2 hHeld ?_
  refine tk_ 3 hHeld ?_
  refine tk_ 4 hHeld ?_
  refine tk_ 5 hHeld ?_
  refine tk_ 6 hHeld ?_
  refine tk_ 7 hHeld ?_
  refine tk_ 8 hHeld ?_
  refine tk_ 9 hHeld ?_
  refine tk_ 10 hHeld ?_
  refine tk_ 11 hHeld ?_
  refine wpAnyH_ready (rs := [12]) (by kernel_rfl) (by simp) ?_
  refine (AllReadyH.cons rfl (fun K hK => ?_) AllReadyH.nil)
  go_simp
  refine (HA2.out _).mono ?_
  rintro e w1 ⟨rfl, n1, rfl⟩
  refine hK.out _ _ ?_ (fun hHeld => ?_)
  · obtain ⟨⟨q1, hq1⟩, h1, h2, h3, _⟩ := hHeld
    exact ⟨⟨q1 + n1, by rw [hq1, World.drewN_drewN]⟩, h1, h2, h3, by rw [hq1, World.drewN_drewN]; exact hl4 _⟩
  clear hK K
  try simp only [List.getElem_toArray, List.getElem_cons_succ, List.getElem_cons_zero, Act.put, List.setIfInBounds_toArray, List.set_cons_zero, List.set_cons_succ]
  refine wpAnyH_done (by kernel_rfl) ?_ _
  refine lastPost_wp ?_
  obtain ⟨⟨q5, hq⟩, _⟩ := hHeld
  rw [hq]
  clear hq hg4 hk2c hk3 hl4
  have hXq := HX4.out.1.drewN q5
  have HP := Lib.hid (rnput_any hXq.run (hs2 _ _) o.f2 hk2 m2)
  have HXq := Lib.hid (And.intro hXq HX4.out.2)
  clear hXq HX4
  generalize w4.drewN q5 = V5 at *
  go_wp2_with fail
  refine HP.out.mono ?_
  rintro e w3 ⟨rfl, hr4, hu4⟩
  have HX3 := Lib.hid (And.intro (HXq.out.1.put HXq.out.2 hr4 hu4) HXq.out.2)
  clear hr4 hu4 HP HXq
  have a0 : w3.cell? ⟨w.heap.size + 1, 0, none⟩ = some (.bool false) := HX3.out.1.ans.cell 0
  have a1 : w3.cell? ⟨w.heap.size + 1, 1, none⟩ = some (.int .u64 0) := HX3.out.1.ans.cell 1
  have a2 : w3.cell? ⟨w.heap.size + 1, 2, none⟩ = some (.slice none 0 0) := HX3.out.1.ans.cell 2
  have z0 := HX3.out.1.ans.frozen 0
  have z1 := HX3.out.1.ans.frozen 1
  have z2 := HX3.out.1.ans.frozen 2
  go_wp2
  refine bodyPost_ret (results_cell_row (by rfl) _ _ (w.heap.size + 1) 65 #[.bool true, .int .u64 0, .slice none 0 0] (0, 0) _ (by rfl) HX3.out.1.fin Tryz.underlying65 (by rfl) (by kernel_rfl)) rfl ?_
  exact HX3.out.1.out HX3.out.2 (Kd.R_nil _ _ _ _ _)
end
end Go.Proofs.YtgmlenpcchhmbaaGreat.P
end
section
set_option linter.unusedVariables false
set_option linter.unusedSimpArgs false
namespace Go.Proofs.YtgmlenpcchhmbaaGreat.P
open Go.RowKit Go.Proofs.YtgmlenpcchhmbaaGreatW.PrintWords Go.Proofs.YtgmlenpcchhmbaaGreatW.PrintLast Go.Proofs.YtgmlenpcchhmbaaGreatW.PrintMore
theorem C_atG {w : World} {A : Option Addr} {n : Nat} {xs : List S71} (h : Kd.C k71 w A n xs) (k : Nat) (hk : k < xs.length) : ∃ ad, A = some ad ∧ w.cell? (ad.add (k * 2)) = some (.string xs[k].f0) ∧ w.cell? ⟨(ad.add (k * 2)).block, (ad.add (k * 2)).off + 1, none⟩ = some (.string xs[k].f1) := by
  obtain ⟨ad, hA, x0, x1⟩ := at_T71 h (k : Int) (by omega) (by have := h.1; omega)
  have er : rd_T71 xs (k : Int) = xs[k] := by
    unfold rd_T71
    rw [Int.toNat_natCast, List.getD_eq_getElem?_getD, List.getElem?_eq_getElem hk]
    rfl
  rw [er, Int.toNat_natCast] at x0 x1
  exact ⟨ad, hA, x0, x1⟩
set_option maxHeartbeats 1000000 in
theorem gidx_any (g : Nat) (lb : Array Value) (p : S71 → Bool) (eg : ∀ args w, (callFunc g args).run Tryz.prog w = .ok (.enter g args) w) (A : Option Addr) (c : Nat) (xs : List S71) (w : World) (hr : Kd.C k71 w A xs.length xs)
    (hp : ∀ (W : World) (s : S71), s ∈ xs → Below w.heap.size w W → Calls Tryz.prog g (#[] ++ #[.agg #[.string s.f0, .string s.f1]] ++ lb) W fun e w' => e = .returned (.bool (p s)) ∧ Below W.heap.size W w') :
    Calls Tryz.prog 155 #[.slice A xs.length c, .func (.func g) #[] lb] w fun e w' => e = .returned (.int .i64 (idxP p xs)) ∧ Below w.heap.size w w' := by
  have hm := Kd.C_max hr
  have HR := Lib.hid hr; clear hr
  have HP := Lib.hid hp; clear hp
  go_enter Tryz.func155, Tryz.ntmps155
  go_wp2
  go_loopw [5, 8] (fun _ i wr => ∃ k : Nat, i = .int .i64 k ∧ k ≤ xs.length ∧ Below w.heap.size w wr ∧ RowKit.Hid (∀ j (hj : j < xs.length), j < k → p xs[j] = false)) (fun _ i _ => xs.length - (intOf i).toNat)
  case atStart => exact ⟨0, rfl, Nat.zero_le _, Below.refl _ _, Lib.hid (fun j _ h => absurd h (Nat.not_lt_zero _))⟩
  case round =>
    obtain ⟨k, rfl, hk, hB, HN⟩ := hrel
    by_cases hlt : k < xs.length
    · obtain ⟨ad, hA, x0, x1⟩ := C_atG (Kd.C_below HR.out hB) k hlt
      subst hA
      have hc := HP.out wr xs[k] (List.getElem_mem hlt) hB
      generalize hu : xs[k] = u at *
      have HU := Lib.hid hu; clear hu
      cases hq : p u with
      | true =>
        rw [hq] at hc
        have HQ := Lib.hid hq; clear hq
        go_wp2_with (go_at_fn g; refine hc.mono ?_; rintro e w' ⟨rfl, hb⟩)
        go_ret
        refine ⟨?_, hB.trans (hb.mono hB.size)⟩
        rw [idxP_hit hlt HN.out (by rw [HU.out]; exact HQ.out)]
        rfl
      | false =>
        rw [hq] at hc
        have HQ := Lib.hid hq; clear hq
        go_wp2_with (go_at_fn g; refine hc.mono ?_; rintro e w' ⟨rfl, hb⟩)
        go_roundw
        case rel => exact ⟨k + 1, by go_num, by omega, hB.trans (hb.mono hB.size), Lib.hid (fun j hj h => by
          by_cases e : j = k
          · subst e; rw [HU.out]; exact HQ.out
          · exact HN.out j hj (by omega))⟩
        case measure => simp [intOf]; omega
    · obtain rfl : k = xs.length := by omega
      go_wp2
      go_ret
      refine ⟨?_, hB⟩
      rw [idxP_none (fun j hj => HN.out j hj (by omega))]
      rfl
set_option maxHeartbeats 1000000 in
theorem gcontains_any (g : Nat) (lb : Array Value) (p : S71 → Bool) (eg : ∀ args w, (callFunc g args).run Tryz.prog w = .ok (.enter g args) w) (A : Option Addr) (c : Nat) (xs : List S71) (w : World) (hr : Kd.C k71 w A xs.length xs)
    (hp : ∀ (W : World) (s : S71), s ∈ xs → Below w.heap.size w W → Calls Tryz.prog g (#[] ++ #[.agg #[.string s.f0, .string s.f1]] ++ lb) W fun e w' => e = .returned (.bool (p s)) ∧ Below W.heap.size W w') :
    Calls Tryz.prog 126 #[.slice A xs.length c, .func (.func g) #[] lb] w fun e w' => e = .returned (.bool (xs.any p)) ∧ Below w.heap.size w w' := by
  have HC := Lib.hid (gidx_any g lb p eg A c xs w hr hp)
  rw [← idxP_any]
  clear hr hp
  generalize idxP p xs = i at *
  go_enter Tryz.func126, Tryz.ntmps126
  go_wp2_with fail
  refine HC.out.mono ?_
  rintro e w1 ⟨rfl, hb⟩
  have HB := Lib.hid hb; clear hb
  go_wp2
  go_ret
  exact ⟨rfl, HB.out⟩
theorem before_any (e k : ByteArray) (w : World) : Calls Tryz.prog 128 #[.string e, .string k] w fun r w' => r = .returned (.bool (!(decide (e = emptyB) || klt k e))) ∧ w' = w := by
  by_cases h : e = emptyB
  · have h1 : e.toList = ([] : List UInt8) := (toList_nil e).2 h
    rw [decide_eq_true h, Bool.true_or]
    clear h
    have d1 : (e.toList == ([] : List UInt8)) = true := beq_iff_eq.2 h1
    have d2 : (e.toList != ([] : List UInt8)) = false := bne_eq_false_iff_eq.2 h1
    clear h1
    go_enter Tryz.func128, Tryz.ntmps128
    go_wp2
    go_ret
    exact ⟨rfl, rfl⟩
  · have h1 : ¬ e.toList = ([] : List UInt8) := fun x => h ((toList_nil e).1 x)
    rw [decide_eq_false h, Bool.false_or, ← klt_list, ← bl_tot]
    clear h
    have d1 : (e.toList == ([] : List UInt8)) = false := beq_eq_false_iff_ne.2 h1
    have d2 : (e.toList != ([] : List UInt8)) = true := bne_iff_ne.2 h1
    clear h1
    go_enter Tryz.func128, Tryz.ntmps128
    go_wp2
    go_ret
    exact ⟨rfl, rfl⟩
set_option maxHeartbeats 1000000 in
theorem has1_any (s : S71) (k : ByteArray) (bk : Nat) (w : World) (hk : w.cell? ⟨bk, 0, none⟩ = some (.string k)) :
    Calls Tryz.prog 127 #[.agg #[.string s.f0, .string s.f1], .pointer (some ⟨bk, 0, none⟩)] w fun e w' => e = .returned (.bool (hasS s k)) ∧ Below w.heap.size w w' := by
  obtain ⟨w1, hw1⟩ : ∃ w1, w.alloc (.cells #[.string s.f0, .string s.f1] 71) = w1 := ⟨_, rfl⟩
  have hb : Below w.heap.size w w1 := hw1 ▸ (Below.refl _ _).alloc (Nat.le_refl _) _
  have hT : Blk w1 w.heap.size 71 #[.string s.f0, .string s.f1] := hw1 ▸ Blk.new w 71 _
  have t0 : w1.cell? ⟨w.heap.size, 0, none⟩ = some (.string s.f0) := hT.cell 0
  have t1 : w1.cell? ⟨w.heap.size, 1, none⟩ = some (.string s.f1) := hT.cell 1
  have t2 : w1.cell? ⟨bk, 0, none⟩ = some (.string k) := pw_cell_below hb hk
  have HC := Lib.hid (before_any s.f1 k w1)
  have HB := Lib.hid hb; clear hb hT hk
  unfold hasS
  rw [← klt_list k s.f0]
  generalize (decide (s.f1 = emptyB) || klt k s.f1) = z at *
  cases hq : Op.bytesLess k.toList s.f0.toList with
  | true =>
    have h8 : (Op.bytesLess s.f0.toList k.toList || (s.f0.toList == k.toList)) = false := by rw [bl_tot, hq]; rfl
    go_enter Tryz.func127, Tryz.ntmps127
    go_wp2
    go_ret
    exact ⟨rfl, HB.out⟩
  | false =>
    have h8 : (Op.bytesLess s.f0.toList k.toList || (s.f0.toList == k.toList)) = true := by rw [bl_tot, hq]; rfl
    go_enter Tryz.func127, Tryz.ntmps127
    go_wp2_with fail
    refine HC.out.mono ?_
    rintro e w2 ⟨rfl, rfl⟩
    go_wp2
    go_ret
    exact ⟨by simp, HB.out⟩
set_option maxHeartbeats 1000000 in
theorem spHas_any (A : Option Addr) (c : Nat) (l : List S71) (k : ByteArray) (w : World) (hr : Kd.C k71 w A l.length l) :
    Calls Tryz.prog 84 #[.slice A l.length c, .string k] w fun e w' => e = .returned (.bool (hasSs l k)) ∧ Below w.heap.size w w' := by
  obtain ⟨w1, hw1⟩ : ∃ w1, w.alloc (.cells #[.string k] 9) = w1 := ⟨_, rfl⟩
  have hb : Below w.heap.size w w1 := hw1 ▸ (Below.refl _ _).alloc (Nat.le_refl _) _
  have hT : Blk w1 w.heap.size 9 #[.string k] := hw1 ▸ Blk.new w 9 _
  have eg : ∀ args w, (callFunc 127 args).run Tryz.prog w = .ok (.enter 127 args) w := enters_of Tryz.func127 (by kernel_rfl) rfl
  have hmf : ∀ (fn : Fn) (first cap : Array Value) (w : World), (Instr.makeFunc fn first cap).run Tryz.prog w = .ok (.func fn first cap) w := fun _ _ _ _ => rfl
  have HC := Lib.hid (gcontains_any 127 #[.pointer (some ⟨w.heap.size, 0, none⟩)] (fun s => hasS s k) eg A c l w1 (Kd.C_below hr hb) (fun W s _ hB => has1_any s k w.heap.size W (pw_cell_below hB (hT.cell 0))))
  have HB := Lib.hid hb; clear hb hT hr eg
  unfold hasSs
  generalize l.any (fun s => hasS s k) = z at *
  go_enter Tryz.func84, Tryz.ntmps84
  go_wp2_with fail
  refine HC.out.mono ?_
  rintro e w2 ⟨rfl, hb2⟩
  have HB2 := Lib.hid (HB.out.trans (hb2.mono HB.out.size)); clear hb2
  go_wp2
  go_ret
  exact ⟨rfl, HB2.out⟩
end Go.Proofs.YtgmlenpcchhmbaaGreat.P
end
section
set_option linter.unusedVariables false
set_option linter.unusedSimpArgs false
namespace Go.Proofs.YtgmlenpcchhmbaaGreat.P
open Go.RowKit Go.Proofs.YtgmlenpcchhmbaaGreatW.PrintWords Go.Proofs.YtgmlenpcchhmbaaGreatW.PrintLast Go.Proofs.YtgmlenpcchhmbaaGreatW.PrintMore
set_option maxHeartbeats 1000000 in
theorem pick1_any (p : S61) (bs : Nat) (A : Option Addr) (c : Nat) (l : List S71) (w : World) (hs : w.cell? ⟨bs, 0, none⟩ = some (.slice A l.length c)) (hr : Kd.C k71 w A l.length l) :
    Calls Tryz.prog 83 #[.agg #[.string p.f0, .int .u64 p.f1], .pointer (some ⟨bs, 0, none⟩)] w fun e w' => e = .returned (.bool (!hasSs l p.f0)) ∧ Below w.heap.size w w' := by
  obtain ⟨w1, hw1⟩ : ∃ w1, w.alloc (.cells #[.string p.f0, .int .u64 p.f1] 61) = w1 := ⟨_, rfl⟩
  have hb : Below w.heap.size w w1 := hw1 ▸ (Below.refl _ _).alloc (Nat.le_refl _) _
  have hT : Blk w1 w.heap.size 61 #[.string p.f0, .int .u64 p.f1] := hw1 ▸ Blk.new w 61 _
  have t0 : w1.cell? ⟨w.heap.size, 0, none⟩ = some (.string p.f0) := hT.cell 0
  have t2 : w1.cell? ⟨bs, 0, none⟩ = some (.slice A l.length c) := pw_cell_below hb hs
  have HC := Lib.hid (spHas_any A c l p.f0 w1 (Kd.C_below hr hb))
  have HB := Lib.hid hb; clear hb hT hs hr
  generalize hasSs l p.f0 = z at *
  go_enter Tryz.func83, Tryz.ntmps83
  go_wp2_with fail
  refine HC.out.mono ?_
  rintro e w2 ⟨rfl, hb2⟩
  have HB2 := Lib.hid (HB.out.trans (hb2.mono HB.out.size)); clear hb2
  go_wp2
  go_ret
  exact ⟨rfl, HB2.out⟩
set_option maxHeartbeats 1000000 in
theorem txpick_any (A : Option Addr) (c : Nat) (data : List S61) (A' : Option Addr) (c' : Nat) (l : List S71) (w : World) (hr : Kd.C k61 w A data.length data) (hr' : Kd.C k71 w A' l.length l) (hb : data.length * 24 ≤ 140737488355328) :
    Calls Tryz.prog 34 #[.slice A data.length c, .slice A' l.length c'] w fun e w' => ∃ v, e = .returned v ∧ RowPr w' w.heap.size v (pickT l data) ∧ Below w.heap.size w w' := by
  obtain ⟨w1, hw1⟩ : ∃ w1, w.alloc (.cells #[.slice A' l.length c'] 40) = w1 := ⟨_, rfl⟩
  have hb1 : Below w.heap.size w w1 := hw1 ▸ (Below.refl _ _).alloc (Nat.le_refl _) _
  have hT : Blk w1 w.heap.size 40 #[.slice A' l.length c'] := hw1 ▸ Blk.new w 40 _
  have hsz : w.heap.size < w1.heap.size := hT.lt
  have eg : ∀ args w, (callFunc 83 args).run Tryz.prog w = .ok (.enter 83 args) w := enters_of Tryz.func83 (by kernel_rfl) rfl
  have hmf : ∀ (fn : Fn) (first cap : Array Value) (w : World), (Instr.makeFunc fn first cap).run Tryz.prog w = .ok (.func fn first cap) w := fun _ _ _ _ => rfl
  have HC := Lib.hid (clonePr_any A c data w1 (Kd.C_below hr hb1) hb)
  have HX := Lib.hid (And.intro hb1 (And.intro hT (And.intro (Kd.C_below hr' hb1) (And.intro eg hsz)))); clear hb1 hT hr hr' hb eg hsz
  go_enter Tryz.func34, Tryz.ntmps34
  go_wp2_with fail
  refine HC.out.mono ?_
  rintro e w2 ⟨v2, rfl, ho2, hb2⟩
  have HD := Lib.hid (delPr_own 83 #[] #[.pointer (some ⟨w.heap.size, 0, none⟩)] (fun p => !hasSs l p.f0) HX.out.2.2.2.1 w1.heap.size v2 data w2 w1 ho2 hb2 hb2.size
    (fun W s hs hW => pick1_any s w.heap.size A' c' l W (pw_cell_below hW (HX.out.2.1.cell 0)) (Kd.C_below HX.out.2.2.1 hW)))
  obtain ⟨A2, c2, rfl⟩ := own_slice ho2
  clear ho2 hb2
  go_wp2_with fail
  refine HD.out.mono ?_
  rintro e w3 ⟨v3, rfl, ho3, hb3, _, _⟩
  have HO := Lib.hid (And.intro ho3 hb3)
  obtain ⟨A3, c3, rfl⟩ := own_slice ho3
  clear ho3 hb3
  go_wp2
  go_ret
  refine ⟨_, rfl, ?_, HX.out.1.trans (HO.out.2.mono HX.out.1.size)⟩
  have := RowPr.lower HO.out.1 HX.out.1.size
  simpa [pickT] using this
end Go.Proofs.YtgmlenpcchhmbaaGreat.P
end
section
set_option linter.unusedVariables false
set_option linter.unusedSimpArgs false
namespace Go.Proofs.YtgmlenpcchhmbaaGreat.P
open Go.RowKit Go.Proofs.YtgmlenpcchhmbaaGreatW.PrintWords Go.Proofs.YtgmlenpcchhmbaaGreatW.PrintLast Go.Proofs.YtgmlenpcchhmbaaGreatW.PrintMore
theorem C_atS {w : World} {A : Option Addr} {n : Nat} {xs : List ByteArray} (h : Kd.C Kd.string w A n xs) (k : Nat) (hk : k < xs.length) : ∃ ad, A = some ad ∧ w.cell? (ad.add k) = some (.string xs[k]) := by
  obtain ⟨ad, hA, x0⟩ := Kd.at_string h (k : Int) (by omega) (by have := h.1; omega)
  have er : rdOf ByteArray.empty xs (k : Int) = xs[k] := by
    unfold rdOf
    rw [Int.toNat_natCast, List.getD_eq_getElem?_getD, List.getElem?_eq_getElem hk]
    rfl
  rw [er, Int.toNat_natCast] at x0
  exact ⟨ad, hA, x0⟩
def keySizes {V : Type} (l : List (ByteArray × V)) : Prop := ∀ x ∈ l, x.1.size ≤ 1000000
set_option maxHeartbeats 2000000 in
set_option maxRecDepth 100000 in
theorem sorted_any {w : World} {mb : Nat} {l : List (ByteArray × Int)} (hM : MS encN w mb l) (hn : l.length ≤ 1000000) (hs : keySizes l) :
    Calls Tryz.prog 143 #[.map (some mb)] w fun e w' => ∃ v, e = .returned v ∧ RowPr w' w.heap.size v (l.map ofA) ∧ Below w.heap.size w w' := by
  have hK := keysSN_any (some mb) w
  have hb1 : Below w.heap.size w (w.alloc (.cells #[.map (some mb)] 103)) := (Below.refl _ _).alloc (Nat.le_refl _) _
  have hS := sortedSN_any (Bm := w.heap.size) (hM.below hb1) hn (by simp) ((Blk.new w 103 #[.map (some mb)]).cell 0)
  have HK := Lib.hid hK
  have HS := Lib.hid hS
  have HX := Lib.hid (And.intro hM (And.intro hn (And.intro hs hb1)))
  clear hM hn hs hK hS hb1
  go_enter Tryz.func143, Tryz.ntmps143
  go_wp2_with fail
  refine HK.out.mono ?_
  rintro e w1 ⟨rfl, rfl⟩
  go_wp2_with fail
  refine HS.out.mono ?_
  rintro e w2 ⟨v2, rfl, hR2, hb2⟩
  obtain ⟨A2, c2, rfl, hc2, hC2⟩ := Kd.R_reads hR2
  have hB2 : Below w.heap.size w w2 := HX.out.2.2.2.trans (hb2.mono (by simp))
  have hlen : (l.map (·.1)).length = l.length := List.length_map _
  have hge := hB2.size
  have HY := Lib.hid (And.intro hC2 hB2)
  clear hR2 hC2 hb2 hB2 HS HK
  rw [hlen] at HY hc2 ⊢
  have hmx : l.length ≤ 1000000 := HX.out.2.1
  go_wp2
  go_loopw [2, 4, 9] (fun so _ i wr => ∃ (k : Nat) (A' : Option Addr) (c' : Nat), so = .slice A' k c' ∧ i = .int .i64 k ∧ k ≤ l.length ∧ RowKit.Hid (Kd.R k61 61 wr w2.heap.size (fun _ => True) (.slice A' k c') ((l.take k).map ofA) ∧ Below w2.heap.size w2 wr)) (fun _ _ i _ => l.length - (intOf i).toNat)
  case atStart => exact ⟨0, none, 0, rfl, rfl, Nat.zero_le _, Lib.hid ⟨Kd.R_nil _ _ _ _ _, Below.refl _ _⟩⟩
  case round =>
    obtain ⟨k, A', c', rfl, rfl, hk, HR⟩ := hrel
    have hbw : Below w.heap.size w wr := HY.out.2.trans (HR.out.2.mono hge)
    by_cases hlt : k < l.length
    · obtain ⟨ad, hA, d0⟩ := C_atS (Kd.C_below HY.out.1 HR.out.2) k (by rw [hlen]; exact hlt)
      subst hA
      rw [List.getElem_map] at d0
      have hx := (getL_some HX.out.1.1 (k := l[k].1) (v := l[k].2)).2 (List.getElem_mem hlt)
      have hsz := maxLen_ge (HX.out.2.2.1 l[k] (List.getElem_mem hlt))
      have hlk := (HX.out.1.below hbw).look1 Tryz.underlying103 (zeroNum _) hsz
      rw [hx] at hlk
      simp only [Option.map_some, Option.getD_some] at hlk
      have hst : (l.take (k + 1)).map ofA = (l.take k).map ofA ++ [ofA l[k]] := by rw [List.take_succ_eq_append_getElem hlt, List.map_append]; rfl
      generalize l[k] = x at *
      obtain ⟨x0, x1⟩ := x
      simp only at d0 hlk hsz hst
      have HN := Lib.hid (And.intro hst hbw)
      clear hst hx hsz hbw
      go_wp2_with (first | ((with_reducible refine gate_builtin (b := .append) (xs := #[.tmp 13, .tmp 19]) rfl ?_); at_builtin; refine stop_append rfl ?_))
      refine Lib.hid ?_
      refine Kd.R_append k61 (w0 := w2) w2.heap.size rfl (.tmp 13) (.tmp 19) 39 61 (.agg #[.string ⟨#[]⟩, .int .u64 0]) 24 rfl Tryz.underlying39 info61 rfl (by decide) (by decide) (.slice A' k c') ((l.take k).map ofA) ⟨x0, x1⟩ [.string x0, .int .u64 x1] (fun _ => True) (fun _ => False) rfl rfl (k61_mkM _ _ _ _) (fun _ h => h.elim) (fun _ _ => trivial) HR.out.1 HR.out.2 HR.out.2.size (by rw [List.length_map, List.length_take]; omega) ?_
      intro v9 w9 hS9 hB9 hg9 hat9
      have hln : ((l.take k).map ofA ++ [(⟨x0, x1⟩ : S61)]).length = k + 1 := by simp; omega
      obtain ⟨A9, c9, e9⟩ := Kd.R_slice hS9
      rw [hln] at e9
      have HN9 := Lib.hid (And.intro hS9 hB9)
      rw [e9] at HN9
      rw [e9]
      clear hS9 hB9 hg9 hat9 e9 hlk d0
      go_wp2_with fail
      go_roundw
      case rel => exact ⟨k + 1, A9, c9, rfl, by go_num, by omega, Lib.hid ⟨by rw [HN.out.1]; exact HN9.out.1, HN9.out.2⟩⟩
      case measure => simp [intOf]; omega
    · obtain rfl : k = l.length := by omega
      have HZ := Lib.hid (And.intro (Kd.R_lower HR.out.1 hge) hbw)
      rw [List.take_length] at HZ
      clear hbw
      go_wp2
      go_ret
      exact ⟨_, rfl, RowPr.of_R HZ.out.1, HZ.out.2⟩
theorem blk_held {W V : World} {B : Nat} {t : TypeId} {cs : Array Value} (_h : Below B W (V.alloc (.cells cs t))) : Blk (V.alloc (.cells cs t)) V.heap.size t cs := Blk.new V t cs
theorem blk_heldD {W V : World} {B : Nat} {t : TypeId} {cs : Array Value} (_h : Below B W (V.alloc (.cells cs t)).drew) : Blk (V.alloc (.cells cs t)).drew V.heap.size t cs := (Blk.new V t cs).drew
theorem below_held {W V : World} {B : Nat} {o : Obj} (_h : Below B W (V.alloc o)) : Below V.heap.size V (V.alloc o) := (Below.refl _ _).alloc (Nat.le_refl _) _
theorem Boxed.below {w W W' : World} {g mb cb : Nat} {s : St} {o : S63} {y : Bool} {n : Int} {v : Value} (h : Boxed w W g mb cb s o y n v) (hb : Below W.heap.size W W') : Boxed w W' g mb cb s o y n v :=
  ⟨h.upd.then_below hb, h.run.below hb, h.op.below hb h.op.lt, h.ans.below hb h.ans.lt⟩
theorem C_blkG {W : World} {b : Nat} (x : S71) (h : Blk W b 71 #[.string x.f0, .string x.f1]) : Kd.C k71 W (some ⟨b, 0, none⟩) [x].length [x] := by
  refine ⟨rfl, by simp, fun _ => ⟨_, rfl, fun j p hj => ?_⟩⟩
  rcases j with _ | j
  · obtain rfl : x = p := by simpa using hj
    refine ⟨[.string x.f0, .string x.f1], rfl, k71_mk W x, fun i u hu => ?_⟩
    rcases i with _ | i
    · simp only [List.getElem?_cons_zero, Option.some.injEq] at hu
      subst hu
      rw [show (⟨b, 0, none⟩ : Addr).add (0 * k71.sz + 0) = ⟨b, 0, none⟩ by rw [Nat.zero_mul, Nat.add_zero, add_plain]]
      exact h.cell 0
    · rcases i with _ | i
      · simp only [List.getElem?_cons_succ, List.getElem?_cons_zero, Option.some.injEq] at hu
        subst hu
        rw [show (⟨b, 0, none⟩ : Addr).add (0 * k71.sz + (0 + 1)) = ⟨b, 1, none⟩ by rw [Nat.zero_mul, Nat.zero_add, Nat.zero_add, add_plain]]
        exact h.cell 1
      · simp at hu
  · simp at hj
theorem txpick1 (A : Option Addr) (c : Nat) (data : List S61) (b : Nat) (x : S71) (w : World) (hr : Kd.C k61 w A data.length data) (hl : Blk w b 71 #[.string x.f0, .string x.f1]) (hb : data.length * 24 ≤ 140737488355328) :
    Calls Tryz.prog 34 #[.slice A data.length c, .slice (some ⟨b, 0, none⟩) 1 1] w fun e w' => ∃ v, e = .returned v ∧ RowPr w' w.heap.size v (pickT [x] data) ∧ Below w.heap.size w w' :=
  txpick_any A c data (some ⟨b, 0, none⟩) 1 [x] w hr (C_blkG x hl) hb
set_option maxHeartbeats 2000000 in
set_option maxRecDepth 100000 in
theorem rnscan_any {w : World} {g mb cb : Nat} {s : St} (h : RunIs w g mb cb s) (hs : s.d.length ≤ 1000000) (hz : keySizes s.d) (o : S63) : Calls Tryz.prog 110 #[ptrR g, opV o] w (StepOut w g mb cb ⟨true, 0, pickT [⟨o.f1, o.f2⟩] (s.d.map ofA)⟩ s) := by
  have hX := boxed h o
  obtain ⟨W, hW⟩ : ∃ W, ((w.alloc (.cells #[.int .i64 o.f0, .string o.f1, .string o.f2, .int .u64 o.f3] 63)).alloc (.cells #[.bool false, .int .u64 0, .slice none 0 0] 65)) = W := ⟨_, rfl⟩
  rw [hW] at hX
  have hlt := hX.lt h
  have hg : W.cell? ⟨g, 0, none⟩ = some (.map (some mb)) := hX.run.blk.cell 0
  have hk1 : W.cell? ⟨w.heap.size, 1, none⟩ = some (.string o.f1) := hX.op.cell 1
  have hk2 : W.cell? ⟨w.heap.size, 2, none⟩ = some (.string o.f2) := hX.op.cell 2
  have hso := fun (V : World) (hV : Below W.heap.size W V) => sorted_any (hX.run.d.below hV) hs hz
  have hdd : (s.d.map ofA).length * 24 ≤ 140737488355328 := by rw [List.length_map]; omega
  generalize s.d.map ofA = dd at *
  have HX := Lib.hid (And.intro hX (And.intro hlt (And.intro hso hdd))); clear h hX hlt hs hz hso hdd
  go_enter Tryz.func110, Tryz.ntmps110
  go_upto_region 1 with fail
  clear hW
  refine wp_region_last1_held (S := (fun V => Below W.heap.size W V ∧ V.cell? ⟨g, 0, none⟩ = some (.map (some mb)) ∧ V.cell? ⟨w.heap.size, 1, none⟩ = some (.string o.f1) ∧ V.cell? ⟨w.heap.size, 2, none⟩ = some (.string o.f2))) (l := [_, _, _, _, _, _, _, _, _, _, _, _, _]) (o := _) (by kernel_rfl) (by kernel_rfl) ?_
  simp only [List.size_toArray, List.length_cons, List.length_nil, Nat.zero_add, Nat.reduceAdd]
  have hHeld : ((fun V => Below W.heap.size W V ∧ V.cell? ⟨g, 0, none⟩ = some (.map (some mb)) ∧ V.cell? ⟨w.heap.size, 1, none⟩ = some (.string o.f1) ∧ V.cell? ⟨w.heap.size, 2, none⟩ = some (.string o.f2))) W.drew := ⟨below_drew (Below.refl _ _), hg, hk1, hk2⟩
  refine tk_ 0 hHeld ?_
  refine tk_ 1 hHeld ?_
  refine tk_ 2 hHeld ?_
  refine tk_ 3 hHeld ?_
  refine tk_ 5 hHeld ?_
  refine tk_ 6 hHeld ?_
  refine tk_ 7 hHeld ?_
  refine tk_ 8 hHeld ?_
  refine tk_ 9 hHeld ?_
  refine wpAnyH_ready (rs := [4, 10]) (by kernel_rfl) (by simp) ?_
  refine (AllReadyH.cons rfl (fun K hK => ?_) (AllReadyH.cons rfl (fun K hK => ?_) AllReadyH.nil))
  · go_simp
    refine (HX.out.2.2.1 _ hHeld.1).mono ?_
    rintro e w1 ⟨v1, rfl, ho1, hb1⟩
    obtain ⟨A1, c1, e1, hc1, hC1⟩ := Kd.R_reads ho1.R
    subst e1
    refine hK.out _ _ ?_ (fun hHeld => ?_)
    · exact ⟨hHeld.1.trans (hb1.mono hHeld.1.size), pw_cell_below hb1 hHeld.2.1, pw_cell_below hb1 hHeld.2.2.1, pw_cell_below hb1 hHeld.2.2.2⟩
    clear hK K
    have HP := Lib.hid hC1
    try (have hz := HL.out.below hb1 HL.out.lt; clear HL; have HL := Lib.hid hz; clear hz)
    clear hb1 ho1 hC1 hc1
    try simp only [List.getElem_toArray, List.getElem_cons_succ, List.getElem_cons_zero, Act.put, List.setIfInBounds_toArray, List.set_cons_zero, List.set_cons_succ]
    refine wpAnyH_ready (rs := [10]) (by kernel_rfl) (by simp) ?_
    refine (AllReadyH.cons rfl (fun K hK => ?_) AllReadyH.nil)
    go_simp
    refine hK.out _ _ ?_ (fun hHeld => ?_)
    · exact ⟨below_alloc hHeld.1 _, pw_cell_below (below_alloc (Below.refl _ _) _) hHeld.2.1, pw_cell_below (below_alloc (Below.refl _ _) _) hHeld.2.2.1, pw_cell_below (below_alloc (Below.refl _ _) _) hHeld.2.2.2⟩
    clear hK K
    first
      | have HL := Lib.hid (blk_held hHeld.1)
      | have HL := Lib.hid (blk_heldD hHeld.1)
    try (have hz := Kd.C_below HP.out (below_held hHeld.1); clear HP; have HP := Lib.hid hz; clear hz)
    try simp only [List.getElem_toArray, List.getElem_cons_succ, List.getElem_cons_zero, Act.put, List.setIfInBounds_toArray, List.set_cons_zero, List.set_cons_succ]
    refine wpAnyH_ready (rs := [11]) (by kernel_rfl) (by simp) ?_
    refine (AllReadyH.cons rfl (fun K hK => ?_) AllReadyH.nil)
    have hle := hHeld.1.size
    go_simp
    refine (txpick1 _ _ dd _ ⟨o.f1, o.f2⟩ _ HP.out HL.out HX.out.2.2.2).mono ?_
    rintro e w3 ⟨v3, rfl, ho3, hb3⟩
    obtain ⟨A3, c3, rfl⟩ := own_slice ho3
    refine hK.out _ _ ?_ (fun hHeld => ?_)
    · exact ⟨hHeld.1.trans (hb3.mono hHeld.1.size), pw_cell_below hb3 hHeld.2.1, pw_cell_below hb3 hHeld.2.2.1, pw_cell_below hb3 hHeld.2.2.2⟩
    clear hK K
    have HQ := Lib.hid (RowPr.lower ho3 hle)
    clear ho3 hb3 hle
    try simp only [List.getElem_toArray, List.getElem_cons_succ, List.getElem_cons_zero, Act.put, List.setIfInBounds_toArray, List.set_cons_zero, List.set_cons_succ]
    refine tk_ 12 hHeld ?_
    refine wpAnyH_done (by kernel_rfl) ?_ _
    refine lastPost_wp ?_
    have HX3 := Lib.hid (And.intro (HX.out.1.below hHeld.1) HX.out.2.1)
    clear hHeld
    have a0 : w3.cell? ⟨w.heap.size + 1, 0, none⟩ = some (.bool false) := HX3.out.1.ans.cell 0
    have a1 : w3.cell? ⟨w.heap.size + 1, 1, none⟩ = some (.int .u64 0) := HX3.out.1.ans.cell 1
    have a2 : w3.cell? ⟨w.heap.size + 1, 2, none⟩ = some (.slice none 0 0) := HX3.out.1.ans.cell 2
    have z0 := HX3.out.1.ans.frozen 0
    have z1 := HX3.out.1.ans.frozen 1
    have z2 := HX3.out.1.ans.frozen 2
    have hsz := HX.out.1.ans.lt
    have HR := Lib.hid (Kd.R_mono (Kd.R_bound (Kd.R_lower HQ.out.R (Nat.le_refl _))) (fun q hq => show q ≠ w.heap.size + 1 by have := hq.2.1; omega))
    clear hsz HQ
    go_wp2
    refine bodyPost_ret (results_cell_row (by rfl) _ _ (w.heap.size + 1) 65 #[.bool true, .int .u64 0, .slice A3 (pickT [⟨o.f1, o.f2⟩] dd).length c3] (0, 0) _ (by rfl) HX3.out.1.fin Tryz.underlying65 (by rfl) (by kernel_rfl)) rfl ?_
    exact HX3.out.1.out HX3.out.2 (Kd.R_lower HR.out (by have := HX.out.1.upd.size; omega))
  · go_simp
    refine hK.out _ _ ?_ (fun hHeld => ?_)
    · exact ⟨below_alloc hHeld.1 _, pw_cell_below (below_alloc (Below.refl _ _) _) hHeld.2.1, pw_cell_below (below_alloc (Below.refl _ _) _) hHeld.2.2.1, pw_cell_below (below_alloc (Below.refl _ _) _) hHeld.2.2.2⟩
    clear hK K
    first
      | have HL := Lib.hid (blk_held hHeld.1)
      | have HL := Lib.hid (blk_heldD hHeld.1)
    try (have hz := Kd.C_below HP.out (below_held hHeld.1); clear HP; have HP := Lib.hid hz; clear hz)
    try simp only [List.getElem_toArray, List.getElem_cons_succ, List.getElem_cons_zero, Act.put, List.setIfInBounds_toArray, List.set_cons_zero, List.set_cons_succ]
    refine wpAnyH_ready (rs := [4]) (by kernel_rfl) (by simp) ?_
    refine (AllReadyH.cons rfl (fun K hK => ?_) AllReadyH.nil)
    go_simp
    refine (HX.out.2.2.1 _ hHeld.1).mono ?_
    rintro e w1 ⟨v1, rfl, ho1, hb1⟩
    obtain ⟨A1, c1, e1, hc1, hC1⟩ := Kd.R_reads ho1.R
    subst e1
    refine hK.out _ _ ?_ (fun hHeld => ?_)
    · exact ⟨hHeld.1.trans (hb1.mono hHeld.1.size), pw_cell_below hb1 hHeld.2.1, pw_cell_below hb1 hHeld.2.2.1, pw_cell_below hb1 hHeld.2.2.2⟩
    clear hK K
    have HP := Lib.hid hC1
    try (have hz := HL.out.below hb1 HL.out.lt; clear HL; have HL := Lib.hid hz; clear hz)
    clear hb1 ho1 hC1 hc1
    try simp only [List.getElem_toArray, List.getElem_cons_succ, List.getElem_cons_zero, Act.put, List.setIfInBounds_toArray, List.set_cons_zero, List.set_cons_succ]
    refine wpAnyH_ready (rs := [11]) (by kernel_rfl) (by simp) ?_
    refine (AllReadyH.cons rfl (fun K hK => ?_) AllReadyH.nil)
    have hle := hHeld.1.size
    go_simp
    refine (txpick1 _ _ dd _ ⟨o.f1, o.f2⟩ _ HP.out HL.out HX.out.2.2.2).mono ?_
    rintro e w3 ⟨v3, rfl, ho3, hb3⟩
    obtain ⟨A3, c3, rfl⟩ := own_slice ho3
    refine hK.out _ _ ?_ (fun hHeld => ?_)
    · exact ⟨hHeld.1.trans (hb3.mono hHeld.1.size), pw_cell_below hb3 hHeld.2.1, pw_cell_below hb3 hHeld.2.2.1, pw_cell_below hb3 hHeld.2.2.2⟩
    clear hK K
    have HQ := Lib.hid (RowPr.lower ho3 hle)
    clear ho3 hb3 hle
    try simp only [List.getElem_toArray, List.getElem_cons_succ, List.getElem_cons_zero, Act.put, List.setIfInBounds_toArray, List.set_cons_zero, List.set_cons_succ]
    refine tk_ 12 hHeld ?_
    refine wpAnyH_done (by kernel_rfl) ?_ _
    refine lastPost_wp ?_
    have HX3 := Lib.hid (And.intro (HX.out.1.below hHeld.1) HX.out.2.1)
    clear hHeld
    have a0 : w3.cell? ⟨w.heap.size + 1, 0, none⟩ = some (.bool false) := HX3.out.1.ans.cell 0
    have a1 : w3.cell? ⟨w.heap.size + 1, 1, none⟩ = some (.int .u64 0) := HX3.out.1.ans.cell 1
    have a2 : w3.cell? ⟨w.heap.size + 1, 2, none⟩ = some (.slice none 0 0) := HX3.out.1.ans.cell 2
    have z0 := HX3.out.1.ans.frozen 0
    have z1 := HX3.out.1.ans.frozen 1
    have z2 := HX3.out.1.ans.frozen 2
    have hsz := HX.out.1.ans.lt
    have HR := Lib.hid (Kd.R_mono (Kd.R_bound (Kd.R_lower HQ.out.R (Nat.le_refl _))) (fun q hq => show q ≠ w.heap.size + 1 by have := hq.2.1; omega))
    clear hsz HQ
    go_wp2
    refine bodyPost_ret (results_cell_row (by rfl) _ _ (w.heap.size + 1) 65 #[.bool true, .int .u64 0, .slice A3 (pickT [⟨o.f1, o.f2⟩] dd).length c3] (0, 0) _ (by rfl) HX3.out.1.fin Tryz.underlying65 (by rfl) (by kernel_rfl)) rfl ?_
    exact HX3.out.1.out HX3.out.2 (Kd.R_lower HR.out (by have := HX.out.1.upd.size; omega))
end Go.Proofs.YtgmlenpcchhmbaaGreat.P
end
section
set_option linter.unusedVariables false
set_option linter.unusedSimpArgs false
namespace Go.Proofs.YtgmlenpcchhmbaaGreat.P
open Go.RowKit Go.Proofs.YtgmlenpcchhmbaaGreatW.PrintWords Go.Proofs.YtgmlenpcchhmbaaGreatW.PrintLast Go.Proofs.YtgmlenpcchhmbaaGreatW.PrintMore
def opOk (o : S63) : Prop := o.f1.size ≤ 1000000 ∧ o.f2.size ≤ 1000000
structure StFit (s : St) (n : Nat) : Prop where
  ok : s.ok
  dl : s.d.length ≤ n
  cl : s.c.length ≤ n
  dk : keySizes s.d
  ck : keySizes s.c
theorem putL_le {V : Type} {l : List (ByteArray × V)} (h : SortK l) (k : ByteArray) (v : V) : (putL l k v).length ≤ l.length + 1 := by
  rw [putL_len h]; split <;> omega
theorem delL_le {V : Type} (l : List (ByteArray × V)) (k : ByteArray) : (delL l k).length ≤ l.length := List.length_filter_le _ _
theorem keySizes_put {V : Type} {l : List (ByteArray × V)} (h : keySizes l) {k : ByteArray} (hk : k.size ≤ 1000000) (v : V) : keySizes (putL l k v) := fun x hx => by
  rcases mem_putL hx with rfl | hx
  · exact hk
  · exact h x hx
theorem StFit.put {s : St} {n : Nat} (h : StFit s n) {k : ByteArray} (hk : k.size ≤ 1000000) (v : Int) : StFit (s.put k v) (n + 1) :=
  ⟨St.ok_put h.ok k v, Nat.le_trans (putL_le h.ok.1 k v) (Nat.succ_le_succ h.dl), Nat.le_trans (putL_le h.ok.2.1 k true) (Nat.succ_le_succ h.cl), keySizes_put h.dk hk v, keySizes_put h.ck hk true⟩
theorem StFit.drop {s : St} {n : Nat} (h : StFit s n) {k : ByteArray} (hk : k.size ≤ 1000000) : StFit (s.drop k) (n + 1) :=
  ⟨St.ok_drop h.ok k, Nat.le_trans (delL_le s.d k) (Nat.le_succ_of_le h.dl), Nat.le_trans (putL_le h.ok.2.1 k true) (Nat.succ_le_succ h.cl), fun x hx => h.dk x (List.mem_filter.1 hx).1, keySizes_put h.ck hk true⟩
theorem StFit.mono {s : St} {n m : Nat} (h : StFit s n) (hm : n ≤ m) : StFit s m := ⟨h.ok, Nat.le_trans h.dl hm, Nat.le_trans h.cl hm, h.dk, h.ck⟩
theorem StFit.step {s : St} {n : Nat} (h : StFit s n) {o : S63} (ho : opOk o) : StFit (stepS o s) (n + 2) := by
  unfold stepS
  repeat' split
  all_goals first
    | exact h.mono (by omega)
    | exact ((h.put ho.1 _).put ho.2 _)
    | exact (h.put ho.1 _).mono (by omega)
    | exact (h.drop ho.1).mono (by omega)
theorem StFit.small {s : St} {n : Nat} (h : StFit s n) (hn : n ≤ 1000100) : s.small := ⟨by have := h.dl; omega, by have := h.cl; omega⟩
section
variable {w : World} {g mb cb : Nat} {s : St}
set_option maxHeartbeats 1000000 in
set_option maxRecDepth 100000 in
theorem do_get (h : RunIs w g mb cb s) (o : S63) (hk : o.f0 = 1) {a : S65} {s' : St} (hc : ∀ W, RunIs W g mb cb s → Calls Tryz.prog 109 #[ptrR g, opV o] W (StepOut W g mb cb a s')) : Calls Tryz.prog 67 #[ptrR g, opV o] w (StepOut w g mb cb a s') := by
  have hX := boxed h o
  obtain ⟨W, hW⟩ : ∃ W, ((w.alloc (.cells #[.int .i64 o.f0, .string o.f1, .string o.f2, .int .u64 o.f3] 63)).alloc (.cells #[.bool false, .int .u64 0, .slice none 0 0] 65)) = W := ⟨_, rfl⟩
  rw [hW] at hX
  have hlt := hX.lt h
  have hcc := hc W hX.run
  obtain ⟨x0, x1, x2, x3⟩ := o
  simp only at hk
  subst hk
  have k0 : W.cell? ⟨w.heap.size, 0, none⟩ = some (.int .i64 1) := hX.op.cell 0
  have k1 : W.cell? ⟨w.heap.size, 1, none⟩ = some (.string x1) := hX.op.cell 1
  have k2 : W.cell? ⟨w.heap.size, 2, none⟩ = some (.string x2) := hX.op.cell 2
  have k3 : W.cell? ⟨w.heap.size, 3, none⟩ = some (.int .u64 x3) := hX.op.cell 3
  have HC := Lib.hid hcc
  have HX := Lib.hid (And.intro hX (And.intro hlt (show w.heap.size + 1 < W.heap.size from hX.ans.lt))); clear h hX hlt hc hcc
  go_enter Tryz.func67, Tryz.ntmps67
  go_wp2_with fail
  refine HC.out.mono ?_
  rintro e w3 ⟨vs, rfl, hv, hr, hu⟩
  have HX3 := Lib.hid (And.intro (HX.out.1.put HX.out.2.1 hr hu) HX.out.2.1)
  have HV := Lib.hid (Kd.R_lower (Kd.R_mono (Kd.R_bound hv) (fun q hq => show q ≠ w.heap.size + 1 by have := hq.2.1; have := HX.out.2.2; omega)) (show w.heap.size ≤ W.heap.size by have := HX.out.2.2; omega))
  obtain ⟨A3, c3, rfl⟩ := Kd.R_slice hv
  clear hv hr hu hW k0 k1 k2 k3 HX HC
  have a0 : w3.cell? ⟨w.heap.size + 1, 0, none⟩ = some (.bool false) := HX3.out.1.ans.cell 0
  have a1 : w3.cell? ⟨w.heap.size + 1, 1, none⟩ = some (.int .u64 0) := HX3.out.1.ans.cell 1
  have a2 : w3.cell? ⟨w.heap.size + 1, 2, none⟩ = some (.slice none 0 0) := HX3.out.1.ans.cell 2
  have z0 := HX3.out.1.ans.frozen 0
  have z1 := HX3.out.1.ans.frozen 1
  have z2 := HX3.out.1.ans.frozen 2
  go_wp2
  refine bodyPost_ret (results_cell_row (by rfl) _ _ (w.heap.size + 1) 65 #[.bool a.f0, .int .u64 a.f1, .slice A3 a.f2.length c3] (0, 0) _ (by rfl) HX3.out.1.fin Tryz.underlying65 (by rfl) (by kernel_rfl)) rfl ?_
  exact HX3.out.1.out HX3.out.2 HV.out
set_option maxHeartbeats 1000000 in
set_option maxRecDepth 100000 in
theorem do_scan (h : RunIs w g mb cb s) (o : S63) (hk : o.f0 = 2) {a : S65} {s' : St} (hc : ∀ W, RunIs W g mb cb s → Calls Tryz.prog 110 #[ptrR g, opV o] W (StepOut W g mb cb a s')) : Calls Tryz.prog 67 #[ptrR g, opV o] w (StepOut w g mb cb a s') := by
  have hX := boxed h o
  obtain ⟨W, hW⟩ : ∃ W, ((w.alloc (.cells #[.int .i64 o.f0, .string o.f1, .string o.f2, .int .u64 o.f3] 63)).alloc (.cells #[.bool false, .int .u64 0, .slice none 0 0] 65)) = W := ⟨_, rfl⟩
  rw [hW] at hX
  have hlt := hX.lt h
  have hcc := hc W hX.run
  obtain ⟨x0, x1, x2, x3⟩ := o
  simp only at hk
  subst hk
  have k0 : W.cell? ⟨w.heap.size, 0, none⟩ = some (.int .i64 2) := hX.op.cell 0
  have k1 : W.cell? ⟨w.heap.size, 1, none⟩ = some (.string x1) := hX.op.cell 1
  have k2 : W.cell? ⟨w.heap.size, 2, none⟩ = some (.string x2) := hX.op.cell 2
  have k3 : W.cell? ⟨w.heap.size, 3, none⟩ = some (.int .u64 x3) := hX.op.cell 3
  have HC := Lib.hid hcc
  have HX := Lib.hid (And.intro hX (And.intro hlt (show w.heap.size + 1 < W.heap.size from hX.ans.lt))); clear h hX hlt hc hcc
  go_enter Tryz.func67, Tryz.ntmps67
  go_wp2_with fail
  refine HC.out.mono ?_
  rintro e w3 ⟨vs, rfl, hv, hr, hu⟩
  have HX3 := Lib.hid (And.intro (HX.out.1.put HX.out.2.1 hr hu) HX.out.2.1)
  have HV := Lib.hid (Kd.R_lower (Kd.R_mono (Kd.R_bound hv) (fun q hq => show q ≠ w.heap.size + 1 by have := hq.2.1; have := HX.out.2.2; omega)) (show w.heap.size ≤ W.heap.size by have := HX.out.2.2; omega))
  obtain ⟨A3, c3, rfl⟩ := Kd.R_slice hv
  clear hv hr hu hW k0 k1 k2 k3 HX HC
  have a0 : w3.cell? ⟨w.heap.size + 1, 0, none⟩ = some (.bool false) := HX3.out.1.ans.cell 0
  have a1 : w3.cell? ⟨w.heap.size + 1, 1, none⟩ = some (.int .u64 0) := HX3.out.1.ans.cell 1
  have a2 : w3.cell? ⟨w.heap.size + 1, 2, none⟩ = some (.slice none 0 0) := HX3.out.1.ans.cell 2
  have z0 := HX3.out.1.ans.frozen 0
  have z1 := HX3.out.1.ans.frozen 1
  have z2 := HX3.out.1.ans.frozen 2
  go_wp2
  refine bodyPost_ret (results_cell_row (by rfl) _ _ (w.heap.size + 1) 65 #[.bool a.f0, .int .u64 a.f1, .slice A3 a.f2.length c3] (0, 0) _ (by rfl) HX3.out.1.fin Tryz.underlying65 (by rfl) (by kernel_rfl)) rfl ?_
  exact HX3.out.1.out HX3.out.2 HV.out
set_option maxHeartbeats 1000000 in
set_option maxRecDepth 100000 in
theorem do_set (h : RunIs w g mb cb s) (o : S63) (hk : o.f0 = 3) {a : S65} {s' : St} (hc : ∀ W, RunIs W g mb cb s → Calls Tryz.prog 111 #[ptrR g, opV o] W (StepOut W g mb cb a s')) : Calls Tryz.prog 67 #[ptrR g, opV o] w (StepOut w g mb cb a s') := by
  have hX := boxed h o
  obtain ⟨W, hW⟩ : ∃ W, ((w.alloc (.cells #[.int .i64 o.f0, .string o.f1, .string o.f2, .int .u64 o.f3] 63)).alloc (.cells #[.bool false, .int .u64 0, .slice none 0 0] 65)) = W := ⟨_, rfl⟩
  rw [hW] at hX
  have hlt := hX.lt h
  have hcc := hc W hX.run
  obtain ⟨x0, x1, x2, x3⟩ := o
  simp only at hk
  subst hk
  have k0 : W.cell? ⟨w.heap.size, 0, none⟩ = some (.int .i64 3) := hX.op.cell 0
  have k1 : W.cell? ⟨w.heap.size, 1, none⟩ = some (.string x1) := hX.op.cell 1
  have k2 : W.cell? ⟨w.heap.size, 2, none⟩ = some (.string x2) := hX.op.cell 2
  have k3 : W.cell? ⟨w.heap.size, 3, none⟩ = some (.int .u64 x3) := hX.op.cell 3
  have HC := Lib.hid hcc
  have HX := Lib.hid (And.intro hX (And.intro hlt (show w.heap.size + 1 < W.heap.size from hX.ans.lt))); clear h hX hlt hc hcc
  go_enter Tryz.func67, Tryz.ntmps67
  go_wp2_with fail
  refine HC.out.mono ?_
  rintro e w3 ⟨vs, rfl, hv, hr, hu⟩
  have HX3 := Lib.hid (And.intro (HX.out.1.put HX.out.2.1 hr hu) HX.out.2.1)
  have HV := Lib.hid (Kd.R_lower (Kd.R_mono (Kd.R_bound hv) (fun q hq => show q ≠ w.heap.size + 1 by have := hq.2.1; have := HX.out.2.2; omega)) (show w.heap.size ≤ W.heap.size by have := HX.out.2.2; omega))
  obtain ⟨A3, c3, rfl⟩ := Kd.R_slice hv
  clear hv hr hu hW k0 k1 k2 k3 HX HC
  have a0 : w3.cell? ⟨w.heap.size + 1, 0, none⟩ = some (.bool false) := HX3.out.1.ans.cell 0
  have a1 : w3.cell? ⟨w.heap.size + 1, 1, none⟩ = some (.int .u64 0) := HX3.out.1.ans.cell 1
  have a2 : w3.cell? ⟨w.heap.size + 1, 2, none⟩ = some (.slice none 0 0) := HX3.out.1.ans.cell 2
  have z0 := HX3.out.1.ans.frozen 0
  have z1 := HX3.out.1.ans.frozen 1
  have z2 := HX3.out.1.ans.frozen 2
  go_wp2
  refine bodyPost_ret (results_cell_row (by rfl) _ _ (w.heap.size + 1) 65 #[.bool a.f0, .int .u64 a.f1, .slice A3 a.f2.length c3] (0, 0) _ (by rfl) HX3.out.1.fin Tryz.underlying65 (by rfl) (by kernel_rfl)) rfl ?_
  exact HX3.out.1.out HX3.out.2 HV.out
set_option maxHeartbeats 1000000 in
set_option maxRecDepth 100000 in
theorem do_add (h : RunIs w g mb cb s) (o : S63) (hk : o.f0 = 4) {a : S65} {s' : St} (hc : ∀ W, RunIs W g mb cb s → Calls Tryz.prog 112 #[ptrR g, opV o] W (StepOut W g mb cb a s')) : Calls Tryz.prog 67 #[ptrR g, opV o] w (StepOut w g mb cb a s') := by
  have hX := boxed h o
  obtain ⟨W, hW⟩ : ∃ W, ((w.alloc (.cells #[.int .i64 o.f0, .string o.f1, .string o.f2, .int .u64 o.f3] 63)).alloc (.cells #[.bool false, .int .u64 0, .slice none 0 0] 65)) = W := ⟨_, rfl⟩
  rw [hW] at hX
  have hlt := hX.lt h
  have hcc := hc W hX.run
  obtain ⟨x0, x1, x2, x3⟩ := o
  simp only at hk
  subst hk
  have k0 : W.cell? ⟨w.heap.size, 0, none⟩ = some (.int .i64 4) := hX.op.cell 0
  have k1 : W.cell? ⟨w.heap.size, 1, none⟩ = some (.string x1) := hX.op.cell 1
  have k2 : W.cell? ⟨w.heap.size, 2, none⟩ = some (.string x2) := hX.op.cell 2
  have k3 : W.cell? ⟨w.heap.size, 3, none⟩ = some (.int .u64 x3) := hX.op.cell 3
  have HC := Lib.hid hcc
  have HX := Lib.hid (And.intro hX (And.intro hlt (show w.heap.size + 1 < W.heap.size from hX.ans.lt))); clear h hX hlt hc hcc
  go_enter Tryz.func67, Tryz.ntmps67
  go_wp2_with fail
  refine HC.out.mono ?_
  rintro e w3 ⟨vs, rfl, hv, hr, hu⟩
  have HX3 := Lib.hid (And.intro (HX.out.1.put HX.out.2.1 hr hu) HX.out.2.1)
  have HV := Lib.hid (Kd.R_lower (Kd.R_mono (Kd.R_bound hv) (fun q hq => show q ≠ w.heap.size + 1 by have := hq.2.1; have := HX.out.2.2; omega)) (show w.heap.size ≤ W.heap.size by have := HX.out.2.2; omega))
  obtain ⟨A3, c3, rfl⟩ := Kd.R_slice hv
  clear hv hr hu hW k0 k1 k2 k3 HX HC
  have a0 : w3.cell? ⟨w.heap.size + 1, 0, none⟩ = some (.bool false) := HX3.out.1.ans.cell 0
  have a1 : w3.cell? ⟨w.heap.size + 1, 1, none⟩ = some (.int .u64 0) := HX3.out.1.ans.cell 1
  have a2 : w3.cell? ⟨w.heap.size + 1, 2, none⟩ = some (.slice none 0 0) := HX3.out.1.ans.cell 2
  have z0 := HX3.out.1.ans.frozen 0
  have z1 := HX3.out.1.ans.frozen 1
  have z2 := HX3.out.1.ans.frozen 2
  go_wp2
  refine bodyPost_ret (results_cell_row (by rfl) _ _ (w.heap.size + 1) 65 #[.bool a.f0, .int .u64 a.f1, .slice A3 a.f2.length c3] (0, 0) _ (by rfl) HX3.out.1.fin Tryz.underlying65 (by rfl) (by kernel_rfl)) rfl ?_
  exact HX3.out.1.out HX3.out.2 HV.out
set_option maxHeartbeats 1000000 in
set_option maxRecDepth 100000 in
theorem do_drop (h : RunIs w g mb cb s) (o : S63) (hk : o.f0 = 5) {a : S65} {s' : St} (hc : ∀ W, RunIs W g mb cb s → Calls Tryz.prog 113 #[ptrR g, opV o] W (StepOut W g mb cb a s')) : Calls Tryz.prog 67 #[ptrR g, opV o] w (StepOut w g mb cb a s') := by
  have hX := boxed h o
  obtain ⟨W, hW⟩ : ∃ W, ((w.alloc (.cells #[.int .i64 o.f0, .string o.f1, .string o.f2, .int .u64 o.f3] 63)).alloc (.cells #[.bool false, .int .u64 0, .slice none 0 0] 65)) = W := ⟨_, rfl⟩
  rw [hW] at hX
  have hlt := hX.lt h
  have hcc := hc W hX.run
  obtain ⟨x0, x1, x2, x3⟩ := o
  simp only at hk
  subst hk
  have k0 : W.cell? ⟨w.heap.size, 0, none⟩ = some (.int .i64 5) := hX.op.cell 0
  have k1 : W.cell? ⟨w.heap.size, 1, none⟩ = some (.string x1) := hX.op.cell 1
  have k2 : W.cell? ⟨w.heap.size, 2, none⟩ = some (.string x2) := hX.op.cell 2
  have k3 : W.cell? ⟨w.heap.size, 3, none⟩ = some (.int .u64 x3) := hX.op.cell 3
  have HC := Lib.hid hcc
  have HX := Lib.hid (And.intro hX (And.intro hlt (show w.heap.size + 1 < W.heap.size from hX.ans.lt))); clear h hX hlt hc hcc
  go_enter Tryz.func67, Tryz.ntmps67
  go_wp2_with fail
  refine HC.out.mono ?_
  rintro e w3 ⟨vs, rfl, hv, hr, hu⟩
  have HX3 := Lib.hid (And.intro (HX.out.1.put HX.out.2.1 hr hu) HX.out.2.1)
  have HV := Lib.hid (Kd.R_lower (Kd.R_mono (Kd.R_bound hv) (fun q hq => show q ≠ w.heap.size + 1 by have := hq.2.1; have := HX.out.2.2; omega)) (show w.heap.size ≤ W.heap.size by have := HX.out.2.2; omega))
  obtain ⟨A3, c3, rfl⟩ := Kd.R_slice hv
  clear hv hr hu hW k0 k1 k2 k3 HX HC
  have a0 : w3.cell? ⟨w.heap.size + 1, 0, none⟩ = some (.bool false) := HX3.out.1.ans.cell 0
  have a1 : w3.cell? ⟨w.heap.size + 1, 1, none⟩ = some (.int .u64 0) := HX3.out.1.ans.cell 1
  have a2 : w3.cell? ⟨w.heap.size + 1, 2, none⟩ = some (.slice none 0 0) := HX3.out.1.ans.cell 2
  have z0 := HX3.out.1.ans.frozen 0
  have z1 := HX3.out.1.ans.frozen 1
  have z2 := HX3.out.1.ans.frozen 2
  go_wp2
  refine bodyPost_ret (results_cell_row (by rfl) _ _ (w.heap.size + 1) 65 #[.bool a.f0, .int .u64 a.f1, .slice A3 a.f2.length c3] (0, 0) _ (by rfl) HX3.out.1.fin Tryz.underlying65 (by rfl) (by kernel_rfl)) rfl ?_
  exact HX3.out.1.out HX3.out.2 HV.out
set_option maxHeartbeats 1000000 in
set_option maxRecDepth 100000 in
theorem do_move (h : RunIs w g mb cb s) (o : S63) (hk : o.f0 = 6) {a : S65} {s' : St} (hc : ∀ W, RunIs W g mb cb s → Calls Tryz.prog 114 #[ptrR g, opV o] W (StepOut W g mb cb a s')) : Calls Tryz.prog 67 #[ptrR g, opV o] w (StepOut w g mb cb a s') := by
  have hX := boxed h o
  obtain ⟨W, hW⟩ : ∃ W, ((w.alloc (.cells #[.int .i64 o.f0, .string o.f1, .string o.f2, .int .u64 o.f3] 63)).alloc (.cells #[.bool false, .int .u64 0, .slice none 0 0] 65)) = W := ⟨_, rfl⟩
  rw [hW] at hX
  have hlt := hX.lt h
  have hcc := hc W hX.run
  obtain ⟨x0, x1, x2, x3⟩ := o
  simp only at hk
  subst hk
  have k0 : W.cell? ⟨w.heap.size, 0, none⟩ = some (.int .i64 6) := hX.op.cell 0
  have k1 : W.cell? ⟨w.heap.size, 1, none⟩ = some (.string x1) := hX.op.cell 1
  have k2 : W.cell? ⟨w.heap.size, 2, none⟩ = some (.string x2) := hX.op.cell 2
  have k3 : W.cell? ⟨w.heap.size, 3, none⟩ = some (.int .u64 x3) := hX.op.cell 3
  have HC := Lib.hid hcc
  have HX := Lib.hid (And.intro hX (And.intro hlt (show w.heap.size + 1 < W.heap.size from hX.ans.lt))); clear h hX hlt hc hcc
  go_enter Tryz.func67, Tryz.ntmps67
  go_wp2_with fail
  refine HC.out.mono ?_
  rintro e w3 ⟨vs, rfl, hv, hr, hu⟩
  have HX3 := Lib.hid (And.intro (HX.out.1.put HX.out.2.1 hr hu) HX.out.2.1)
  have HV := Lib.hid (Kd.R_lower (Kd.R_mono (Kd.R_bound hv) (fun q hq => show q ≠ w.heap.size + 1 by have := hq.2.1; have := HX.out.2.2; omega)) (show w.heap.size ≤ W.heap.size by have := HX.out.2.2; omega))
  obtain ⟨A3, c3, rfl⟩ := Kd.R_slice hv
  clear hv hr hu hW k0 k1 k2 k3 HX HC
  have a0 : w3.cell? ⟨w.heap.size + 1, 0, none⟩ = some (.bool false) := HX3.out.1.ans.cell 0
  have a1 : w3.cell? ⟨w.heap.size + 1, 1, none⟩ = some (.int .u64 0) := HX3.out.1.ans.cell 1
  have a2 : w3.cell? ⟨w.heap.size + 1, 2, none⟩ = some (.slice none 0 0) := HX3.out.1.ans.cell 2
  have z0 := HX3.out.1.ans.frozen 0
  have z1 := HX3.out.1.ans.frozen 1
  have z2 := HX3.out.1.ans.frozen 2
  go_wp2
  refine bodyPost_ret (results_cell_row (by rfl) _ _ (w.heap.size + 1) 65 #[.bool a.f0, .int .u64 a.f1, .slice A3 a.f2.length c3] (0, 0) _ (by rfl) HX3.out.1.fin Tryz.underlying65 (by rfl) (by kernel_rfl)) rfl ?_
  exact HX3.out.1.out HX3.out.2 HV.out
set_option maxHeartbeats 1000000 in
set_option maxRecDepth 100000 in
theorem do_none (h : RunIs w g mb cb s) (o : S63) (h1 : o.f0 ≠ 1) (h2 : o.f0 ≠ 2) (h3 : o.f0 ≠ 3) (h4 : o.f0 ≠ 4) (h5 : o.f0 ≠ 5) (h6 : o.f0 ≠ 6) : Calls Tryz.prog 67 #[ptrR g, opV o] w (StepOut w g mb cb ⟨false, 0, []⟩ s) := by
  have hX := boxed h o
  obtain ⟨w3, hW⟩ : ∃ w3, ((w.alloc (.cells #[.int .i64 o.f0, .string o.f1, .string o.f2, .int .u64 o.f3] 63)).alloc (.cells #[.bool false, .int .u64 0, .slice none 0 0] 65)) = w3 := ⟨_, rfl⟩
  rw [hW] at hX
  have hlt := hX.lt h
  have k0 : w3.cell? ⟨w.heap.size, 0, none⟩ = some (.int .i64 o.f0) := hX.op.cell 0
  have HX3 := Lib.hid (And.intro hX hlt); clear h hX hlt
  have d1 : (o.f0 == 1) = false := beq_eq_false_iff_ne.2 h1
  have d2 : (o.f0 == 2) = false := beq_eq_false_iff_ne.2 h2
  have d3 : (o.f0 == 3) = false := beq_eq_false_iff_ne.2 h3
  have d4 : (o.f0 == 4) = false := beq_eq_false_iff_ne.2 h4
  have d5 : (o.f0 == 5) = false := beq_eq_false_iff_ne.2 h5
  have d6 : (o.f0 == 6) = false := beq_eq_false_iff_ne.2 h6
  clear h1 h2 h3 h4 h5 h6
  have a0 : w3.cell? ⟨w.heap.size + 1, 0, none⟩ = some (.bool false) := HX3.out.1.ans.cell 0
  have a1 : w3.cell? ⟨w.heap.size + 1, 1, none⟩ = some (.int .u64 0) := HX3.out.1.ans.cell 1
  have a2 : w3.cell? ⟨w.heap.size + 1, 2, none⟩ = some (.slice none 0 0) := HX3.out.1.ans.cell 2
  have z0 := HX3.out.1.ans.frozen 0
  have z1 := HX3.out.1.ans.frozen 1
  have z2 := HX3.out.1.ans.frozen 2
  go_enter Tryz.func67, Tryz.ntmps67
  go_wp2
  refine bodyPost_ret (results_cell_row (by rfl) _ _ (w.heap.size + 1) 65 #[.bool false, .int .u64 0, .slice none 0 0] (0, 0) _ (by rfl) HX3.out.1.fin Tryz.underlying65 (by rfl) (by kernel_rfl)) rfl ?_
  exact HX3.out.1.out HX3.out.2 (Kd.R_nil _ _ _ _ _)
theorem rndo_any (h : RunIs w g mb cb s) {n : Nat} (hf : StFit s n) (hn : n ≤ 1000000) (o : S63) (ho : opOk o) : Calls Tryz.prog 67 #[ptrR g, opV o] w (StepOut w g mb cb (stepA o s) (stepS o s)) := by
  have hm1 := maxLen_ge ho.1
  have hm2 := maxLen_ge ho.2
  have hs := hf.small (by omega)
  have hs2 : ∀ k n, (s.put k n).small := fun k v => ⟨Nat.le_trans (putL_le hf.ok.1 k v) (by have := hf.dl; omega), Nat.le_trans (putL_le hf.ok.2.1 k true) (by have := hf.cl; omega)⟩
  by_cases h1 : o.f0 = 1
  · rw [show stepA o s = ⟨s.has o.f1, s.at o.f1, []⟩ by unfold stepA; rw [if_pos h1], show stepS o s = s by unfold stepS; simp [h1]]
    exact do_get h o h1 fun W hW => rnget_any hW o hm1
  by_cases h2 : o.f0 = 2
  · rw [show stepA o s = ⟨true, 0, pickT [⟨o.f1, o.f2⟩] (s.d.map ofA)⟩ by unfold stepA; rw [if_neg h1, if_pos h2], show stepS o s = s by unfold stepS; simp [h2]]
    exact do_scan h o h2 fun W hW => rnscan_any hW (Nat.le_trans hf.dl hn) hf.dk o
  by_cases h3 : o.f0 = 3
  · rw [show stepA o s = ⟨true, 0, []⟩ by unfold stepA; simp [h3], show stepS o s = s.put o.f1 o.f3 by unfold stepS; simp [h3]]
    exact do_set h o h3 fun W hW => rnset_any hW hs o hm1
  by_cases h4 : o.f0 = 4
  · rw [show stepA o s = ⟨s.has o.f1, addN (s.at o.f1) o.f3, []⟩ by unfold stepA; simp [h4], show stepS o s = s.put o.f1 (addN (s.at o.f1) o.f3) by unfold stepS; simp [h4]]
    exact do_add h o h4 fun W hW => rnadd_any hW hs o hm1
  by_cases h5 : o.f0 = 5
  · rw [show stepA o s = ⟨s.has o.f1, 0, []⟩ by unfold stepA; simp [h5], show stepS o s = s.drop o.f1 by unfold stepS; simp [h5]]
    exact do_drop h o h5 fun W hW => rndrop_any hW hs o hm1
  by_cases h6 : o.f0 = 6
  · cases c1 : geN (s.at o.f1) o.f3 with
    | false =>
      rw [show stepA o s = ⟨false, 0, []⟩ by unfold stepA; simp [h6, c1], show stepS o s = s by unfold stepS; simp [h6, c1]]
      exact do_move h o h6 fun W hW => rnmove_no1 hW o hm1 c1
    | true =>
      cases c2 : geN o.f3 0 with
      | false =>
        rw [show stepA o s = ⟨false, 0, []⟩ by unfold stepA; simp [h6, c1, c2], show stepS o s = s by unfold stepS; simp [h6, c1, c2]]
        exact do_move h o h6 fun W hW => rnmove_no2 hW o hm1 c1 c2
      | true =>
        rw [show stepA o s = ⟨true, 0, []⟩ by unfold stepA; simp [h6, c1, c2], show stepS o s = (s.put o.f1 (addN (s.at o.f1) (negN o.f3))).put o.f2 (addN ((s.put o.f1 (addN (s.at o.f1) (negN o.f3))).at o.f2) o.f3) by unfold stepS; simp [h6, c1, c2]]
        exact do_move h o h6 fun W hW => rnmove_yes hW hs hs2 o hm1 hm2 c1 c2
  · rw [show stepA o s = ⟨false, 0, []⟩ by unfold stepA; simp [h1, h2, h3, h4, h5, h6], show stepS o s = s by unfold stepS; simp [h3, h4, h5, h6]]
    exact do_none h o h1 h2 h3 h4 h5 h6
end
end Go.Proofs.YtgmlenpcchhmbaaGreat.P
end
section
set_option linter.unusedVariables false
set_option linter.unusedSimpArgs false
namespace Go.Proofs.YtgmlenpcchhmbaaGreat.P
open Go.RowKit Go.Proofs.YtgmlenpcchhmbaaGreatW.PrintWords Go.Proofs.YtgmlenpcchhmbaaGreatW.PrintLast Go.Proofs.YtgmlenpcchhmbaaGreatW.PrintMore
theorem fit_run : ∀ (l : List S63) {s : St} {n : Nat}, StFit s n → (∀ o ∈ l, opOk o) → StFit (runS l s) (n + 2 * l.length)
  | [], _, _, h, _ => h
  | o :: l, _, _, h, ho => (fit_run l (h.step (ho o (List.mem_cons_self ..))) (fun p hp => ho p (List.mem_cons_of_mem _ hp))).mono (by rw [List.length_cons]; omega)
theorem fit_take (l : List S63) {s : St} {n : Nat} (h : StFit s n) (ho : ∀ o ∈ l, opOk o) (k : Nat) : StFit (runS (l.take k) s) (n + 2 * l.length) :=
  (fit_run (l.take k) h (fun p hp => ho p (List.mem_of_mem_take hp))).mono (by rw [List.length_take]; omega)
theorem start_fit {data : List S61} (h : keysOk data) : StFit (startT data) data.length := by
  refine ⟨start_ok data, mapT_len data, Nat.zero_le _, ?_, fun x hx => by cases hx⟩
  have key : ∀ (d : List S61) (l : List (ByteArray × Int)), (∀ p ∈ d, p.f0.size ≤ 1000000) → keySizes l → keySizes (d.foldl (fun l p => putL l p.f0 p.f1) l) := by
    intro d
    induction d with
    | nil => intro l _ hl; exact hl
    | cons p d ih => intro l hd hl; exact ih _ (fun q hq => hd q (List.mem_cons_of_mem _ hq)) (keySizes_put hl (hd p (List.mem_cons_self ..)) _)
  exact key data [] h.2 (fun x hx => by cases hx)
def wrOf (d : List (ByteArray × Int)) (x : ByteArray × Bool) : S69 := ⟨x.1, (getL d x.1).getD 0, (getL d x.1).isNone⟩
set_option maxHeartbeats 4000000 in
set_option maxRecDepth 100000 in
theorem eval_any (A : Option Addr) (c : Nat) (l : List S63) (A' : Option Addr) (c' : Nat) (data : List S61) (w : World) (hr : Kd.C k63 w A l.length l) (hr' : Kd.C k61 w A' data.length data) (hl : l.length ≤ 1000) (ho : ∀ o ∈ l, opOk o) (hd : keysOk data) (hd2 : data.length ≤ 900000) :
    Calls Tryz.prog 26 #[.slice A l.length c, .slice A' data.length c'] w fun e w' => ∃ v1 v2, e = .returned (.tuple #[v1, v2]) ∧ Kd.R k69 69 w' w.heap.size (fun _ => True) v1 (writesT (runS l (startT data))) ∧ Kd.S k65 65 w' w.heap.size (fun _ => True) v2 (runA l (startT data)) ∧ Below w.heap.size w w' := by
  have HM := Lib.hid (mapped_any A' c' data w hr' hd)
  have HF := Lib.hid (fun k => fit_take l (start_fit hd) ho k)
  have HX := Lib.hid (And.intro hr (And.intro ho (And.intro hl hd2)))
  have hmx := Kd.C_max hr
  clear hr hr' hd ho
  have hmm := @run_makeMap Tryz.prog
  go_enter Tryz.func26, Tryz.ntmps26
  go_wp2_with fail
  refine HM.out.mono ?_
  rintro e w1 ⟨rfl, hm1, hb1⟩
  have hlt1 := hm1.lt
  obtain ⟨w3, hw3⟩ : ∃ w3, (w1.alloc (.map #[] 0)).alloc (.cells #[.map (some w.heap.size), .map (some w1.heap.size)] 107) = w3 := ⟨_, rfl⟩
  have hba : Below w1.heap.size w1 (w1.alloc (.map #[] 0)) := (Below.refl _ _).alloc (Nat.le_refl _) _
  have hbb : Below w1.heap.size w1 w3 := hw3 ▸ hba.alloc (by simp) _
  have hrun : RunIs w3 (w1.heap.size + 1) w.heap.size w1.heap.size (startT data) := by
    refine ⟨?_, by omega, hm1.below hbb, ?_⟩
    · have := Blk.new (w1.alloc (.map #[] 0)) 107 #[.map (some w.heap.size), .map (some w1.heap.size)]
      rw [hw3] at this
      simpa using this
    · have := (MS.made encB w1).below (w' := w3) (hw3 ▸ (Below.refl _ _).alloc (Nat.le_refl _) _)
      exact this
  have hgz : w.heap.size < w1.heap.size := hlt1
  have HR := Lib.hid (And.intro hrun (hb1.trans (hbb.mono hb1.size)))
  clear hm1 hlt1 hba hbb hrun HM
  go_wp2
  go_loopw [5, 8, 20] (fun so _ i wr => ∃ (k : Nat) (A2 : Option Addr) (c2 : Nat), so = .slice A2 k c2 ∧ i = .int .i64 k ∧ k ≤ l.length ∧ RowKit.Hid (RunIs wr (w1.heap.size + 1) w.heap.size w1.heap.size (runS (l.take k) (startT data)) ∧ Kd.S k65 65 wr w.heap.size (fun q => q ≠ w1.heap.size + 1 ∧ q ≠ w.heap.size ∧ q ≠ w1.heap.size) (.slice A2 k c2) (runA (l.take k) (startT data)) ∧ Below w.heap.size w wr)) (fun _ _ i _ => l.length - (intOf i).toNat)
  case atStart => exact ⟨0, none, 0, rfl, rfl, Nat.zero_le _, Lib.hid ⟨HR.out.1, Kd.S_nil _ _ _ _ _, HR.out.2⟩⟩
  case round =>
    obtain ⟨k, A2, c2, rfl, rfl, hk, HS⟩ := hrel
    by_cases hlt : k < l.length
    · obtain ⟨ad, hA, d0, d1, d2, d3⟩ := C_atO (Kd.C_below HX.out.1 HS.out.2.2) k hlt
      subst hA
      have hoo := HX.out.2.1 l[k] (List.getElem_mem hlt)
      have hsA : runA (l.take (k + 1)) (startT data) = runA (l.take k) (startT data) ++ [stepA l[k] (runS (l.take k) (startT data))] := by rw [List.take_succ_eq_append_getElem hlt, runA_snoc]
      have hsS : runS (l.take (k + 1)) (startT data) = stepS l[k] (runS (l.take k) (startT data)) := by rw [List.take_succ_eq_append_getElem hlt, runS_snoc]
      have hfit := HF.out k
      have hlenA : (runA (l.take k) (startT data)).length = k := by rw [runA_len, List.length_take]; omega
      generalize l[k] = x at *
      generalize runS (l.take k) (startT data) = s at *
      generalize runA (l.take k) (startT data) = an at *
      generalize hsa : stepA x s = a at *
      generalize hss : stepS x s = s' at *
      obtain ⟨W, hW⟩ : ∃ W, wr.alloc (.cells #[.int .i64 x.f0, .string x.f1, .string x.f2, .int .u64 x.f3] 63) = W := ⟨_, rfl⟩
      have hbW : Below wr.heap.size wr W := hW ▸ (Below.refl _ _).alloc (Nat.le_refl _) _
      have hTW : Blk W wr.heap.size 63 #[.int .i64 x.f0, .string x.f1, .string x.f2, .int .u64 x.f3] := hW ▸ Blk.new wr 63 _
      have t0 : W.cell? ⟨wr.heap.size, 0, none⟩ = some (.int .i64 x.f0) := hTW.cell 0
      have t1 : W.cell? ⟨wr.heap.size, 1, none⟩ = some (.string x.f1) := hTW.cell 1
      have t2 : W.cell? ⟨wr.heap.size, 2, none⟩ = some (.string x.f2) := hTW.cell 2
      have t3 : W.cell? ⟨wr.heap.size, 3, none⟩ = some (.int .u64 x.f3) := hTW.cell 3
      have hdo := rndo_any (HS.out.1.below hbW) hfit (by have := HX.out.2.2; omega) x hoo
      rw [hsa, hss] at hdo
      have HD := Lib.hid hdo
      have HN := Lib.hid (And.intro hsA (And.intro hsS (And.intro hlenA (And.intro hbW hTW.lt))))
      clear hdo hsA hsS hlenA hbW hTW hfit hoo hsa hss
      go_wp2_with fail
      refine HD.out.mono ?_
      rintro e w4 ⟨vs, rfl, hv, hr4, hu4⟩
      obtain ⟨A4, c4, rfl⟩ := Kd.R_slice hv
      have hlv : ∀ q, (Value.slice A2 k c2).ownBlock = some q → q < wr.heap.size := Kd.S_lt HS.out.2.1
      have hszW : wr.heap.size ≤ W.heap.size := HN.out.2.2.2.1.size
      have hin : w1.heap.size + 1 < wr.heap.size := HS.out.1.blk.lt
      have hsw : w.heap.size ≤ wr.heap.size := HS.out.2.2.size
      have hB4 : Below w.heap.size w w4 := (HS.out.2.2.trans (HN.out.2.2.2.1.mono hsw)).trans (hu4.below (by omega) (fun q hq e => by omega))
      have H4 := Lib.hid (And.intro hv (And.intro hr4 (And.intro hu4 (And.intro hB4 hlv))))
      clear hv hr4 hu4 hB4 hlv t0 t1 t2 t3 hW HD
      go_wp2_with (first | ((with_reducible refine gate_builtin (b := .append) (xs := #[.tmp 24, .tmp 28]) rfl ?_); at_builtin; refine stop_append rfl ?_))
      refine Lib.hid ?_
      refine Kd.S_append k65 (w0 := w) w.heap.size rfl (.tmp 24) (.tmp 28) 44 65 (.agg #[.bool false, .int .u64 0, .slice none 0 0]) 40 rfl Tryz.underlying44 info65 rfl (by decide) (by decide) (.slice A2 k c2) an a [.bool a.f0, .int .u64 a.f1, .slice A4 a.f2.length c4] (fun q => q ≠ w1.heap.size + 1 ∧ q ≠ w.heap.size ∧ q ≠ w1.heap.size) (fun q => W.heap.size ≤ q) rfl rfl (k65_mkM _ _ _ _ (Kd.R_lower (Kd.R_mono (Kd.R_bound H4.out.1) (fun q hq => hq.2.1)) (by omega))) ?_ ?_ ?_ H4.out.2.2.2.1 H4.out.2.2.2.1.size ?_ ?_
      · intro q hq
        exact ⟨⟨by omega, by omega, by omega⟩, fun e => by have := H4.out.2.2.2.2 q e.symm; omega⟩
      · intro q hq
        have := H4.out.2.2.1.size
        exact ⟨by omega, by omega, by omega⟩
      · refine Kd.S_step (Kd.S_mono (Kd.S_bound HS.out.2.1) (fun q hq => ⟨hq.1, by have := hq.2.2.1; omega⟩)) (fun q hq hql => ?_)
        exact (H4.out.2.2.1.block q (by omega) (fun e => by rcases e with e | e; exact hq.1.2.1 e; exact hq.1.2.2 e)).trans (HN.out.2.2.2.1.block q hql)
      · have := HN.out.2.2.1; have := HX.out.2.2; omega
      intro v5 w5 hS5 hB5 hg5 hat5
      have hln : (an ++ [a]).length = k + 1 := by rw [List.length_append, HN.out.2.2.1]; rfl
      obtain ⟨A5, c5, e5⟩ := Kd.S_slice hS5
      rw [hln] at e5
      have hr5 : RunIs w5 (w1.heap.size + 1) w.heap.size w1.heap.size s' := by
        have hu5 : Upd w4 w5 (fun q => some q = (Value.slice A2 k c2).ownBlock) := Upd.of_grown hg5 (fun q hq => hq.symm)
        exact H4.out.2.1.upd hu5 (fun h => ((Kd.S_R HS.out.2.1).1 _ h.symm).1 rfl) (fun h => ((Kd.S_R HS.out.2.1).1 _ h.symm).2.1 rfl) (fun h => ((Kd.S_R HS.out.2.1).1 _ h.symm).2.2 rfl)
      have HN5 := Lib.hid (And.intro hS5 (And.intro hB5 hr5))
      rw [e5] at HN5
      rw [e5]
      clear hS5 hB5 hg5 hat5 e5 hr5
      go_wp2_with fail
      go_roundw
      case rel => exact ⟨k + 1, A5, c5, rfl, by go_num, by omega, Lib.hid ⟨by rw [HN.out.2.1]; exact HN5.out.2.2, by rw [HN.out.1]; exact HN5.out.1, HN5.out.2.1⟩⟩
      case measure => simp [intOf]; omega
    · obtain rfl : k = l.length := by omega
      have hfit := HF.out l.length
      rw [List.take_length] at HS hfit
      obtain ⟨s, hse⟩ : ∃ s, runS l (startT data) = s := ⟨_, rfl⟩
      obtain ⟨an, hae⟩ : ∃ an, runA l (startT data) = an := ⟨_, rfl⟩
      rw [hse] at HS hfit
      rw [hae] at HS
      have HE := Lib.hid (And.intro hse hae)
      clear hse hae
      have HF2 := Lib.hid hfit
      have hcl : s.c.length ≤ 1000000 := by have := hfit.cl; have := HX.out.2.2; omega
      have hb5 : Below wr.heap.size wr (wr.alloc (.cells #[.map (some w1.heap.size)] 105)) := (Below.refl _ _).alloc (Nat.le_refl _) _
      have HK := Lib.hid (keysSB_any (some w1.heap.size) wr)
      have HSO := Lib.hid (sortedSB_any (Bm := wr.heap.size) (HS.out.1.c.below hb5) hcl (by simp) ((Blk.new wr 105 #[.map (some w1.heap.size)]).cell 0))
      have HB5 := Lib.hid hb5
      have hr1 : wr.cell? ⟨w1.heap.size + 1, 1, none⟩ = some (.map (some w1.heap.size)) := HS.out.1.blk.cell 1
      clear hfit HF HR hb5
      go_wp2_with fail
      refine HK.out.mono ?_
      rintro e w5 ⟨rfl, rfl⟩
      go_wp2_with fail
      refine HSO.out.mono ?_
      rintro e w6 ⟨v6, rfl, hR6, hb6⟩
      obtain ⟨A6, c6, rfl, hc6, hC6⟩ := Kd.R_reads hR6
      have hB6 : Below wr.heap.size wr w6 := HB5.out.trans (hb6.mono (by simp))
      have hlen : (s.c.map (·.1)).length = s.c.length := List.length_map _
      have HY := Lib.hid (And.intro hC6 (And.intro hB6 (And.intro (HS.out.2.2.trans (hB6.mono HS.out.2.2.size)) HS.out.1)))
      have hge := hB6.size
      clear hR6 hC6 hb6 hB6 HSO HK hr1
      rw [hlen] at HY hc6 ⊢
      go_wp2
      go_loopw [4, 10, 11, 12, 38, 42] (fun so _ _ _ i _ wq => ∃ (k : Nat) (A7 : Option Addr) (c7 : Nat), so = .slice A7 k c7 ∧ i = .int .i64 k ∧ k ≤ s.c.length ∧ RowKit.Hid (Kd.R k69 69 wq w6.heap.size (fun _ => True) (.slice A7 k c7) ((s.c.take k).map (wrOf s.d)) ∧ Below w6.heap.size w6 wq)) (fun _ _ _ _ i _ _ => s.c.length - (intOf i).toNat)
      case atStart => exact ⟨0, none, 0, rfl, rfl, Nat.zero_le _, Lib.hid ⟨Kd.R_nil _ _ _ _ _, Below.refl _ _⟩⟩
      case round =>
        obtain ⟨k, A7, c7, rfl, rfl, hk7, HR7⟩ := hrel
        rename World => wq
        have hbw : Below wr.heap.size wr wq := HY.out.2.1.trans (HR7.out.2.mono hge)
        by_cases hlt : k < s.c.length
        · obtain ⟨ad, hA, d0⟩ := C_atS (Kd.C_below HY.out.1 HR7.out.2) k (by rw [hlen]; exact hlt)
          subst hA
          rw [List.getElem_map] at d0
          have hsz := maxLen_ge (HF2.out.ck s.c[k] (List.getElem_mem hlt))
          have hrq := HY.out.2.2.2.below hbw
          have hr0 : wq.cell? ⟨w1.heap.size + 1, 0, none⟩ = some (.map (some w.heap.size)) := hrq.blk.cell 0
          have hlk := hrq.d.look Tryz.underlying103 (zeroNum _) hsz
          have hst : (s.c.take (k + 1)).map (wrOf s.d) = (s.c.take k).map (wrOf s.d) ++ [⟨s.c[k].1, (getL s.d s.c[k].1).getD 0, (getL s.d s.c[k].1).isNone⟩] := by rw [List.take_succ_eq_append_getElem hlt, List.map_append]; rfl
          have hv : ((getL s.d s.c[k].1).map encN).getD (.int .u64 0) = .int .u64 ((getL s.d s.c[k].1).getD 0) := by cases getL s.d s.c[k].1 <;> rfl
          have hy : (getL s.d s.c[k].1).isNone = !(getL s.d s.c[k].1).isSome := by cases getL s.d s.c[k].1 <;> rfl
          rw [hv] at hlk
          rw [hy] at hst
          clear hv hy
          generalize (getL s.d s.c[k].1).getD 0 = n0 at *
          generalize (getL s.d s.c[k].1).isSome = y0 at *
          generalize s.c[k].1 = x0 at *
          have HN := Lib.hid hst
          clear hst hsz hrq
          go_wp2_with (first | ((with_reducible refine gate_builtin (b := .append) (xs := #[.tmp 51, .tmp 57]) rfl ?_); at_builtin; refine stop_append rfl ?_))
          refine Lib.hid ?_
          refine Kd.R_append k69 (w0 := w6) w6.heap.size rfl (.tmp 51) (.tmp 57) 43 69 (.agg #[.string ⟨#[]⟩, .int .u64 0, .bool false]) 32 rfl Tryz.underlying43 info69 rfl (by decide) (by decide) (.slice A7 k c7) ((s.c.take k).map (wrOf s.d)) ⟨x0, n0, !y0⟩ [.string x0, .int .u64 n0, .bool (!y0)] (fun _ => True) (fun _ => False) rfl rfl (k69_mkM _ _ _ _) (fun _ h => h.elim) (fun _ _ => trivial) HR7.out.1 HR7.out.2 HR7.out.2.size (by rw [List.length_map, List.length_take]; omega) ?_
          intro v9 w9 hS9 hB9 hg9 hat9
          have hln : ((s.c.take k).map (wrOf s.d) ++ [(⟨x0, n0, !y0⟩ : S69)]).length = k + 1 := by simp; omega
          obtain ⟨A9, c9, e9⟩ := Kd.R_slice hS9
          rw [hln] at e9
          have HN9 := Lib.hid (And.intro hS9 hB9)
          rw [e9] at HN9
          rw [e9]
          clear hS9 hB9 hg9 hat9 e9 hlk d0 hr0
          go_wp2_with fail
          go_roundw
          case rel => exact ⟨k + 1, A9, c9, rfl, by go_num, by omega, Lib.hid ⟨by rw [HN.out]; exact HN9.out.1, HN9.out.2⟩⟩
          case measure => simp [intOf]; omega
        · obtain rfl : k = s.c.length := by omega
          have HZ := Lib.hid (And.intro (Kd.R_lower HR7.out.1 (Nat.le_trans HS.out.2.2.size hge)) (And.intro (Kd.S_mono (Kd.S_below HS.out.2.1 hbw) (fun _ _ => trivial)) (HS.out.2.2.trans (hbw.mono HS.out.2.2.size))))
          rw [List.take_length] at HZ
          clear hbw
          go_wp2
          go_ret2
          refine ⟨_, _, rfl, ?_⟩
          rw [HE.out.1, HE.out.2]
          exact HZ.out
def evalOk (l : List S63) (data : List S61) : Prop := l.length ≤ 1000 ∧ (∀ o ∈ l, opOk o) ∧ data.length ≤ 900000 ∧ (∀ p ∈ data, p.f0.size ≤ 1000000)
instance (l : List S63) (data : List S61) : Decidable (evalOk l data) := by unfold evalOk opOk; exact inferInstance
def txn_Eval.f (l : List S63) (data : List S61) : Option (List S69 × List S65) := if evalOk l data then some (writesT (runS l (startT data)), runA l (startT data)) else none
theorem txn_Eval.calls (A0 : Option Addr) (c0 : Nat) (l0 : List S63) (A1 : Option Addr) (c1 : Nat) (l1 : List S61) (r0 : List S69) (r1 : List S65) (w : World) (hr0 : Kd.C k63 w A0 l0.length l0) (_hc0 : l0.length ≤ c0) (hr1 : Kd.C k61 w A1 l1.length l1) (_hc1 : l1.length ≤ c1) (h : txn_Eval.f l0 l1 = some (r0, r1)) :
    Calls Tryz.prog 26 #[.slice A0 l0.length c0, .slice A1 l1.length c1] w fun e w' => ∃ v0_ v1_ : Value, e = .returned (.tuple #[v0_, v1_]) ∧ Kd.R k69 69 w' w.heap.size (fun _ => True) v0_ r0 ∧ Kd.S k65 65 w' w.heap.size (fun _ => True) v1_ r1 ∧ Below w.heap.size w w' := by
  unfold txn_Eval.f at h
  split at h
  · rename_i hc
    injection h with h
    injection h with h0 h1
    subst h0 h1
    exact eval_any A0 c0 l0 A1 c1 l1 w hr0 hr1 hc.1 hc.2.1 ⟨by have := hc.2.2.1; omega, hc.2.2.2⟩ hc.2.2.1
  · cases h
end Go.Proofs.YtgmlenpcchhmbaaGreat.P
end
