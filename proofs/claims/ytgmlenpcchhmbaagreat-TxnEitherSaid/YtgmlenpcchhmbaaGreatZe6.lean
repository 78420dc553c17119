/- what the claim's row stands on, part 6. -/
import Derived.Shelf.SlGeneric
import Derived.Shelf.SlIter.Nil
import Derived.Shelf.SortM.Plain
import Derived.Shelf.SortM.SortNone
import Derived.Shelf.SlLaysF0
import Derived.Ground.GgzProg
import Derived.Ground.SlgmProg
import Derived.Ground.SlsfProg
import Derived.Test.YtgmlenpcchhmbaaGreatProg
import Derived.Test.YtgmlenpcchhmbaaGreatZe2
import Derived.Lib.OwnBridge
import Derived.Maps.OwnOps
import Derived.Maps.OwnSet
import Derived.Maps.RangeWalk
import Derived.StringKeys
import Derived.Sort.KeysCollected
import Derived.Deep.QuietTactic
import Derived.BigQuiet
import Derived.Lib.AppendZerosOnto
import Derived.Lib.Overlaps
import Derived.Laws.CopyRow
import Derived.Laws.Tables
import Derived.Lib.Bytealg
import Derived.Test.YtgmlenpcchhmbaaGreatZe3
import Derived.Shelf.SlSortCmp.WholeK
import Derived.Shelf.SlSortCmp.NoneTotal
section
set_option linter.unusedVariables false
set_option linter.unusedSimpArgs false
namespace Go.Proofs
open Go.Shelf
def Tryz.shKeysB_ren : Go.Shelf.Ren := ⟨fun | 7 => 69 | 10 => 117 | n => n, fun | 23 => 105 | 26 => 9 | 3 => 4 | 28 => 111 | 0 => 0 | 27 => 110 | 33 => 73 | 4 => 4 | n => n, fun | n => n⟩
theorem Tryz.shKeysB : Go.Proofs.SlLaysZ.n7 Tryz.prog Tryz.shKeysB_ren := {
  mixed := by kernel_rfl
  f7 := ⟨Tryz.f69.name, by decide, Tryz.func69.trans (congrArg some (by kernel_rfl))⟩
  f10 := ⟨Tryz.f117.name, by decide, Tryz.func117.trans (congrArg some (by kernel_rfl))⟩
  t0 := Tryz.underlying0
  a0 := Tryz.isAgg0
  z0 := Tryz.sizeOf0
  v0 := Tryz.zeroValue0
  t4 := Tryz.underlying4
  a4 := Tryz.isAgg4
  z4 := Tryz.sizeOf4
  v4 := Tryz.zeroValue4
  t23 := Tryz.underlying105
  a23 := Tryz.isAgg105
  z23 := Tryz.sizeOf105
  v23 := Tryz.zeroValue105
  t26 := Tryz.underlying9
  a26 := Tryz.isAgg9
  z26 := Tryz.sizeOf9
  v26 := Tryz.zeroValue9
  t27 := Tryz.underlying110
  a27 := Tryz.isAgg110
  z27 := Tryz.sizeOf110
  v27 := Tryz.zeroValue110
  t28 := Tryz.underlying111
  a28 := Tryz.isAgg111
  z28 := Tryz.sizeOf111
  v28 := Tryz.zeroValue111
  t33 := Tryz.underlying73
  a33 := Tryz.isAgg73
  z33 := Tryz.sizeOf73
  v33 := Tryz.zeroValue73 }
def Tryz.shKeysN_ren : Go.Shelf.Ren := ⟨fun | 7 => 160 | 10 => 182 | n => n, fun | 23 => 103 | 26 => 9 | 3 => 58 | 28 => 111 | 0 => 0 | 27 => 110 | 33 => 73 | 4 => 4 | n => n, fun | n => n⟩
theorem Tryz.shKeysN : Go.Proofs.SlLaysZ.n7 Tryz.prog Tryz.shKeysN_ren := {
  mixed := by kernel_rfl
  f7 := ⟨Tryz.f160.name, by decide, Tryz.func160.trans (congrArg some (by kernel_rfl))⟩
  f10 := ⟨Tryz.f182.name, by decide, Tryz.func182.trans (congrArg some (by kernel_rfl))⟩
  t0 := Tryz.underlying0
  a0 := Tryz.isAgg0
  z0 := Tryz.sizeOf0
  v0 := Tryz.zeroValue0
  t4 := Tryz.underlying4
  a4 := Tryz.isAgg4
  z4 := Tryz.sizeOf4
  v4 := Tryz.zeroValue4
  t23 := Tryz.underlying103
  a23 := Tryz.isAgg103
  z23 := Tryz.sizeOf103
  v23 := Tryz.zeroValue103
  t26 := Tryz.underlying9
  a26 := Tryz.isAgg9
  z26 := Tryz.sizeOf9
  v26 := Tryz.zeroValue9
  t27 := Tryz.underlying110
  a27 := Tryz.isAgg110
  z27 := Tryz.sizeOf110
  v27 := Tryz.zeroValue110
  t28 := Tryz.underlying111
  a28 := Tryz.isAgg111
  z28 := Tryz.sizeOf111
  v28 := Tryz.zeroValue111
  t33 := Tryz.underlying73
  a33 := Tryz.isAgg73
  z33 := Tryz.sizeOf73
  v33 := Tryz.zeroValue73 }
def Tryz.shSorted_ren : Go.Shelf.Ren := ⟨fun | 6 => 68 | 8 => 115 | 9 => 116 | 11 => 149 | 13 => 151 | 12 => 150 | 23 => 171 | 24 => 172 | 14 => 162 | 15 => 163 | 16 => 164 | 17 => 165 | 18 => 166 | 19 => 167 | 20 => 168 | 21 => 169 | 22 => 170 | 25 => 183 | 26 => 184 | 27 => 185 | 28 => 186 | 29 => 187 | 30 => 188 | 31 => 192 | n => n, fun | 26 => 9 | 28 => 111 | 24 => 56 | 0 => 0 | 3 => 3 | 37 => 158 | 48 => 196 | 50 => 57 | 4 => 4 | 40 => 189 | 39 => 188 | 45 => 119 | 5 => 5 | 9 => 9 | 51 => 204 | 55 => 208 | 57 => 212 | 58 => 213 | 33 => 73 | n => n, fun | n => n⟩
theorem Tryz.shSorted : Go.Proofs.SlLaysZ.n6 Tryz.prog Tryz.shSorted_ren := {
  mixed := by kernel_rfl
  f6 := ⟨Tryz.f68.name, by decide, Tryz.func68.trans (congrArg some (by kernel_rfl))⟩
  f8 := ⟨Tryz.f115.name, by decide, Tryz.func115.trans (congrArg some (by kernel_rfl))⟩
  f11 := ⟨Tryz.f149.name, by decide, Tryz.func149.trans (congrArg some (by kernel_rfl))⟩
  t0 := Tryz.underlying0
  a0 := Tryz.isAgg0
  z0 := Tryz.sizeOf0
  v0 := Tryz.zeroValue0
  t24 := Tryz.underlying56
  a24 := Tryz.isAgg56
  z24 := Tryz.sizeOf56
  v24 := Tryz.zeroValue56
  t26 := Tryz.underlying9
  a26 := Tryz.isAgg9
  z26 := Tryz.sizeOf9
  v26 := Tryz.zeroValue9
  t28 := Tryz.underlying111
  a28 := Tryz.isAgg111
  z28 := Tryz.sizeOf111
  v28 := Tryz.zeroValue111
  i26 := by kernel_rfl }
def Tryz.shSort_ren : Go.Shelf.Ren := ⟨fun | 6 => 116 | 8 => 151 | 9 => 150 | 19 => 171 | 20 => 172 | 21 => 162 | 22 => 163 | 23 => 164 | 24 => 165 | 25 => 166 | 26 => 167 | 27 => 168 | 28 => 169 | 29 => 170 | 36 => 183 | 31 => 184 | 32 => 185 | 37 => 186 | 38 => 187 | 39 => 188 | 41 => 192 | n => n, fun | 27 => 56 | 29 => 9 | 3 => 3 | 32 => 158 | 26 => 56 | 0 => 0 | 44 => 196 | 46 => 57 | 4 => 4 | 36 => 189 | 35 => 188 | 41 => 119 | 5 => 5 | 9 => 9 | 53 => 204 | 57 => 208 | 63 => 212 | 64 => 213 | n => n, fun | n => n⟩
theorem Tryz.shSort : Go.Proofs.SlLaysM.n6 Tryz.prog Tryz.shSort_ren := {
  mixed := by kernel_rfl
  f6 := ⟨Tryz.f116.name, by decide, Tryz.func116.trans (congrArg some (by kernel_rfl))⟩
  f8 := Tryz.func151.trans (congrArg some (by kernel_rfl))
  f9 := ⟨Tryz.f150.name, by decide, Tryz.func150.trans (congrArg some (by kernel_rfl))⟩
  f19 := Tryz.func171.trans (congrArg some (by kernel_rfl))
  f20 := Tryz.func172.trans (congrArg some (by kernel_rfl))
  f21 := ⟨Tryz.f162.name, by decide, Tryz.func162.trans (congrArg some (by kernel_rfl))⟩
  f22 := ⟨Tryz.f163.name, by decide, Tryz.func163.trans (congrArg some (by kernel_rfl))⟩
  f23 := ⟨Tryz.f164.name, by decide, Tryz.func164.trans (congrArg some (by kernel_rfl))⟩
  f24 := ⟨Tryz.f165.name, by decide, Tryz.func165.trans (congrArg some (by kernel_rfl))⟩
  f25 := ⟨Tryz.f166.name, by decide, Tryz.func166.trans (congrArg some (by kernel_rfl))⟩
  f26 := ⟨Tryz.f167.name, by decide, Tryz.func167.trans (congrArg some (by kernel_rfl))⟩
  f27 := ⟨Tryz.f168.name, by decide, Tryz.func168.trans (congrArg some (by kernel_rfl))⟩
  f28 := ⟨Tryz.f169.name, by decide, Tryz.func169.trans (congrArg some (by kernel_rfl))⟩
  f29 := ⟨Tryz.f170.name, by decide, Tryz.func170.trans (congrArg some (by kernel_rfl))⟩
  f31 := Tryz.func184.trans (congrArg some (by kernel_rfl))
  f32 := Tryz.func185.trans (congrArg some (by kernel_rfl))
  f36 := ⟨Tryz.f183.name, by decide, Tryz.func183.trans (congrArg some (by kernel_rfl))⟩
  f37 := ⟨Tryz.f186.name, by decide, Tryz.func186.trans (congrArg some (by kernel_rfl))⟩
  f38 := ⟨Tryz.f187.name, by decide, Tryz.func187.trans (congrArg some (by kernel_rfl))⟩
  f39 := ⟨Tryz.f188.name, by decide, Tryz.func188.trans (congrArg some (by kernel_rfl))⟩
  f41 := ⟨Tryz.f192.name, by decide, Tryz.func192.trans (congrArg some (by kernel_rfl))⟩
  t0 := Tryz.underlying0
  a0 := Tryz.isAgg0
  z0 := Tryz.sizeOf0
  v0 := Tryz.zeroValue0
  t3 := Tryz.underlying3
  a3 := Tryz.isAgg3
  z3 := Tryz.sizeOf3
  v3 := Tryz.zeroValue3
  t4 := Tryz.underlying4
  a4 := Tryz.isAgg4
  z4 := Tryz.sizeOf4
  v4 := Tryz.zeroValue4
  t5 := Tryz.underlying5
  a5 := Tryz.isAgg5
  z5 := Tryz.sizeOf5
  v5 := Tryz.zeroValue5
  t9 := Tryz.underlying9
  a9 := Tryz.isAgg9
  z9 := Tryz.sizeOf9
  v9 := Tryz.zeroValue9
  t26 := Tryz.underlying56
  a26 := Tryz.isAgg56
  z26 := Tryz.sizeOf56
  v26 := Tryz.zeroValue56
  t27 := Tryz.underlying56
  a27 := Tryz.isAgg56
  z27 := Tryz.sizeOf56
  v27 := Tryz.zeroValue56
  t29 := Tryz.underlying9
  a29 := Tryz.isAgg9
  z29 := Tryz.sizeOf9
  v29 := Tryz.zeroValue9
  t32 := Tryz.underlying158
  a32 := Tryz.isAgg158
  z32 := Tryz.sizeOf158
  v32 := Tryz.zeroValue158
  t35 := Tryz.underlying188
  a35 := Tryz.isAgg188
  z35 := Tryz.sizeOf188
  v35 := Tryz.zeroValue188
  t36 := Tryz.underlying189
  a36 := Tryz.isAgg189
  z36 := Tryz.sizeOf189
  v36 := Tryz.zeroValue189
  t41 := Tryz.underlying119
  a41 := Tryz.isAgg119
  z41 := Tryz.sizeOf119
  v41 := Tryz.zeroValue119
  t44 := Tryz.underlying196
  a44 := Tryz.isAgg196
  z44 := Tryz.sizeOf196
  v44 := Tryz.zeroValue196
  t46 := Tryz.underlying57
  a46 := Tryz.isAgg57
  z46 := Tryz.sizeOf57
  v46 := Tryz.zeroValue57
  t53 := Tryz.underlying204
  a53 := Tryz.isAgg204
  z53 := Tryz.sizeOf204
  v53 := Tryz.zeroValue204
  t57 := Tryz.underlying208
  a57 := Tryz.isAgg208
  z57 := Tryz.sizeOf208
  v57 := Tryz.zeroValue208
  t63 := Tryz.underlying212
  a63 := Tryz.isAgg212
  z63 := Tryz.sizeOf212
  v63 := Tryz.zeroValue212
  t64 := Tryz.underlying213
  a64 := Tryz.isAgg213
  z64 := Tryz.sizeOf213
  v64 := Tryz.zeroValue213 }
def Tryz.shSortF_ren : Go.Shelf.Ren := ⟨fun | 6 => 134 | 15 => 151 | 14 => 157 | 28 => 171 | 29 => 172 | 20 => 174 | 21 => 175 | 22 => 176 | 23 => 177 | 24 => 178 | 25 => 179 | 26 => 180 | 27 => 181 | 46 => 189 | 47 => 184 | 48 => 185 | 49 => 190 | 50 => 191 | 57 => 193 | n => n, fun | 22 => 40 | 24 => 71 | 25 => 167 | 3 => 3 | 39 => 158 | 0 => 0 | 53 => 196 | 55 => 57 | 4 => 4 | 46 => 189 | 45 => 188 | 50 => 119 | 5 => 5 | 9 => 9 | 66 => 204 | 70 => 208 | 76 => 212 | 77 => 213 | n => n, fun | n => n⟩
theorem Tryz.shSortF : Go.Proofs.SlLaysF0.n6 Tryz.prog Tryz.shSortF_ren := {
  mixed := by kernel_rfl
  f6 := ⟨Tryz.f134.name, by decide, Tryz.func134.trans (congrArg some (by kernel_rfl))⟩
  f14 := ⟨Tryz.f157.name, by decide, Tryz.func157.trans (congrArg some (by kernel_rfl))⟩
  f15 := Tryz.func151.trans (congrArg some (by kernel_rfl))
  f20 := ⟨Tryz.f174.name, by decide, Tryz.func174.trans (congrArg some (by kernel_rfl))⟩
  f21 := ⟨Tryz.f175.name, by decide, Tryz.func175.trans (congrArg some (by kernel_rfl))⟩
  f22 := ⟨Tryz.f176.name, by decide, Tryz.func176.trans (congrArg some (by kernel_rfl))⟩
  f23 := ⟨Tryz.f177.name, by decide, Tryz.func177.trans (congrArg some (by kernel_rfl))⟩
  f24 := ⟨Tryz.f178.name, by decide, Tryz.func178.trans (congrArg some (by kernel_rfl))⟩
  f25 := ⟨Tryz.f179.name, by decide, Tryz.func179.trans (congrArg some (by kernel_rfl))⟩
  f26 := ⟨Tryz.f180.name, by decide, Tryz.func180.trans (congrArg some (by kernel_rfl))⟩
  f27 := ⟨Tryz.f181.name, by decide, Tryz.func181.trans (congrArg some (by kernel_rfl))⟩
  f28 := Tryz.func171.trans (congrArg some (by kernel_rfl))
  f29 := Tryz.func172.trans (congrArg some (by kernel_rfl))
  f46 := ⟨Tryz.f189.name, by decide, Tryz.func189.trans (congrArg some (by kernel_rfl))⟩
  f47 := Tryz.func184.trans (congrArg some (by kernel_rfl))
  f48 := Tryz.func185.trans (congrArg some (by kernel_rfl))
  f49 := ⟨Tryz.f190.name, by decide, Tryz.func190.trans (congrArg some (by kernel_rfl))⟩
  f50 := ⟨Tryz.f191.name, by decide, Tryz.func191.trans (congrArg some (by kernel_rfl))⟩
  f57 := ⟨Tryz.f193.name, by decide, Tryz.func193.trans (congrArg some (by kernel_rfl))⟩
  t0 := Tryz.underlying0
  a0 := Tryz.isAgg0
  z0 := Tryz.sizeOf0
  v0 := Tryz.zeroValue0
  t3 := Tryz.underlying3
  a3 := Tryz.isAgg3
  z3 := Tryz.sizeOf3
  v3 := Tryz.zeroValue3
  t4 := Tryz.underlying4
  a4 := Tryz.isAgg4
  z4 := Tryz.sizeOf4
  v4 := Tryz.zeroValue4
  t5 := Tryz.underlying5
  a5 := Tryz.isAgg5
  z5 := Tryz.sizeOf5
  v5 := Tryz.zeroValue5
  t9 := Tryz.underlying9
  a9 := Tryz.isAgg9
  z9 := Tryz.sizeOf9
  v9 := Tryz.zeroValue9
  t22 := Tryz.underlying40
  a22 := Tryz.isAgg40
  z22 := Tryz.sizeOf40
  v22 := Tryz.zeroValue40
  t25 := Tryz.underlying167
  a25 := Tryz.isAgg167
  z25 := Tryz.sizeOf167
  v25 := Tryz.zeroValue167
  t39 := Tryz.underlying158
  a39 := Tryz.isAgg158
  z39 := Tryz.sizeOf158
  v39 := Tryz.zeroValue158
  t45 := Tryz.underlying188
  a45 := Tryz.isAgg188
  z45 := Tryz.sizeOf188
  v45 := Tryz.zeroValue188
  t46 := Tryz.underlying189
  a46 := Tryz.isAgg189
  z46 := Tryz.sizeOf189
  v46 := Tryz.zeroValue189
  t50 := Tryz.underlying119
  a50 := Tryz.isAgg119
  z50 := Tryz.sizeOf119
  v50 := Tryz.zeroValue119
  t53 := Tryz.underlying196
  a53 := Tryz.isAgg196
  z53 := Tryz.sizeOf196
  v53 := Tryz.zeroValue196
  t55 := Tryz.underlying57
  a55 := Tryz.isAgg57
  z55 := Tryz.sizeOf57
  v55 := Tryz.zeroValue57
  t66 := Tryz.underlying204
  a66 := Tryz.isAgg204
  z66 := Tryz.sizeOf204
  v66 := Tryz.zeroValue204
  t70 := Tryz.underlying208
  a70 := Tryz.isAgg208
  z70 := Tryz.sizeOf208
  v70 := Tryz.zeroValue208
  t76 := Tryz.underlying212
  a76 := Tryz.isAgg212
  z76 := Tryz.sizeOf212
  v76 := Tryz.zeroValue212
  t77 := Tryz.underlying213
  a77 := Tryz.isAgg213
  z77 := Tryz.sizeOf213
  v77 := Tryz.zeroValue213 }
end Go.Proofs
end
section
set_option linter.unusedVariables false
set_option linter.unusedSimpArgs false
namespace Go.Proofs.YtgmlenpcchhmbaaGreat.P
open Go.RowKit Go.Sort Go.Lib Go.Shelf Go.Maps Go.ChangeMaps Go.Proofs.YtgmlenpcchhmbaaGreatW.PrintWords Go.Proofs.YtgmlenpcchhmbaaGreatW.PrintLast Go.Proofs.YtgmlenpcchhmbaaGreatW.PrintMore
def kS (x : ByteArray) : Lit := .string x.data.toList
theorem kS_key (x : ByteArray) : WideAt.IsKeyLit (kS x) := trivial
theorem kS_inj {x y : ByteArray} (h : kS x = kS y) : x = y := ba_ext (by simpa [kS] using h)
abbrev HD := DataW Value
def heldR (v : Value) : Option (HD × List MemPlace) := some (.held v, [])
theorem own_tight {w : World} {P : Program} {k b n : Nat} {R : Value → Option (HD × List MemPlace)} {D : HD} (h : w.ownsMap P k R b n D) : w.ownsMap P k R b (Maps.size D) D := by
  obtain ⟨es, clock, hb, F, hs, rfl⟩ := h
  exact ⟨es, clock, hb, F, by simp [Maps.size, length_sorted], rfl⟩
theorem own_upd_map {w w' : World} {P : Program} {k b n : Nat} {R : Value → Option (HD × List MemPlace)} {D : HD} (h : w.ownsMap P k R b n D) (he : w'.heap[b]? = w.heap[b]?) : w'.ownsMap P k R b n D := by
  obtain ⟨es, clock, hb, r⟩ := h
  exact ⟨es, clock, he.trans hb, r⟩
theorem str_law : Keyed Tryz.prog 9 := Maps.string_keyed Tryz.underlying9
section
variable {V : Type} (enc : V → Value)
structure HoldsS (D : HD) (l : List (ByteArray × V)) : Prop where
  size : Maps.size D = l.length
  has : ∀ x, Maps.has D (kS x) = (getL l x).isSome
  at_ : ∀ x z, D.atKey (kS x) (.held z) = .held (((getL l x).map enc).getD z)
def MS (w : World) (mb : Nat) (l : List (ByteArray × V)) : Prop := SortK l ∧ ∃ D : HD, w.ownsMap Tryz.prog 9 heldR mb (Maps.size D) D ∧ HoldsS enc D l
end
section
variable {V : Type} {enc : V → Value} {w w' : World} {mb : Nat} {l : List (ByteArray × V)}
theorem MS.lt (h : MS enc w mb l) : mb < w.heap.size := by obtain ⟨_, D, h, _⟩ := h; exact h.lt
theorem MS.upd {S : Nat → Prop} (h : MS enc w mb l) (hu : Upd w w' S) (hs : ¬ S mb) : MS enc w' mb l := by
  have hlt := h.lt
  obtain ⟨hk, D, h, hh⟩ := h
  exact ⟨hk, D, own_upd_map h (hu.block mb hlt hs), hh⟩
theorem MS.below (h : MS enc w mb l) (hb : Below w.heap.size w w') : MS enc w' mb l := h.upd (Upd.of_below hb (fun _ => False)) (fun x => x)
set_option maxRecDepth 100000 in
theorem MS.made (enc : V → Value) (w : World) : MS enc (w.alloc (.map #[] 0)) w.heap.size [] := ⟨.nil, .map [], World.ownsMap_made _ _ _ _, rfl, fun _ => rfl, fun _ _ => rfl⟩
theorem MS.block (h : MS enc w mb l) {t : TypeId} {cs : Array Value} {g : Nat} (hb : Blk w g t cs) : g ≠ mb := by
  obtain ⟨_, D, ⟨es, clock, h2, _⟩, _⟩ := h
  rintro rfl
  unfold Blk at hb
  rw [hb] at h2
  cases h2
set_option maxRecDepth 100000 in
theorem MS.look {t e : TypeId} (ht : Tryz.prog.underlying t = some (.map 9 e)) {z : Value} (hz : (zeroValue e).run Tryz.prog w = .ok z w) (h : MS enc w mb l) {x : ByteArray} (hx : x.size ≤ maxLen) :
    (Instr.lookup t (.map (some mb)) (.string x) true).run Tryz.prog w = .ok (.tuple #[((getL l x).map enc).getD z, .bool (getL l x).isSome]) w := by
  obtain ⟨_, D, h, hh⟩ := h
  obtain ⟨v, ps, hrun, hv⟩ := h.look_ok str_law ht hz (zd := .held z) (zp := []) rfl (WideMaps.keyOf_string_mk Tryz.underlying9 hx)
  rw [show Lit.string x.data.toList = kS x from rfl, hh.has x] at hrun
  rw [show Lit.string x.data.toList = kS x from rfl, hh.at_ x] at hv
  unfold heldR at hv
  injection hv with hv
  injection hv with hv _
  injection hv with hv
  rw [hrun, hv]
set_option maxRecDepth 100000 in
theorem MS.look1 {t e : TypeId} (ht : Tryz.prog.underlying t = some (.map 9 e)) {z : Value} (hz : (zeroValue e).run Tryz.prog w = .ok z w) (h : MS enc w mb l) {x : ByteArray} (hx : x.size ≤ maxLen) :
    (Instr.lookup t (.map (some mb)) (.string x) false).run Tryz.prog w = .ok (((getL l x).map enc).getD z) w := by
  obtain ⟨_, D, h, hh⟩ := h
  obtain ⟨v, ps, hrun, hv⟩ := h.lookup str_law ht hz (zd := .held z) (zp := []) rfl (WideMaps.keyOf_string_mk Tryz.underlying9 hx)
  rw [show Lit.string x.data.toList = kS x from rfl, hh.at_ x] at hv
  unfold heldR at hv
  injection hv with hv
  injection hv with hv _
  injection hv with hv
  rw [hrun, hv]
set_option maxRecDepth 100000 in
theorem MS.put {t e : TypeId} (ht : Tryz.prog.underlying t = some (.map 9 e)) (h : MS enc w mb l) {x : ByteArray} (hx : x.size ≤ maxLen) (hl : l.length < maxLen) (v : V) :
    ∃ w', (Instr.mapUpdate t (.map (some mb)) (.string x) (enc v)).run Tryz.prog w = .ok () w' ∧ MS enc w' mb (putL l x v) ∧ Upd w w' (· = mb) := by
  obtain ⟨hk, D, h, hh⟩ := h
  have hT := h.tidy str_law
  obtain ⟨w', hrun, hown, hg⟩ := h.update str_law ht (by rw [hh.size]; exact hl) (WideMaps.keyOf_string_mk Tryz.underlying9 hx) (d := .held (enc v)) (ps := []) (val := enc v) rfl
  refine ⟨w', hrun, ⟨hk.put x v, D.put (kS x) (.held (enc v)), own_tight hown, ?_, fun y => ?_, fun y z => ?_⟩, Upd.of_grown hg (fun k hk => by injection hk with hk; exact hk.symm)⟩
  · rw [Maps.size_put hT, hh.has x, putL_len hk, hh.size]
  · rw [getL_put]
    by_cases e : y = x
    · subst e
      rw [Maps.has_put_same hT.isMap (kS_key y), if_pos rfl]; rfl
    · rw [Maps.has_put_other (fun h => e (kS_inj h)), if_neg e]; exact hh.has y
  · rw [getL_put]
    by_cases e : y = x
    · subst e
      rw [Maps.atKey_put_same hT.isMap (kS_key y), if_pos rfl]; rfl
    · rw [Maps.atKey_put_other (fun h => e (kS_inj h)), if_neg e]; exact hh.at_ y z
set_option maxRecDepth 100000 in
theorem MS.del {t e : TypeId} (ht : Tryz.prog.underlying t = some (.map 9 e)) (h : MS enc w mb l) {x : ByteArray} (hx : x.size ≤ maxLen) (ty : TypeId) :
    ∃ w', (Builtin.delete_ #[t, 9] ty #[.map (some mb), .string x]).run Tryz.prog w = .ok (.tuple #[]) w' ∧ MS enc w' mb (delL l x) ∧ Upd w w' (· = mb) := by
  obtain ⟨hk, D, h, hh⟩ := h
  have hT := h.tidy str_law
  obtain ⟨w', hrun, hown, hg⟩ := h.drop str_law ht (WideMaps.keyOf_string_mk Tryz.underlying9 hx) ty
  refine ⟨w', hrun, ⟨hk.del x, D.del (kS x), own_tight hown, ?_, fun y => ?_, fun y z => ?_⟩, Upd.of_grown hg.grown (fun k hk => by injection hk with hk; exact hk.symm)⟩
  · have h1 := Maps.size_del hT (k := kS x)
    rw [hh.has x] at h1
    rw [delL_len hk]
    have h2 := hh.size
    cases hq : (getL l x).isSome with
    | true => rw [hq] at h1; simp at *; omega
    | false => rw [hq] at h1; simp at *; omega
  · rw [getL_del]
    by_cases e : y = x
    · subst e
      rw [Maps.has_del_same, if_pos rfl]; rfl
    · rw [Maps.has_del_other (fun h => e (kS_inj h)), if_neg e]; exact hh.has y
  · rw [getL_del]
    by_cases e : y = x
    · subst e
      rw [Maps.atKey_del_same, if_pos rfl]; rfl
    · rw [Maps.atKey_del_other (fun h => e (kS_inj h)), if_neg e]; exact hh.at_ y z
theorem leB_of {a b : List UInt8} (h : Op.bytesLess a b = true) : a ≤ b := by
  induction a generalizing b with
  | nil => exact List.nil_le b
  | cons x a ih =>
    cases b with
    | nil => rw [bl_nil] at h; cases h
    | cons y b =>
      rw [bl_cons] at h
      simp only [Bool.or_eq_true, decide_eq_true_eq, Bool.and_eq_true, beq_iff_eq] at h
      rw [List.cons_le_cons_iff]
      rcases h with h | ⟨rfl, h⟩
      · exact .inl h
      · exact .inr ⟨rfl, ih h⟩
theorem sorted_keys (h : SortK l) : (l.map fun x => x.1.data.toList).Pairwise (fun x y => decide (x ≤ y) = true) := by
  rw [List.pairwise_map]
  exact h.imp fun hxy => decide_eq_true (leB_of hxy)
theorem nodup_keys (h : SortK l) : (l.map fun x => x.1.data.toList).Nodup := by
  unfold List.Nodup
  rw [List.pairwise_map]
  exact h.imp fun hxy e => klt_ne hxy (ba_ext e)
end
theorem sortsA (m : Nat) : AnyZ.SortsIn Tryz.prog Tryz.shSorted_ren Fence.wide m :=
  ⟨fun blk off cap ss W hH hblk hsz => callsIn_wide.2 (AnyM.slices_Sort_string Tryz.shSort blk off cap ss W hH hblk hsz),
   fun p cap W => callsIn_wide.2 (AnyM.slices_Sort_string_none Tryz.shSort p cap W)⟩
theorem own_str_keys {w : World} {n mb : Nat} {D : HD} (h : w.ownsMap Tryz.prog 9 heldR mb n D) : ∃ es, D = .map es ∧ es.Pairwise (fun p q => p.1 ≠ q.1) ∧ ∀ p ∈ es, ∃ x, p.1 = .string x := by
  obtain ⟨es, e, hp⟩ := h.tidy str_law
  obtain ⟨es0, clock, hb, F, _, e0⟩ := h
  rw [e] at e0
  injection e0 with e0
  refine ⟨es, e, hp, fun p hpm => ?_⟩
  rw [e0] at hpm
  have hpm := (WideShapes.sorted_perm _).mem_iff.1 hpm
  obtain ⟨x, hx, rfl⟩ := List.mem_map.1 hpm
  obtain ⟨y, hy⟩ := F.reads x hx
  rw [WideElems.rg_of hy]
  obtain ⟨z, _, hz⟩ := WideMaps.string_of_keyOf Tryz.underlying9 (WideElems.rd_key hy)
  exact ⟨_, hz.1⟩
theorem skeys_perm {V : Type} {enc : V → Value} {w : World} {n mb : Nat} {D : HD} {l : List (ByteArray × V)} (hk : SortK l) (h : w.ownsMap Tryz.prog 9 heldR mb n D) (hh : HoldsS enc D l) : (l.map fun x => x.1.data.toList).Perm (strKeys D) := by
  obtain ⟨es, rfl, hp, hs⟩ := own_str_keys h
  refine perm_strKeys hp hs (nodup_keys hk) (fun x => ?_)
  have hx := hh.has ⟨x.toArray⟩
  have ek : kS ⟨x.toArray⟩ = .string x := by unfold kS; simp
  rw [ek] at hx
  rw [hx]
  constructor
  · intro hm
    obtain ⟨y, hy, rfl⟩ := List.mem_map.1 hm
    rw [(getL_some hk (v := y.2)).2 (by simpa using hy)]; rfl
  · intro hm
    obtain ⟨v, hv⟩ := Option.isSome_iff_exists.1 hm
    exact List.mem_map.2 ⟨_, (getL_some hk).1 hv, by simp⟩
theorem row_keys {V : Type} {w : World} {base : Nat} {v : Value} {l : List (ByteArray × V)} {D : HD} {ss : List (List UInt8)} (hk : SortK l) (hp : ss.Perm (strKeys D)) (hq : (l.map fun x => x.1.data.toList).Perm (strKeys D))
    (h : w.ownsRow base 9 1 v ss.length ((ss.mergeSort (fun x y => decide (x ≤ y))).map encStr)) : Kd.R Kd.string 9 w base (fun _ => True) v (l.map (·.1)) := by
  have hpm := hp.trans hq.symm
  have e := mergeSort_of_perm hpm
  have e2 : ss.mergeSort (fun x y => decide (x ≤ y)) = l.map fun x => x.1.data.toList := by
    have := e
    unfold leB at this
    rw [this]
    exact List.mergeSort_of_pairwise (sorted_keys hk)
  rw [e2, hpm.length_eq, List.length_map] at h
  refine Kd.R_of_own (h1 := fun _ => rfl) ?_ (fun _ _ => trivial)
  rw [List.length_map]
  unfold encs
  rw [List.map_map] at h ⊢
  exact h
theorem keysSN_any (mb : Option Nat) (W : World) : Calls Tryz.prog 160 #[.map mb] W fun e w' => e = .returned (.func (.func 182) #[] #[.pointer (some ⟨W.heap.size, 0, none⟩)]) ∧ w' = W.alloc (.cells #[.map mb] 103) :=
  (callsIn_wide (n := 5)).1 (AnyZ.keys_in Tryz.shKeysN Fence.wide 5 trivial rfl mb W)
theorem keysSB_any (mb : Option Nat) (W : World) : Calls Tryz.prog 69 #[.map mb] W fun e w' => e = .returned (.func (.func 117) #[] #[.pointer (some ⟨W.heap.size, 0, none⟩)]) ∧ w' = W.alloc (.cells #[.map mb] 105) :=
  (callsIn_wide (n := 5)).1 (AnyZ.keys_in Tryz.shKeysB Fence.wide 5 trivial rfl mb W)
theorem sortedSN_any {V : Type} {enc : V → Value} {w : World} {mb : Nat} {l : List (ByteArray × V)} {Bm : Nat} (hM : MS enc w mb l) (hn : l.length ≤ 1000000) (hB : Bm < w.heap.size) (hm : w.cell? ⟨Bm, 0, none⟩ = some (.map (some mb))) :
    Calls Tryz.prog 68 #[.func (.func 182) #[] #[.pointer (some ⟨Bm, 0, none⟩)]] w fun e w' => ∃ v, e = .returned v ∧ Kd.R Kd.string 9 w' w.heap.size (fun _ => True) v (l.map (·.1)) ∧ Below w.heap.size w w' := by
  obtain ⟨hk, D, hown, hh⟩ := hM
  have hsz := hh.size
  have hseq : SeqGives Fence.wide 2 Tryz.prog 182 #[.pointer (some ⟨Bm, 0, none⟩)] encStr (fun ss => ss.Perm (strKeys D)) (Maps.size D) w :=
    AnyZ.keys_gives (ρ := Tryz.shKeysN_ren) { Tryz.shKeysN with } Fence.wide _ trivial rfl (by omega) Bm mb (Maps.size D) D w hB hm hown
  have cS := AnyZ.sorted_in Tryz.shSorted Fence.wide 5 trivial trivial trivial trivial rfl (by omega) (sortsA _) (enters_of Tryz.func116 (by kernel_rfl) rfl) 182 #[.pointer (some ⟨Bm, 0, none⟩)] trivial (enters_of Tryz.func182 (by kernel_rfl) rfl) _ _ (by rw [hsz]; unfold maxLen; omega) (by rw [hsz]; omega) _ hseq
  exact ((callsIn_wide (n := 5)).1 cS).mono fun e w' ⟨v, ss, he, hp, ho, _, hb⟩ => ⟨v, he, row_keys hk hp (skeys_perm hk hown hh) ho, hb⟩
theorem sortedSB_any {V : Type} {enc : V → Value} {w : World} {mb : Nat} {l : List (ByteArray × V)} {Bm : Nat} (hM : MS enc w mb l) (hn : l.length ≤ 1000000) (hB : Bm < w.heap.size) (hm : w.cell? ⟨Bm, 0, none⟩ = some (.map (some mb))) :
    Calls Tryz.prog 68 #[.func (.func 117) #[] #[.pointer (some ⟨Bm, 0, none⟩)]] w fun e w' => ∃ v, e = .returned v ∧ Kd.R Kd.string 9 w' w.heap.size (fun _ => True) v (l.map (·.1)) ∧ Below w.heap.size w w' := by
  obtain ⟨hk, D, hown, hh⟩ := hM
  have hsz := hh.size
  have hseq : SeqGives Fence.wide 2 Tryz.prog 117 #[.pointer (some ⟨Bm, 0, none⟩)] encStr (fun ss => ss.Perm (strKeys D)) (Maps.size D) w :=
    AnyZ.keys_gives (ρ := Tryz.shKeysB_ren) { Tryz.shKeysB with } Fence.wide _ trivial rfl (by omega) Bm mb (Maps.size D) D w hB hm hown
  have cS := AnyZ.sorted_in Tryz.shSorted Fence.wide 5 trivial trivial trivial trivial rfl (by omega) (sortsA _) (enters_of Tryz.func116 (by kernel_rfl) rfl) 117 #[.pointer (some ⟨Bm, 0, none⟩)] trivial (enters_of Tryz.func117 (by kernel_rfl) rfl) _ _ (by rw [hsz]; unfold maxLen; omega) (by rw [hsz]; omega) _ hseq
  exact ((callsIn_wide (n := 5)).1 cS).mono fun e w' ⟨v, ss, he, hp, ho, _, hb⟩ => ⟨v, he, row_keys hk hp (skeys_perm hk hown hh) ho, hb⟩
end Go.Proofs.YtgmlenpcchhmbaaGreat.P
end
section
set_option linter.unusedVariables false
set_option linter.unusedSimpArgs false
namespace Go.Proofs.YtgmlenpcchhmbaaGreat.P
open Go.RowKit Go.Proofs.YtgmlenpcchhmbaaGreatW.PrintWords Go.Proofs.YtgmlenpcchhmbaaGreatW.PrintLast Go.Proofs.YtgmlenpcchhmbaaGreatW.PrintMore
abbrev encN : Int → Value := Value.int .u64
abbrev encB : Bool → Value := Value.bool
abbrev ptrR (g : Nat) : Value := .pointer (some ⟨g, 0, none⟩)
theorem C_atP {w : World} {A : Option Addr} {n : Nat} {xs : List S61} (h : Kd.C k61 w A n xs) (k : Nat) (hk : k < xs.length) : ∃ ad, A = some ad ∧ w.cell? (ad.add (k * 2)) = some (.string xs[k].f0) ∧ w.cell? ⟨(ad.add (k * 2)).block, (ad.add (k * 2)).off + 1, none⟩ = some (.int .u64 xs[k].f1) := by
  obtain ⟨ad, hA, x0, x1⟩ := at_T61 h (k : Int) (by omega) (by have := h.1; omega)
  have er : rd_T61 xs (k : Int) = xs[k] := by
    unfold rd_T61
    rw [Int.toNat_natCast, List.getD_eq_getElem?_getD, List.getElem?_eq_getElem hk]
    rfl
  rw [er, Int.toNat_natCast] at x0 x1
  exact ⟨ad, hA, x0, x1⟩
def keysOk (data : List S61) : Prop := data.length ≤ 1000000 ∧ ∀ p ∈ data, p.f0.size ≤ 1000000
theorem maxLen_ge {n : Nat} (h : n ≤ 1000000) : n ≤ maxLen := by unfold maxLen; omega
theorem foldl_len : ∀ (data : List S61) (l : List (ByteArray × Int)), SortK l → (data.foldl (fun l p => putL l p.f0 p.f1) l).length ≤ l.length + data.length
  | [], _, _ => Nat.le_refl _
  | p :: r, l, h => by
    have := foldl_len r _ (h.put p.f0 p.f1)
    have h2 := putL_len h p.f0 p.f1
    rw [List.foldl_cons, List.length_cons]
    split at h2 <;> omega
theorem mapT_len (data : List S61) : (mapT data).length ≤ data.length := by
  have := foldl_len data [] .nil
  simpa [mapT] using this
theorem zeroNum (w : World) : (zeroValue 58).run Tryz.prog w = .ok (.int .u64 0) w := by kernel_rfl
set_option maxHeartbeats 1000000 in
theorem mapped_any (A : Option Addr) (c : Nat) (data : List S61) (w : World) (hr : Kd.C k61 w A data.length data) (hk : keysOk data) :
    Calls Tryz.prog 66 #[.slice A data.length c] w fun e w' => e = .returned (.map (some w.heap.size)) ∧ MS encN w' w.heap.size (mapT data) ∧ Below w.heap.size w w' := by
  have hm := Kd.C_max hr
  have HR := Lib.hid hr; clear hr
  have HK := Lib.hid hk; clear hk
  have hmm := @run_makeMap Tryz.prog
  go_enter Tryz.func66, Tryz.ntmps66
  go_wp2
  go_loopw [5, 9] (fun _ i wr => ∃ k : Nat, i = .int .i64 k ∧ k ≤ data.length ∧ RowKit.Hid (MS encN wr w.heap.size (mapT (data.take k)) ∧ Below w.heap.size w wr)) (fun _ i _ => data.length - (intOf i).toNat)
  case atStart => exact ⟨0, rfl, Nat.zero_le _, Lib.hid ⟨MS.made encN w, (Below.refl _ _).alloc (Nat.le_refl _) _⟩⟩
  case round =>
    obtain ⟨k, rfl, hk, HM⟩ := hrel
    by_cases hlt : k < data.length
    · obtain ⟨ad, hA, d0, d1⟩ := C_atP (Kd.C_below HR.out HM.out.2) k hlt
      subst hA
      have hsz := maxLen_ge (HK.out.2 data[k] (List.getElem_mem hlt))
      have hst : mapT (data.take (k + 1)) = putL (mapT (data.take k)) data[k].f0 data[k].f1 := by
        unfold mapT
        rw [List.take_succ_eq_append_getElem hlt, List.foldl_append]; rfl
      generalize data[k] = x at *
      obtain ⟨x0, x1⟩ := x
      simp only at d0 d1 hsz hst
      have hb1 : Below wr.heap.size wr (wr.alloc (.cells #[.string x0, .int .u64 x1] 61)) := (Below.refl _ _).alloc (Nat.le_refl _) _
      obtain ⟨w2, hput, hm2, hu2⟩ := (HM.out.1.below hb1).put Tryz.underlying103 hsz (by have h1 := mapT_len (data.take k); have h2 := HK.out.1; rw [List.length_take] at h1; unfold maxLen; omega) x1
      have HN := Lib.hid (And.intro hm2 (And.intro hst (HM.out.2.trans ((hu2.below (B := w.heap.size) (by have := HM.out.2.size; simp; omega) (fun q hq e => by omega)) |> fun z => (hb1.mono HM.out.2.size).trans z))))
      clear hm2 hst hu2 hb1
      go_wp2
      go_roundw
      case rel => exact ⟨k + 1, by go_num, by omega, Lib.hid ⟨by rw [HN.out.2.1]; exact HN.out.1, HN.out.2.2⟩⟩
      case measure => simp [intOf]; omega
    · obtain rfl : k = data.length := by omega
      rw [List.take_length] at HM
      go_wp2
      go_ret
      exact ⟨rfl, HM.out⟩
structure RunIs (w : World) (g mb cb : Nat) (s : St) : Prop where
  blk : Blk w g 107 #[.map (some mb), .map (some cb)]
  ne : mb ≠ cb
  d : MS encN w mb s.d
  c : MS encB w cb s.c
theorem RunIs.upd {w w' : World} {S : Nat → Prop} {g mb cb : Nat} {s : St} (h : RunIs w g mb cb s) (hu : Upd w w' S) (h1 : ¬ S g) (h2 : ¬ S mb) (h3 : ¬ S cb) : RunIs w' g mb cb s :=
  ⟨h.blk.upd hu h1, h.ne, h.d.upd hu h2, h.c.upd hu h3⟩
theorem RunIs.below {w w' : World} {g mb cb : Nat} {s : St} (h : RunIs w g mb cb s) (hb : Below w.heap.size w w') : RunIs w' g mb cb s := h.upd (Upd.of_below hb (fun _ => False)) (fun h => h) (fun h => h) (fun h => h)
def St.small (s : St) : Prop := s.d.length ≤ 2000000 ∧ s.c.length ≤ 2000000
theorem rnput_any {w : World} {g mb cb : Nat} {s : St} (h : RunIs w g mb cb s) (hs : s.small) (k : ByteArray) (hk : k.size ≤ maxLen) (n : Int) :
    Calls Tryz.prog 144 #[ptrR g, .string k, .int .u64 n] w fun e w' => e = .returned (.tuple #[]) ∧ RunIs w' g mb cb (s.put k n) ∧ Upd w w' (fun b => b = mb ∨ b = cb) := by
  have hgm : g ≠ mb := h.d.block h.blk
  have hgc : g ≠ cb := h.c.block h.blk
  obtain ⟨w1, hp1, hd1, hu1⟩ := h.d.put Tryz.underlying103 hk (by have := hs.1; unfold maxLen; omega) n
  obtain ⟨w2, hp2, hc2, hu2⟩ := (h.c.upd hu1 (fun e => h.ne e.symm)).put Tryz.underlying105 hk (by have := hs.2; unfold maxLen; omega) true
  have hB1 := h.blk.upd hu1 hgm
  have c0 : w.cell? ⟨g, 0, none⟩ = some (.map (some mb)) := h.blk.cell 0
  have c1 : w1.cell? ⟨g, 1, none⟩ = some (.map (some cb)) := hB1.cell 1
  have HH := Lib.hid (And.intro (RunIs.mk (s := s.put k n) (hB1.upd hu2 hgc) h.ne (hd1.upd hu2 h.ne) hc2) ((hu1.mono fun _ _ e => Or.inl e).trans (hu2.mono fun _ _ e => Or.inr e)))
  clear h hd1 hu1 hc2 hu2 hB1 hgm hgc
  go_enter Tryz.func144, Tryz.ntmps144
  go_wp2
  (try simp only [Exit.inBlock, Exit.then]); refine bodyPost_end (results_none rfl _ _ _) rfl ?_
  exact ⟨rfl, HH.out⟩
end Go.Proofs.YtgmlenpcchhmbaaGreat.P
end
section
set_option linter.unusedVariables false
set_option linter.unusedSimpArgs false
namespace Go.Proofs.YtgmlenpcchhmbaaGreat.P
open Go.RowKit Go.Proofs.YtgmlenpcchhmbaaGreatW.PrintWords Go.Proofs.YtgmlenpcchhmbaaGreatW.PrintLast Go.Proofs.YtgmlenpcchhmbaaGreatW.PrintMore
theorem own_block {w : World} {base e size n cap g : Nat} {xs : List Value} (h : w.ownsRow base e size (.slice (some ⟨g, 0, none⟩) n cap) n xs) : ∃ cur : Array Value, w.heap[g]? = some (.cells cur e (0, 0)) ∧ n ≤ cap ∧ cap ≤ 9223372036854775807 ∧ cur.size = cap * size ∧ base ≤ g := by
  rcases h.2 with ⟨h, _⟩ | ⟨g', cap', cur, h, hb, h0, h1, h2, h3, _⟩
  · cases h
  · injection h with h h' h''
    injection h with h
    injection h with h
    subst h h''
    exact ⟨cur, h0, h1, h2, h3, hb⟩
set_option maxHeartbeats 2000000 in
set_option maxRecDepth 100000 in
theorem pdelete_any {w : World} {base g c : Nat} {xs : List S61} (h : RowPr w base (.slice (some ⟨g, 0, none⟩) xs.length c) xs) {k : Nat} (hk : k < xs.length) :
    Calls Tryz.prog 79 #[.slice (some ⟨g, 0, none⟩) xs.length c, .int .i64 k, .int .i64 ((k : Int) + 1)] w fun e w' => e = .returned (.slice (some ⟨g, 0, none⟩) (xs.length - 1) c) ∧ RowPr w' base (.slice (some ⟨g, 0, none⟩) (xs.length - 1) c) (xs.eraseIdx k) ∧ Upd w w' (· = g) := by
  obtain ⟨cur, hcur, hc, hcm, hcs, hbg⟩ := own_block h
  have hlt : g < w.heap.size := (Array.getElem?_eq_some_iff.1 hcur).1
  have HR := Lib.hid h.R
  have g1 : (k : Int) ≤ (k : Int) + 1 := by omega
  have g2 : 0 ≤ (k : Int) + 1 := by omega
  have g3 : (k : Int) + 1 ≤ (xs.length : Int) := by omega
  have g4 : k ≤ c := by omega
  have HX := Lib.hid (And.intro hbg (And.intro hlt (And.intro hk (And.intro hc hcm))))
  clear h hcur hcs hbg hlt
  go_enter Tryz.func79, Tryz.ntmps79
  go_wp2
  by_cases hcn : c = k + 1
  · subst hcn
    refine wp_region_held (S := (fun _ => True)) (by kernel_rfl) ?_
    simp only [List.size_toArray, List.length_cons, List.length_nil, Nat.zero_add, Nat.reduceAdd]
    have hHeld : ((fun _ => True)) w.drew := trivial
    refine tk_ 0 hHeld ?_
    refine tk_ 1 hHeld ?_
    refine tk_ 2 hHeld ?_
    refine tk_ 3 hHeld ?_
    refine tk_ 4 hHeld ?_
    refine tk_ 5 hHeld ?_
    refine wpAnyH_ready (rs := [6]) (by kernel_rfl) (by simp) ?_
    refine (AllReadyH.cons rfl (fun K hK => ?_) AllReadyH.nil)
    refine Kd.R_delete_step k61 (w0 := w.drew) base (by rfl) (.tmp 22) (.tmp 25) 39 61 (by rfl) Tryz.underlying39 (by kernel_rfl) (g := g) (n := xs.length) (c := k + 1) (k := k) (m := 0) (c2 := 0) (by rfl) (by rfl) (by rw [if_pos rfl]) (by omega) (Kd.R_drew HR.out) HX.out.2.2.1 (Below.refl _ _) (by have := HX.out.1; have := HX.out.2.1; show base ≤ w.heap.size; omega) ?_
    intro w1 hR1 hB1 hg1
    refine hK.out _ _ ?_ (fun hHeld => ?_)
    · trivial
    clear hK K
    have HW := Lib.hid (And.intro hR1 (And.intro hB1 hg1))
    clear hR1 hB1 hg1
    try simp only [List.getElem_toArray, List.getElem_cons_succ, List.getElem_cons_zero, Act.put, List.setIfInBounds_toArray, List.set_cons_zero, List.set_cons_succ]
    refine tk_ 7 hHeld ?_
    refine wpAnyH_done (by kernel_rfl) ?_ _
    clear hHeld g1 g2 g3 g4
    obtain ⟨m, hm⟩ : ∃ m, xs.length = m + 1 := ⟨xs.length - 1, by omega⟩
    have hm1 : xs.length - 1 = m := by omega
    rw [hm1] at HW ⊢
    have hel : (xs.eraseIdx k).length = m := by rw [List.length_eraseIdx, if_pos hk]; omega
    have hrow : RowPr w1 base (.slice (some ⟨g, 0, none⟩) (xs.eraseIdx k).length (k + 1)) (xs.eraseIdx k) := by rw [hel]; exact RowPr.of_R HW.out.1
    obtain ⟨cur, hcur, hc1, hcm1, hcs, _⟩ := own_block hrow
    rw [hel] at hrow hc1
    obtain ⟨vs, hcl⟩ : ∃ vs, ∀ ty, (Builtin.clear_ #[39] ty #[.slice (some ⟨g, m * 2, none⟩) 1 ((k + 1) - m)]).run Tryz.prog w1 = .ok (.tuple #[]) (w1.setCells g (m * 2) vs) := ⟨_, fun ty =>
      run_clear2 w1 _ _ ty _ (.string ⟨#[]⟩) (.int .u64 0) Tryz.underlying39 Tryz.zeroValue61 rfl rfl rfl g (m * 2) 1 _ (by omega) (fun t ht => by
        rw [cell_of_row w1 g (m * 2 + t) cur 61 (0, 0) hcur, Array.getElem?_eq_getElem (by omega)]; rfl) (fun t ht => blk_frozen hcur _)⟩
    have HV := Lib.hid (And.intro hrow (And.intro HW.out.2.2 hel))
    have hmc : m < (k + 1) := by have := HX.out.2.2.2.1; omega
    have hmn : m < xs.length := by omega
    clear hrow hcur hc1 hcm1 hcs hel HW hm1
    rw [hm]
    go_wp2
    go_ret
    obtain ⟨hrow, hgr, hel⟩ := HV.out
    have hrow' := hrow
    unfold RowPr at hrow
    rw [hel] at hrow
    obtain ⟨zs, hz, ht⟩ := own_setCells vs (m * 2) w1 _ hrow
    have hzl := hz.1
    have hel2 : (enc2 ((xs.eraseIdx k).map pPr)).length = m * 2 := by rw [enc2_len, List.length_map, hel]
    rw [List.take_of_length_le (by omega), List.take_of_length_le (by omega)] at ht
    refine ⟨rfl, ?_, ((Upd.refl w (· = g)).drew.trans (Upd.of_grown hgr (fun q hq => by injection hq with hq; exact hq.symm))).setCells (.inl rfl) vs _⟩
    unfold RowPr
    rw [hel, ← ht]
    exact hz
  · skip
    refine wp_region_held (S := (fun _ => True)) (by kernel_rfl) ?_
    simp only [List.size_toArray, List.length_cons, List.length_nil, Nat.zero_add, Nat.reduceAdd]
    have hHeld : ((fun _ => True)) w.drew := trivial
    refine tk_ 0 hHeld ?_
    refine tk_ 1 hHeld ?_
    refine tk_ 2 hHeld ?_
    refine tk_ 3 hHeld ?_
    refine tk_ 4 hHeld ?_
    refine tk_ 5 hHeld ?_
    refine wpAnyH_ready (rs := [6]) (by kernel_rfl) (by simp) ?_
    refine (AllReadyH.cons rfl (fun K hK => ?_) AllReadyH.nil)
    refine Kd.R_delete_step k61 (w0 := w.drew) base (by rfl) (.tmp 22) (.tmp 25) 39 61 (by rfl) Tryz.underlying39 (by kernel_rfl) (g := g) (n := xs.length) (c := c) (k := k) (m := xs.length - (k + 1)) (c2 := c - (k + 1)) (by rfl) (by rfl) (by rw [if_neg hcn, Option.map_some, add_plain]; rfl) rfl (Kd.R_drew HR.out) HX.out.2.2.1 (Below.refl _ _) (by have := HX.out.1; have := HX.out.2.1; show base ≤ w.heap.size; omega) ?_
    intro w1 hR1 hB1 hg1
    refine hK.out _ _ ?_ (fun hHeld => ?_)
    · trivial
    clear hK K
    have HW := Lib.hid (And.intro hR1 (And.intro hB1 hg1))
    clear hR1 hB1 hg1
    try simp only [List.getElem_toArray, List.getElem_cons_succ, List.getElem_cons_zero, Act.put, List.setIfInBounds_toArray, List.set_cons_zero, List.set_cons_succ]
    refine tk_ 7 hHeld ?_
    refine wpAnyH_done (by kernel_rfl) ?_ _
    clear hHeld g1 g2 g3 g4
    obtain ⟨m, hm⟩ : ∃ m, xs.length = m + 1 := ⟨xs.length - 1, by omega⟩
    have hm1 : xs.length - 1 = m := by omega
    rw [hm1] at HW ⊢
    have hel : (xs.eraseIdx k).length = m := by rw [List.length_eraseIdx, if_pos hk]; omega
    have hrow : RowPr w1 base (.slice (some ⟨g, 0, none⟩) (xs.eraseIdx k).length c) (xs.eraseIdx k) := by rw [hel]; exact RowPr.of_R HW.out.1
    obtain ⟨cur, hcur, hc1, hcm1, hcs, _⟩ := own_block hrow
    rw [hel] at hrow hc1
    obtain ⟨vs, hcl⟩ : ∃ vs, ∀ ty, (Builtin.clear_ #[39] ty #[.slice (some ⟨g, m * 2, none⟩) 1 (c - m)]).run Tryz.prog w1 = .ok (.tuple #[]) (w1.setCells g (m * 2) vs) := ⟨_, fun ty =>
      run_clear2 w1 _ _ ty _ (.string ⟨#[]⟩) (.int .u64 0) Tryz.underlying39 Tryz.zeroValue61 rfl rfl rfl g (m * 2) 1 _ (by omega) (fun t ht => by
        rw [cell_of_row w1 g (m * 2 + t) cur 61 (0, 0) hcur, Array.getElem?_eq_getElem (by omega)]; rfl) (fun t ht => blk_frozen hcur _)⟩
    have HV := Lib.hid (And.intro hrow (And.intro HW.out.2.2 hel))
    have hmc : m < c := by have := HX.out.2.2.2.1; omega
    have hmn : m < xs.length := by omega
    clear hrow hcur hc1 hcm1 hcs hel HW hm1
    rw [hm]
    go_wp2
    go_ret
    obtain ⟨hrow, hgr, hel⟩ := HV.out
    have hrow' := hrow
    unfold RowPr at hrow
    rw [hel] at hrow
    obtain ⟨zs, hz, ht⟩ := own_setCells vs (m * 2) w1 _ hrow
    have hzl := hz.1
    have hel2 : (enc2 ((xs.eraseIdx k).map pPr)).length = m * 2 := by rw [enc2_len, List.length_map, hel]
    rw [List.take_of_length_le (by omega), List.take_of_length_le (by omega)] at ht
    refine ⟨rfl, ?_, ((Upd.refl w (· = g)).drew.trans (Upd.of_grown hgr (fun q hq => by injection hq with hq; exact hq.symm))).setCells (.inl rfl) vs _⟩
    unfold RowPr
    rw [hel, ← ht]
    exact hz
end Go.Proofs.YtgmlenpcchhmbaaGreat.P
end
section
set_option linter.unusedVariables false
set_option linter.unusedSimpArgs false
namespace Go.Proofs.YtgmlenpcchhmbaaGreat.P
open Go.RowKit Go.Proofs.YtgmlenpcchhmbaaGreatW.PrintWords Go.Proofs.YtgmlenpcchhmbaaGreatW.PrintLast Go.Proofs.YtgmlenpcchhmbaaGreatW.PrintMore
theorem run_copy_rowS {P : Program} (w : World) (dT sT ty elem : TypeId) (g o dLen dCap : Nat) (a : Addr) (sLen sCap : Nat) (cur : Array Value) (t : TypeId) (cs : List Value) (sz : Nat)
    (hu : P.underlying dT = some (.slice elem)) (hs : (P.info? elem).map (·.size) = some sz)
    (hg : w.heap[g]? = some (.cells cur t (0, 0))) (hn : cs.length = Nat.min sLen dLen * sz)
    (hsrc : ∀ j v, cs[j]? = some v → w.cell? (a.add j) = some v) (hfit : o + cs.length ≤ cur.size) (h1 : ∀ v ∈ cs, v.oneCell' = true) :
    (Builtin.copy_ #[dT, sT] ty #[.slice (some ⟨g, o, none⟩) dLen dCap, .slice (some a) sLen sCap]).run P w =
      .ok (goInt (Nat.min sLen dLen)) (w.setRow g (cur.toList.take o ++ cs ++ cur.toList.drop (o + cs.length)).toArray) := by
  have hl := run_loadCells_list (P := P) w a cs hsrc
  have hst := run_storeCells_at P g o t cs 0 cur w hg (by simpa using hfit) h1
  cases hq : P.info? elem with
  | none => simp [hq] at hs
  | some i =>
    have hi : i.size = sz := by simpa [hq] using hs
    simp [Builtin.copy_, run_underlying hu, Builtin.lenOf, Builtin.firstCells, sizeOf, typeInfo, hq, hi, ← hn, hl, hst]
theorem upd_setRow (w : World) (g : Nat) (cs : Array Value) : Upd w (w.setRow g cs) (· = g) :=
  ⟨rfl, rfl, rfl, by simp [World.setRow], fun k _ hs => setRow_other w g k cs hs⟩
theorem enc2_one : ∀ (ps : List (Value × Value)), (∀ p ∈ ps, p.1.oneCell' = true ∧ p.2.oneCell' = true) → ∀ v ∈ enc2 ps, v.oneCell' = true := by
  intro ps h v hv
  unfold enc2 at hv
  obtain ⟨p, hp, hv⟩ := List.mem_flatMap.1 hv
  simp only [List.mem_cons, List.not_mem_nil, or_false] at hv
  rcases hv with rfl | rfl
  · exact (h p hp).1
  · exact (h p hp).2
theorem pPr_one (xs : List S61) : ∀ v ∈ enc2 (xs.map pPr), v.oneCell' = true := enc2_one _ (fun p hp => by obtain ⟨x, _, rfl⟩ := List.mem_map.1 hp; exact ⟨rfl, rfl⟩)
theorem own_cur {w : World} {base g c : Nat} {xs : List S61} (h : RowPr w base (.slice (some ⟨g, 0, none⟩) xs.length c) xs) : ∃ cur : Array Value, w.heap[g]? = some (.cells cur 61 (0, 0)) ∧ xs.length ≤ c ∧ c ≤ 9223372036854775807 ∧ cur.size = c * 2 ∧ base ≤ g ∧ cur.toList.take (xs.length * 2) = enc2 (xs.map pPr) := by
  rcases h.2 with ⟨h, _⟩ | ⟨g', cap', cur, h, hb, h0, h1, h2, h3, h4⟩
  · cases h
  · injection h with h h' h''
    injection h with h
    injection h with h
    subst h h''
    exact ⟨cur, h0, h1, h2, h3, hb, h4⟩
theorem own_mk {w : World} {base g c : Nat} {xs : List S61} {cur : Array Value} (h0 : w.heap[g]? = some (.cells cur 61 (0, 0))) (h1 : xs.length ≤ c) (h2 : c ≤ 9223372036854775807) (h3 : cur.size = c * 2) (hb : base ≤ g) (h4 : cur.toList.take (xs.length * 2) = enc2 (xs.map pPr)) : RowPr w base (.slice (some ⟨g, 0, none⟩) xs.length c) xs :=
  ⟨by rw [enc2_len, List.length_map], .inr ⟨g, c, cur, rfl, hb, h0, h1, h2, h3, h4⟩⟩
def insAt (xs : List S61) (i : Nat) (p : S61) : List S61 := xs.take i ++ p :: xs.drop i
theorem insAt_len (xs : List S61) {i : Nat} (hi : i ≤ xs.length) (p : S61) : (insAt xs i p).length = xs.length + 1 := by
  unfold insAt; rw [List.length_append, List.length_cons, List.length_take, List.length_drop]; omega
theorem splice_ins {E1 E2 R : List Value} {a b : Value} {cur : List Value} {m : Nat} (h1 : E1.length = m) (hc : ∃ R1, R1.length = E2.length + R.length + 2 - 0 ∧ cur = E1 ++ R1 ∧ R1.drop (E2.length + 2) = R) :
    (((cur.take (m + 2) ++ E2 ++ cur.drop (m + 2 + E2.length)).take m) ++ [a, b] ++ ((cur.take (m + 2) ++ E2 ++ cur.drop (m + 2 + E2.length)).drop (m + 2))) = E1 ++ [a, b] ++ E2 ++ R := by
  obtain ⟨R1, hl, rfl, hd⟩ := hc
  have hR : 2 ≤ R1.length := by omega
  have e1 : (E1 ++ R1).take (m + 2) = E1 ++ R1.take 2 := by rw [List.take_append, h1, List.take_of_length_le (by omega), show m + 2 - m = 2 by omega]
  have e2 : (E1 ++ R1).drop (m + 2 + E2.length) = R := by rw [List.drop_append, h1, List.drop_of_length_le (by omega), List.nil_append, show m + 2 + E2.length - m = E2.length + 2 by omega, hd]
  rw [e1, e2]
  have e3 : (E1 ++ R1.take 2 ++ E2 ++ R).take m = E1 := by rw [List.append_assoc, List.append_assoc, List.take_append, h1, List.take_of_length_le (by omega)]; simp
  have e4 : (E1 ++ R1.take 2 ++ E2 ++ R).drop (m + 2) = E2 ++ R := by
    rw [List.append_assoc (E1 ++ R1.take 2), List.drop_append, List.drop_of_length_le (by rw [List.length_append, List.length_take]; omega), List.nil_append, show m + 2 - (E1 ++ R1.take 2).length = 0 by rw [List.length_append, List.length_take]; omega, List.drop_zero]
  rw [e3, e4]; simp [List.append_assoc]
theorem insAt_enc (xs : List S61) (i : Nat) (p : S61) : enc2 ((insAt xs i p).map pPr) = enc2 ((xs.take i).map pPr) ++ [.string p.f0, .int .u64 p.f1] ++ enc2 ((xs.drop i).map pPr) := by
  unfold insAt
  rw [List.map_append, enc2_app, List.map_cons, enc2_cons]
  simp
set_option maxHeartbeats 4000000 in
set_option maxRecDepth 100000 in
theorem pinsert_room {w : World} {base g c vb : Nat} {xs : List S61} (p : S61) (h : RowPr w base (.slice (some ⟨g, 0, none⟩) xs.length c) xs) (hv : Blk w vb 61 #[.string p.f0, .int .u64 p.f1]) (hne : vb ≠ g) {i : Nat} (hi : i < xs.length) (hroom : xs.length + 1 ≤ c) :
    Calls Tryz.prog 80 #[.slice (some ⟨g, 0, none⟩) xs.length c, .int .i64 i, .slice (some ⟨vb, 0, none⟩) 1 1] w fun e w' => e = .returned (.slice (some ⟨g, 0, none⟩) (xs.length + 1) c) ∧ RowPr w' base (.slice (some ⟨g, 0, none⟩) (xs.length + 1) c) (insAt xs i p) ∧ Upd w w' (· = g) := by
  obtain ⟨cur, hcur, hc, hcm, hcs, hbg, htk⟩ := own_cur h
  have hsz : (Tryz.prog.info? 61).map (·.size) = some 2 := by kernel_rfl
  have hcl : cur.toList.length = c * 2 := by simpa using hcs
  obtain ⟨E1, hE1⟩ : ∃ E1, enc2 ((xs.take i).map pPr) = E1 := ⟨_, rfl⟩
  obtain ⟨E2, hE2⟩ : ∃ E2, enc2 ((xs.drop i).map pPr) = E2 := ⟨_, rfl⟩
  have hl1 : E1.length = i * 2 := by rw [← hE1, enc2_len, List.length_map, List.length_take]; omega
  have hl2 : E2.length = (xs.length - i) * 2 := by rw [← hE2, enc2_len, List.length_map, List.length_drop]
  have hE : enc2 (xs.map pPr) = E1 ++ E2 := by rw [← hE1, ← hE2, ← enc2_app, ← List.map_append, List.take_append_drop]
  have h1E : ∀ v ∈ E2, v.oneCell' = true := hE2 ▸ pPr_one _
  rw [hE] at htk
  have hcell : ∀ j v, E2[j]? = some v → w.cell? ⟨g, i * 2 + j, none⟩ = some v := fun j v hj => by
    rw [cell_of_row w g (i * 2 + j) cur 61 (0, 0) hcur]
    have hlt := (List.getElem?_eq_some_iff.1 hj).1
    have : (cur.toList.take (xs.length * 2))[i * 2 + j]? = some v := by rw [htk, List.getElem?_append_right (by omega), hl1, show i * 2 + j - i * 2 = j by omega]; exact hj
    rw [List.getElem?_take, if_pos (by omega)] at this
    simpa using this
  obtain ⟨cur1, hcur1⟩ : ∃ cur1, (cur.toList.take (i * 2 + 2) ++ E2 ++ cur.toList.drop (i * 2 + 2 + E2.length)) = cur1 := ⟨_, rfl⟩
  have hcl1 : cur1.length = c * 2 := by rw [← hcur1]; simp only [List.length_append, List.length_take, List.length_drop]; omega
  have hcp1 : ∀ ty dc sc, (Builtin.copy_ #[39, 39] ty #[.slice (some ⟨g, (i + 1) * 2, none⟩) (xs.length - i) dc, .slice (some ⟨g, i * 2, none⟩) (xs.length + 1 - i) sc]).run Tryz.prog w.drew = .ok (goInt (Nat.min (xs.length + 1 - i) (xs.length - i))) (w.drew.setRow g cur1.toArray) := fun ty dc sc => by
    have := run_copy_rowS (P := Tryz.prog) w.drew 39 39 ty 61 g ((i + 1) * 2) (xs.length - i) dc ⟨g, i * 2, none⟩ (xs.length + 1 - i) sc cur 61 E2 2 Tryz.underlying39 hsz hcur (by rw [hl2]; simp only [Nat.min_def]; split <;> omega) (fun j v hj => by rw [Addr.add_lit]; exact hcell j v hj) (by omega) h1E
    rw [show (i + 1) * 2 = i * 2 + 2 by omega] at this ⊢
    rw [this, hcur1]
  have hb1 : Upd w (w.drew.setRow g cur1.toArray) (· = g) := (Upd.refl w (· = g)).drew.trans (upd_setRow _ _ _)
  have hg1 : (w.drew.setRow g cur1.toArray).heap[g]? = some (.cells cur1.toArray 61 (0, 0)) := setRow_heap w.drew g cur cur1.toArray 61 (0, 0) hcur
  generalize w.drew.setRow g cur1.toArray = W1 at *
  have hv1 : Blk W1 vb 61 #[.string p.f0, .int .u64 p.f1] := hv.upd hb1 hne
  have hcp2 : ∀ ty dc, (Builtin.copy_ #[39, 39] ty #[.slice (some ⟨g, i * 2, none⟩) (xs.length + 1 - i) dc, .slice (some ⟨vb, 0, none⟩) 1 1]).run Tryz.prog W1 = .ok (goInt 1) (W1.setRow g (cur1.take (i * 2) ++ [Value.string p.f0, Value.int .u64 p.f1] ++ cur1.drop (i * 2 + 2)).toArray) := fun ty dc => by
    have hmin : Nat.min 1 (xs.length + 1 - i) = 1 := by show min 1 (xs.length + 1 - i) = 1; omega
    have := run_copy_rowS (P := Tryz.prog) W1 39 39 ty 61 g (i * 2) (xs.length + 1 - i) dc ⟨vb, 0, none⟩ 1 1 cur1.toArray 61 [.string p.f0, .int .u64 p.f1] 2 Tryz.underlying39 hsz hg1 (by rw [hmin]; rfl) (fun j v hj => by
      rw [Addr.add_lit, Nat.zero_add, hv1.cell j]
      simpa using hj) (by simp; omega) (fun v hv => by simp only [List.mem_cons, List.not_mem_nil, or_false] at hv; rcases hv with rfl | rfl <;> rfl)
    rw [hmin] at this
    exact this
  have htk1 : cur.toList.take (i * 2) = E1 := by
    have h5 := congrArg (List.take (i * 2)) htk
    rw [List.take_take, Nat.min_eq_left (show i * 2 ≤ xs.length * 2 by omega), List.take_append, hl1, List.take_of_length_le (l := E1) (Nat.le_of_eq hl1), Nat.sub_self, List.take_zero, List.append_nil] at h5
    exact h5
  have hr1 : (cur.toList.drop (i * 2)).length = E2.length + (cur.toList.drop (i * 2 + 2 + E2.length)).length + 2 - 0 := by
    rw [List.length_drop, List.length_drop, hcl, hl2]; omega
  have hfin := splice_ins (E1 := E1) (E2 := E2) (R := cur.toList.drop (i * 2 + 2 + E2.length)) (a := Value.string p.f0) (b := Value.int .u64 p.f1) (cur := cur.toList) hl1 ⟨cur.toList.drop (i * 2), hr1, by rw [← htk1, List.take_append_drop], by rw [List.drop_drop]; congr 1; omega⟩
  rw [hcur1] at hfin
  rw [hfin] at hcp2
  have hb2 : Upd w (W1.setRow g (E1 ++ [Value.string p.f0, Value.int .u64 p.f1] ++ E2 ++ cur.toList.drop (i * 2 + 2 + E2.length)).toArray) (· = g) := hb1.trans (upd_setRow _ _ _)
  have hg2 := setRow_heap W1 g cur1.toArray (E1 ++ [Value.string p.f0, Value.int .u64 p.f1] ++ E2 ++ cur.toList.drop (i * 2 + 2 + E2.length)).toArray 61 (0, 0) hg1
  generalize W1.setRow g (E1 ++ [Value.string p.f0, Value.int .u64 p.f1] ++ E2 ++ cur.toList.drop (i * 2 + 2 + E2.length)).toArray = W2 at *
  have hrow : RowPr W2 base (.slice (some ⟨g, 0, none⟩) (insAt xs i p).length c) (insAt xs i p) := by
    refine own_mk hg2 (by rw [insAt_len xs (by omega)]; exact hroom) hcm (by rw [List.size_toArray, List.length_append, List.length_append, List.length_append, List.length_drop, hcl, hl1, hl2]; simp only [List.length_cons, List.length_nil]; omega) hbg ?_
    rw [insAt_enc, hE1, hE2, insAt_len xs (by omega)]
    rw [List.take_append, List.take_of_length_le (by simp only [List.length_append, List.length_cons, List.length_nil]; omega)]
    rw [show (xs.length + 1) * 2 - (E1 ++ [Value.string p.f0, Value.int .u64 p.f1] ++ E2).length = 0 by simp only [List.length_append, List.length_cons, List.length_nil]; omega]
    simp
  rw [insAt_len xs (by omega)] at hrow
  have hov : ∀ lb cb, (callFunc 123 #[.slice (some ⟨vb, 0, none⟩) 1 1, .slice (some ⟨g, (i + 1) * 2, none⟩) lb cb]).run Tryz.prog w = .ok (.value (.bool false)) w := fun lb cb => by
    rw [run_callFunc_extern Tryz.func123 (by kernel_rfl) (by kernel_rfl) (by kernel_rfl) (e := Extern.SlicesOverlaps.overlaps #[39, 39] #[4]) (by kernel_rfl),
      Lib.run_overlaps_apart w 39 4 61 Tryz.underlying39 2 (fun w => by go_simp) ⟨vb, 0, none⟩ ⟨g, (i + 1) * 2, none⟩ 1 1 lb cb hne 61 61 2 (c * 2) (by unfold Blk at hv; simp [World.shape?, hv]) (by simp [World.shape?, hcur, hcs]) (by omega) (hv.frozen 0) (hv.frozen 2)]
    rfl
  have HZ := Lib.hid (And.intro hrow hb2)
  have hw1 : IntKind.i64.wrap ((i : Int) + 1) = (i : Int) + 1 := by rw [IntKind.wrap_i64]; omega
  have g1 : (0 : Int) ≤ (i : Int) + 1 := by omega
  have g2 : i ≤ xs.length := by omega
  have g3 : ((i : Int) + 1).toNat = i + 1 := by omega
  have g4 : ¬ (c = i + 1) := by omega
  have g5 : (i : Int) ≤ (xs.length : Int) + 1 := by omega
  have g6 : ¬ (c = i) := by omega
  have g7 : (i : Int) + 1 ≤ (xs.length : Int) + 1 := by omega
  clear hcur hcs hbg htk h hsz hcl hE1 hE2 hl1 hl2 hE h1E hcell hcur1 hcl1 hb1 hg1 hv1 hfin hb2 hg2 hrow hv hne htk1 hr1
  go_enter Tryz.func80, Tryz.ntmps80
  go_wp2_with fail
  have HCP := Lib.hid hcp1
  have HCP2 := Lib.hid hcp2
  clear hcp1 hcp2 hov
  refine wp_region_held (S := (fun _ => True)) (by kernel_rfl) ?_
  simp only [List.size_toArray, List.length_cons, List.length_nil, Nat.zero_add, Nat.reduceAdd]
  have hHeld : ((fun _ => True)) w.drew := trivial
  refine tk_ 0 hHeld ?_
  refine tk_ 1 hHeld ?_
  refine tk_ 2 hHeld ?_
  refine tk_ 3 hHeld ?_
  refine tk_ 4 hHeld ?_
  refine tk_ 5 hHeld ?_
  refine tk_ 6 hHeld ?_
  refine tk_ 7 hHeld ?_
  refine wpAnyH_ready (rs := [8]) (by kernel_rfl) (by simp) ?_
  refine (AllReadyH.cons rfl (fun K hK => ?_) AllReadyH.nil)
  have hcp1 := HCP.out
  go_simp
  clear hcp1
  refine hK.out _ _ ?_ (fun hHeld => ?_)
  · trivial
  clear hK K
  try simp only [List.getElem_toArray, List.getElem_cons_succ, List.getElem_cons_zero, Act.put, List.setIfInBounds_toArray, List.set_cons_zero, List.set_cons_succ]
  refine wpAnyH_done (by kernel_rfl) ?_ _
  clear hHeld
  have hcp2 := HCP2.out
  go_wp2
  go_ret
  exact ⟨rfl, HZ.out⟩
set_option maxHeartbeats 4000000 in
set_option maxRecDepth 100000 in
theorem pinsert_grow {w : World} {base g c vb : Nat} {xs : List S61} (p : S61) (h : RowPr w base (.slice (some ⟨g, 0, none⟩) xs.length c) xs) (hv : Blk w vb 61 #[.string p.f0, .int .u64 p.f1]) {i : Nat} (hi : i < xs.length) (hroom : c < xs.length + 1) (hbig : (xs.length + 1) * 24 ≤ 140737488355328) :
    Calls Tryz.prog 80 #[.slice (some ⟨g, 0, none⟩) xs.length c, .int .i64 i, .slice (some ⟨vb, 0, none⟩) 1 1] w fun e w' => ∃ v, e = .returned v ∧ RowPr w' w.heap.size v (insAt xs i p) ∧ Below w.heap.size w w' := by
  obtain ⟨cur, hcur, hc, hcm, hcs, hbg, htk⟩ := own_cur h
  obtain ⟨i0, hi0, hz0, hzs, hzb⟩ := info_parts info61
  have hsz : (Tryz.prog.info? 61).map (·.size) = some 2 := by kernel_rfl
  have hcl : cur.toList.length = c * 2 := by simpa using hcs
  obtain ⟨E1, hE1⟩ : ∃ E1, enc2 ((xs.take i).map pPr) = E1 := ⟨_, rfl⟩
  obtain ⟨E2, hE2⟩ : ∃ E2, enc2 ((xs.drop i).map pPr) = E2 := ⟨_, rfl⟩
  have hl1 : E1.length = i * 2 := by rw [← hE1, enc2_len, List.length_map, List.length_take]; omega
  have hl2 : E2.length = (xs.length - i) * 2 := by rw [← hE2, enc2_len, List.length_map, List.length_drop]
  have hE : enc2 (xs.map pPr) = E1 ++ E2 := by rw [← hE1, ← hE2, ← enc2_app, ← List.map_append, List.take_append_drop]
  have h1E : ∀ v ∈ E2, v.oneCell' = true := hE2 ▸ pPr_one _
  rw [hE] at htk
  have hgl : g < w.heap.size := (Array.getElem?_eq_some_iff.1 hcur).1
  have hcell : ∀ j v, (E1 ++ E2)[j]? = some v → w.cell? ⟨g, j, none⟩ = some v := fun j v hj => by
    rw [cell_of_row w g j cur 61 (0, 0) hcur]
    rw [← htk, List.getElem?_take] at hj
    split at hj
    · simpa using hj
    · cases hj
  have hold : (Builtin.firstCells i0.size i (.slice (some ⟨g, 0, none⟩) i c)).run Tryz.prog w.drew = .ok E1.toArray w.drew := by
    rw [hzs]
    exact run_firstCells_some w.drew 2 i ⟨g, 0, none⟩ i c E1 hl1 (fun j v hj => by
      rw [Addr.add_lit, Nat.zero_add]
      exact hcell j v (by rw [List.getElem?_append_left (List.getElem?_eq_some_iff.1 hj).1]; exact hj))
  have hik : i + (xs.length + 1 - i) = xs.length + 1 := by omega
  have hkk : (xs.length : Int) + 1 - (i : Int) = ((xs.length + 1 - i : Nat) : Int) := by omega
  have hrz : ∀ ty, (Builtin.append_ #[39, 3] ty #[.slice (some ⟨g, 0, none⟩) i c, .int .i64 ((xs.length : Int) + 1 - (i : Int))]).run Tryz.prog w =
      .ok (.slice (some ⟨w.heap.size, 0, none⟩) (xs.length + 1) (grownCap w (xs.length + 1) c 61)) (w.drew.alloc (.cells (E1.toArray ++ Builtin.zeroCells (Value.agg #[.string ⟨#[]⟩, .int .u64 0]).cells (xs.length + 1 - i) ++ Builtin.zeroCells (Value.agg #[.string ⟨#[]⟩, .int .u64 0]).cells (grownCap w (xs.length + 1) c 61 - (xs.length + 1))) 61)) := fun ty => by
    have h := Lib.run_append_grow_zeros w 39 3 ty 61 i0 _ .i64 .i64 Tryz.underlying39 Tryz.underlying3 hi0 hz0 (some ⟨g, 0, none⟩) i c E1 hold (xs.length + 1 - i) (by omega) (by omega) (by omega) (by omega) (by rw [hzb]; omega) (by rw [hzb, hik]; exact growslice_fits hroom hbig)
    rw [hik] at h
    rw [hkk]
    exact h
  have hGn : xs.length + 1 ≤ grownCap w (xs.length + 1) c 61 := grownCap_ge w _ _ _
  have hG63 : grownCap w (xs.length + 1) c 61 ≤ 9223372036854775807 := by
    have := grownCap_le_maxLen w (xs.length + 1) c 61 (by unfold maxLen; omega)
    unfold maxLen at this
    omega
  generalize grownCap w (xs.length + 1) c 61 = G at *
  obtain ⟨ROW, hROW⟩ : ∃ ROW : Array Value, ROW = E1.toArray ++ Builtin.zeroCells (Value.agg #[.string ⟨#[]⟩, .int .u64 0]).cells (xs.length + 1 - i) ++ Builtin.zeroCells (Value.agg #[.string ⟨#[]⟩, .int .u64 0]).cells (G - (xs.length + 1)) := ⟨_, rfl⟩
  rw [← hROW] at hrz
  have hRs : ROW.size = G * 2 := by rw [hROW]; simp [Builtin.zeroCells, Value.cells]; omega
  have hRt : ROW.toList.take (i * 2) = E1 := by rw [hROW]; simp [hl1]
  clear hROW
  obtain ⟨W0, hW0⟩ : ∃ W0, W0 = w.drew.alloc (.cells ROW 61) := ⟨_, rfl⟩
  rw [← hW0] at hrz
  have hb0 : Below w.heap.size w W0 := hW0 ▸ ((below_drew (Below.refl _ _)).alloc (Nat.le_refl _) _)
  have hg0 : W0.heap[w.heap.size]? = some (.cells ROW 61 (0, 0)) := hW0 ▸ heap_alloc_new w.drew _
  clear hW0
  obtain ⟨m, hm⟩ : ∃ m, m = w.heap.size := ⟨_, rfl⟩
  rw [← hm] at hg0 hrz hgl
  have hvl : vb < m := by rw [hm]; exact hv.lt
  have hv0 : Blk W0 vb 61 #[.string p.f0, .int .u64 p.f1] := hv.below hb0 hv.lt
  have hcp1 : ∀ ty dc, (Builtin.copy_ #[39, 39] ty #[.slice (some ⟨m, i * 2, none⟩) (xs.length + 1 - i) dc, .slice (some ⟨vb, 0, none⟩) 1 1]).run Tryz.prog W0 = .ok (goInt 1) (W0.setRow m (ROW.toList.take (i * 2) ++ [Value.string p.f0, Value.int .u64 p.f1] ++ ROW.toList.drop (i * 2 + 2)).toArray) := fun ty dc => by
    have hmin : Nat.min 1 (xs.length + 1 - i) = 1 := by show min 1 (xs.length + 1 - i) = 1; omega
    have := run_copy_rowS (P := Tryz.prog) W0 39 39 ty 61 m (i * 2) (xs.length + 1 - i) dc ⟨vb, 0, none⟩ 1 1 ROW 61 [.string p.f0, .int .u64 p.f1] 2 Tryz.underlying39 hsz hg0 (by rw [hmin]; rfl) (fun j v hj => by
      rw [Addr.add_lit, Nat.zero_add, hv0.cell j]
      simpa using hj) (by simp; omega) (fun v hv => by simp only [List.mem_cons, List.not_mem_nil, or_false] at hv; rcases hv with rfl | rfl <;> rfl)
    rw [hmin] at this
    exact this
  rw [hRt] at hcp1
  have hRl : ROW.toList.length = G * 2 := by simpa using hRs
  obtain ⟨cur1, hcur1⟩ : ∃ cur1, E1 ++ [Value.string p.f0, Value.int .u64 p.f1] ++ ROW.toList.drop (i * 2 + 2) = cur1 := ⟨_, rfl⟩
  rw [hcur1] at hcp1
  have hcl1 : cur1.length = G * 2 := by rw [← hcur1]; simp only [List.length_append, List.length_cons, List.length_nil, List.length_drop]; omega
  have hb1 : Upd W0 (W0.setRow m cur1.toArray) (· = m) := upd_setRow _ _ _
  have hg1 := setRow_heap W0 m ROW cur1.toArray 61 (0, 0) hg0
  generalize W0.setRow m cur1.toArray = W1 at *
  have hcell1 : ∀ j v, E2[j]? = some v → W1.drew.cell? ⟨g, i * 2 + j, none⟩ = some v := fun j v hj => by
    have h1 := hcell (i * 2 + j) v (by rw [List.getElem?_append_right (by omega), hl1, show i * 2 + j - i * 2 = j by omega]; exact hj)
    have h2 := pw_cell_below hb0 h1
    exact (World.cell?_of_block (w := W0) (hb1.block g (World.block_lt_of_cell? W0 _ h2) (by omega))).trans h2
  have hcp2 : ∀ ty dc sc, (Builtin.copy_ #[39, 39] ty #[.slice (some ⟨m, (i + 1) * 2, none⟩) (xs.length - i) dc, .slice (some ⟨g, i * 2, none⟩) (xs.length - i) sc]).run Tryz.prog W1.drew = .ok (goInt (Nat.min (xs.length - i) (xs.length - i))) (W1.drew.setRow m (cur1.take (i * 2 + 2) ++ E2 ++ cur1.drop (i * 2 + 2 + E2.length)).toArray) := fun ty dc sc => by
    have := run_copy_rowS (P := Tryz.prog) W1.drew 39 39 ty 61 m ((i + 1) * 2) (xs.length - i) dc ⟨g, i * 2, none⟩ (xs.length - i) sc cur1.toArray 61 E2 2 Tryz.underlying39 hsz hg1 (by rw [hl2]; show _ = min _ _ * 2; omega) (fun j v hj => by rw [Addr.add_lit]; exact hcell1 j v hj) (by simp only [List.size_toArray]; omega) h1E
    rw [show (i + 1) * 2 = i * 2 + 2 by omega] at this ⊢
    exact this
  have hb2 : Upd W1 (W1.drew.setRow m (cur1.take (i * 2 + 2) ++ E2 ++ cur1.drop (i * 2 + 2 + E2.length)).toArray) (· = m) := (Upd.refl W1 (· = m)).drew.trans (upd_setRow _ _ _)
  have hg2 := setRow_heap W1.drew m cur1.toArray (cur1.take (i * 2 + 2) ++ E2 ++ cur1.drop (i * 2 + 2 + E2.length)).toArray 61 (0, 0) hg1
  have ht1 : cur1.take (i * 2 + 2) = E1 ++ [Value.string p.f0, Value.int .u64 p.f1] := by
    rw [← hcur1, List.take_append, List.take_of_length_le (by simp only [List.length_append, List.length_cons, List.length_nil]; omega)]
    rw [show i * 2 + 2 - (E1 ++ [Value.string p.f0, Value.int .u64 p.f1]).length = 0 by simp only [List.length_append, List.length_cons, List.length_nil]; omega]
    simp
  rw [ht1] at hcp2 hb2 hg2
  generalize W1.drew.setRow m (E1 ++ [Value.string p.f0, Value.int .u64 p.f1] ++ E2 ++ cur1.drop (i * 2 + 2 + E2.length)).toArray = W2 at *
  have hrow : RowPr W2 m (.slice (some ⟨m, 0, none⟩) (insAt xs i p).length G) (insAt xs i p) := by
    refine own_mk hg2 (by rw [insAt_len xs (by omega)]; exact hGn) hG63 (by rw [List.size_toArray, List.length_append, List.length_append, List.length_append, List.length_drop, hcl1, hl1, hl2]; simp only [List.length_cons, List.length_nil]; omega) (Nat.le_refl _) ?_
    rw [insAt_enc, hE1, hE2, insAt_len xs (by omega)]
    rw [List.take_append, List.take_of_length_le (by simp only [List.length_append, List.length_cons, List.length_nil]; omega)]
    rw [show (xs.length + 1) * 2 - (E1 ++ [Value.string p.f0, Value.int .u64 p.f1] ++ E2).length = 0 by simp only [List.length_append, List.length_cons, List.length_nil]; omega]
    simp
  rw [insAt_len xs (by omega)] at hrow
  have HZ := Lib.hid (And.intro hrow (hb0.trans (((hb1.trans hb2).below hb0.size (fun q hq e => by omega)))))
  have hw1 : IntKind.i64.wrap ((i : Int) + 1) = (i : Int) + 1 := by rw [IntKind.wrap_i64]; omega
  have g1 : (0 : Int) ≤ (i : Int) + 1 := by omega
  have g2 : i ≤ xs.length := by omega
  have g3 : ((i : Int) + 1).toNat = i + 1 := by omega
  have g4 : ¬ (G = i + 1) := by omega
  have g5 : (i : Int) ≤ (xs.length : Int) := by omega
  have g6 : ¬ (c = i) := by omega
  have g7 : (i : Int) + 1 ≤ (xs.length : Int) + 1 := by omega
  have g8 : ¬ (G = i) := by omega
  have HCP := Lib.hid hcp2
  have HM := Lib.hid hm
  clear hcur hcs hbg htk h hsz hcl hE1 hE2 hl1 hl2 hE h1E hcell hcur1 hcl1 hb1 hg1 hv0 hb2 hg2 hrow hv hi0 hz0 hzs hzb hgl hold hik hkk hRs hRt hb0 hg0 hvl hRl hcell1 ht1 hcp2 hm
  go_enter Tryz.func80, Tryz.ntmps80
  go_wp2_with (first | (at_builtin; refine Lib.wpList_append_run _ rfl _ _ _ _ rfl _ _ rfl rfl _ _ (hrz _) ?_))
  refine wp_region_held (S := (fun _ => True)) (by kernel_rfl) ?_
  simp only [List.size_toArray, List.length_cons, List.length_nil, Nat.zero_add, Nat.reduceAdd]
  have hHeld : ((fun _ => True)) W1.drew := trivial
  refine tk_ 0 hHeld ?_
  refine tk_ 1 hHeld ?_
  refine tk_ 2 hHeld ?_
  refine tk_ 3 hHeld ?_
  refine tk_ 4 hHeld ?_
  refine tk_ 5 hHeld ?_
  refine tk_ 6 hHeld ?_
  refine tk_ 7 hHeld ?_
  refine wpAnyH_ready (rs := [8]) (by kernel_rfl) (by simp) ?_
  refine (AllReadyH.cons rfl (fun K hK => ?_) AllReadyH.nil)
  have hcp2 := HCP.out
  go_simp
  clear hcp2
  refine hK.out _ _ ?_ (fun hHeld => ?_)
  · trivial
  clear hK K
  try simp only [List.getElem_toArray, List.getElem_cons_succ, List.getElem_cons_zero, Act.put, List.setIfInBounds_toArray, List.set_cons_zero, List.set_cons_succ]
  refine wpAnyH_done (by kernel_rfl) ?_ _
  clear hHeld
  go_wp2
  go_ret
  exact ⟨_, rfl, by rw [← HM.out]; exact HZ.out.1, HZ.out.2⟩
end Go.Proofs.YtgmlenpcchhmbaaGreat.P
end
section
set_option linter.unusedVariables false
set_option linter.unusedSimpArgs false
namespace Go.Proofs.YtgmlenpcchhmbaaGreat.P
open Go.RowKit Go.Proofs.YtgmlenpcchhmbaaGreatW.PrintWords Go.Proofs.YtgmlenpcchhmbaaGreatW.PrintLast Go.Proofs.YtgmlenpcchhmbaaGreatW.PrintMore
theorem cmpB_lt : ∀ a b : List UInt8, decide (Lib.compareBytes a b < 0) = Op.bytesLess a b
  | [], [] => by rw [bl_nil]; rfl
  | [], _ :: _ => rfl
  | _ :: _, [] => by rw [bl_nil]; rfl
  | x :: a, y :: b => by
    have ih := cmpB_lt a b
    rw [bl_cons]
    unfold Lib.compareBytes
    by_cases h : x < y
    · simp [h]
    · by_cases h2 : y < x
      · have : x ≠ y := fun e => by rw [e] at h2; exact UInt8.lt_irrefl y h2
        simp [h, h2, this]
      · have : x = y := UInt8.le_antisymm (UInt8.not_lt.1 h2) (UInt8.not_lt.1 h)
        subst this
        rw [if_neg h, if_neg h2, ih]
        simp
theorem cmpB_eq : ∀ a b : List UInt8, decide (Lib.compareBytes a b = 0) = decide (a = b)
  | [], [] => rfl
  | [], _ :: _ => by simp [Lib.compareBytes]
  | _ :: _, [] => by simp [Lib.compareBytes]
  | x :: a, y :: b => by
    have ih := cmpB_eq a b
    unfold Lib.compareBytes
    by_cases h : x < y
    · have : x ≠ y := fun e => by rw [e] at h; exact UInt8.lt_irrefl y h
      simp [h, this]
    · by_cases h2 : y < x
      · have : x ≠ y := fun e => by rw [e] at h2; exact UInt8.lt_irrefl y h2
        simp [h, h2, this]
      · have : x = y := UInt8.le_antisymm (UInt8.not_lt.1 h2) (UInt8.not_lt.1 h)
        subst this
        simpa using ih
def kcmp (a b : ByteArray) : Int := Lib.compareBytes a.data.toList b.data.toList
theorem kcmp_lt (a b : ByteArray) : decide (kcmp a b < 0) = klt a b := cmpB_lt _ _
theorem kcmp_eq (a b : ByteArray) : (kcmp a b == 0) = decide (a = b) := by
  have := cmpB_eq a.data.toList b.data.toList
  rw [show (kcmp a b == 0) = decide (kcmp a b = 0) from rfl]
  unfold kcmp
  rw [this]
  exact decide_eq_decide.2 ⟨fun h => ba_ext h, fun h => by rw [h]⟩
theorem bacmp_run (a b : ByteArray) (w : World) : (callFunc 153 #[.string a, .string b]).run Tryz.prog w = .ok (.value (.int .i64 (kcmp a b))) w := by
  rw [run_callFunc_extern (fn := Tryz.f153) (e := Extern.BytealgCompare.compare) (by kernel_rfl) (by kernel_rfl) rfl (by kernel_rfl) (by kernel_rfl)]
  rw [Lib.run_compareString]
  rfl
theorem baCompare_any (a b : ByteArray) (w : World) : Calls Tryz.prog 122 #[.string a, .string b] w fun e w' => e = .returned (.int .i64 (kcmp a b)) ∧ w' = w := by
  have hr := bacmp_run a b
  generalize kcmp a b = m at *
  go_enter Tryz.func122, Tryz.ntmps122
  go_wp2
  go_ret
  exact ⟨rfl, rfl⟩
theorem sCompare_any (a b : ByteArray) (w : World) : Calls Tryz.prog 78 #[.string a, .string b] w fun e w' => e = .returned (.int .i64 (kcmp a b)) ∧ w' = w := by
  have hr := fun w => baCompare_any a b w
  generalize kcmp a b = m at *
  go_enter Tryz.func78, Tryz.ntmps78
  go_wp2_with fail
  refine (hr _).mono ?_
  rintro e w' ⟨rfl, rfl⟩
  go_wp2
  go_ret
  exact ⟨rfl, rfl⟩
theorem apply1_any (p : S61) (k : ByteArray) (w : World) : Calls Tryz.prog 77 #[.agg #[.string p.f0, .int .u64 p.f1], .string k] w fun e w' => e = .returned (.int .i64 (kcmp p.f0 k)) ∧ Below w.heap.size w w' := by
  obtain ⟨w1, hw1⟩ : ∃ w1, w.alloc (.cells #[.string p.f0, .int .u64 p.f1] 61) = w1 := ⟨_, rfl⟩
  have hb : Below w.heap.size w w1 := hw1 ▸ (Below.refl _ _).alloc (Nat.le_refl _) _
  have hT : Blk w1 w.heap.size 61 #[.string p.f0, .int .u64 p.f1] := hw1 ▸ Blk.new w 61 _
  have t0 : w1.cell? ⟨w.heap.size, 0, none⟩ = some (.string p.f0) := hT.cell 0
  have HC := Lib.hid (sCompare_any p.f0 k w1)
  have HB := Lib.hid hb; clear hb hT
  generalize kcmp p.f0 k = z at *
  go_enter Tryz.func77, Tryz.ntmps77
  go_wp2_with fail
  refine HC.out.mono ?_
  rintro e w2 ⟨rfl, rfl⟩
  go_wp2
  go_ret
  exact ⟨rfl, HB.out⟩
structure AtK (xs : List S61) (k : ByteArray) (i : Nat) : Prop where
  le : i ≤ xs.length
  low : ∀ (q : Nat) (x : S61), q < i → xs[q]? = some x → klt x.f0 k = true
  high : ∀ (q : Nat) (x : S61), i ≤ q → xs[q]? = some x → klt x.f0 k = false
def foundK (xs : List S61) (k : ByteArray) (i : Nat) : Bool := match xs[i]? with | some x => decide (x.f0 = k) | none => false
theorem sort_mono {xs : List S61} (h : SortK (xs.map toA)) {a b : Nat} {x y : S61} (hab : a ≤ b) (hx : xs[a]? = some x) (hy : xs[b]? = some y) {k : ByteArray} (hk : klt y.f0 k = true) : klt x.f0 k = true := by
  rcases Nat.lt_or_ge a b with hlt | hge
  · unfold SortK at h
    rw [List.pairwise_map] at h
    obtain ⟨ha, rfl⟩ := List.getElem?_eq_some_iff.1 hx
    obtain ⟨hb, rfl⟩ := List.getElem?_eq_some_iff.1 hy
    exact klt_trans (List.pairwise_iff_getElem.1 h a b ha hb hlt) hk
  · obtain rfl : a = b := by omega
    rw [hx] at hy
    injection hy with hy
    subst hy
    exact hk
set_option maxHeartbeats 4000000 in
set_option maxRecDepth 100000 in
theorem pbs_any (A : Option Addr) (c : Nat) (xs : List S61) (k : ByteArray) (w : World) (hr : Kd.C k61 w A xs.length xs) (hs : SortK (xs.map toA)) (hl : xs.length < 4611686018427387904) :
    Calls Tryz.prog 76 #[.slice A xs.length c, .string k, .func (.func 77) #[] #[]] w fun e w' => ∃ i : Nat, e = .returned (.tuple #[.int .i64 (i : Int), .bool (foundK xs k i)]) ∧ AtK xs k i ∧ Below w.heap.size w w' := by
  have eg : ∀ args w, (callFunc 77 args).run Tryz.prog w = .ok (.enter 77 args) w := enters_of Tryz.func77 (by kernel_rfl) rfl
  have HR := Lib.hid hr; have HM := Lib.hid hs
  clear hr hs
  go_enter Tryz.func76, Tryz.ntmps76
  go_wp2
  go_loopw [9, 10, 11] (fun si sj _ wr => ∃ (i j : Nat), si = .int .i64 (i : Int) ∧ sj = .int .i64 (j : Int) ∧ i ≤ j ∧ j ≤ xs.length ∧ RowKit.Hid (Below w.heap.size w wr) ∧ RowKit.Hid ((∀ (q : Nat) (x : S61), q < i → xs[q]? = some x → klt x.f0 k = true) ∧ ∀ (q : Nat) (x : S61), j ≤ q → xs[q]? = some x → klt x.f0 k = false)) (fun si sj _ _ => (intOf sj).toNat - (intOf si).toNat)
  case atStart => exact ⟨0, xs.length, rfl, rfl, by omega, by omega, Lib.hid (Below.refl _ _), Lib.hid ⟨fun p x hp => by omega, fun p x hp hx => by have := (List.getElem?_eq_some_iff.1 hx).1; omega⟩⟩
  case round =>
    obtain ⟨i, j, rfl, rfl, hij, hjn, HB, HI⟩ := hrel
    by_cases hlt : i < j
    · obtain ⟨m, hm⟩ : ∃ m, (i + j) / 2 = m := ⟨_, rfl⟩
      have hmz : ((i : Int) + (j : Int)) / 2 = (m : Int) := by omega
      have hmi : i ≤ m := by omega
      have hmj : m < j := by omega
      have hmid : m < xs.length := by omega
      clear hm
      obtain ⟨ad, hA, m0, m1⟩ := C_atP (Kd.C_below HR.out HB.out) m hmid
      subst hA
      obtain ⟨x, hx⟩ : ∃ x, xs[m]? = some x := ⟨_, List.getElem?_eq_getElem hmid⟩
      have hxe : xs[m] = x := by rw [List.getElem?_eq_getElem hmid] at hx; injection hx
      rw [hxe] at m0 m1
      have HX := Lib.hid hx
      have hap := apply1_any x k wr
      have hc := kcmp_lt x.f0 k
      have HAP := Lib.hid hap
      generalize kcmp x.f0 k = z at *
      clear hx hxe hap
      cases hq : klt x.f0 k with
      | true =>
        rw [hq] at hc
        have HQ := Lib.hid hq
        clear hq
        go_wp2_with (go_at_fn 77; refine HAP.out.mono ?_; rintro e w' ⟨rfl, hb⟩)
        go_roundw
        case rel => exact ⟨m + 1, j, by go_num, rfl, by omega, by omega, Lib.hid (HB.out.trans (hb.mono HB.out.size)), Lib.hid ⟨fun q y hp hy => sort_mono HM.out (by omega) hy HX.out HQ.out, HI.out.2⟩⟩
        case measure => simp [intOf]; omega
      | false =>
        rw [hq] at hc
        have HQ := Lib.hid hq
        clear hq
        go_wp2_with (go_at_fn 77; refine HAP.out.mono ?_; rintro e w' ⟨rfl, hb⟩)
        go_roundw
        case rel => exact ⟨i, m, rfl, by go_num, by omega, by omega, Lib.hid (HB.out.trans (hb.mono HB.out.size)), Lib.hid ⟨HI.out.1, fun q y hp hy => by
          cases hz : klt y.f0 k with
          | false => rfl
          | true => exact absurd (sort_mono HM.out hp HX.out hy hz) (by rw [HQ.out]; simp)⟩⟩
        case measure => simp [intOf]; omega
    · obtain rfl : j = i := by omega
      have HT := Lib.hid (AtK.mk hjn HI.out.1 HI.out.2)
      by_cases hn : j < xs.length
      · obtain ⟨ad, hA, m0, m1⟩ := C_atP (Kd.C_below HR.out HB.out) j hn
        subst hA
        have hf : foundK xs k j = decide (xs[j].f0 = k) := by unfold foundK; rw [List.getElem?_eq_getElem hn]
        rw [← kcmp_eq] at hf
        have hap := apply1_any xs[j] k wr
        generalize xs[j] = x at *
        have HAP := Lib.hid hap
        have HF := Lib.hid hf
        generalize kcmp x.f0 k = z at *
        have hnz : (j : Int) < (xs.length : Int) := by omega
        clear hap hf
        go_wp2_with (go_at_fn 77; refine HAP.out.mono ?_; rintro e w' ⟨rfl, hb⟩)
        go_ret2
        exact ⟨j, by rw [HF.out]; rfl, HT.out, HB.out.trans (hb.mono HB.out.size)⟩
      · have HF := Lib.hid (show foundK xs k j = false by unfold foundK; rw [List.getElem?_eq_none (by omega)])
        go_wp2
        go_ret2
        exact ⟨j, by rw [HF.out]; rfl, HT.out, HB.out⟩
end Go.Proofs.YtgmlenpcchhmbaaGreat.P
end
section
set_option linter.unusedVariables false
set_option linter.unusedSimpArgs false
namespace Go.Proofs.YtgmlenpcchhmbaaGreat.P
open Go.RowKit Go.Proofs.YtgmlenpcchhmbaaGreatW.PrintWords Go.Proofs.YtgmlenpcchhmbaaGreatW.PrintLast Go.Proofs.YtgmlenpcchhmbaaGreatW.PrintMore
set_option maxHeartbeats 2000000 in
set_option maxRecDepth 100000 in
theorem pinsert_end {w : World} {base c vb : Nat} {A : Option Addr} {xs : List S61} (p : S61) (h : RowPr w base (.slice A xs.length c) xs) (hbase : base ≤ w.heap.size) (hv : Blk w vb 61 #[.string p.f0, .int .u64 p.f1]) (hbig : (xs.length + 1) * 24 ≤ 140737488355328) :
    Calls Tryz.prog 80 #[.slice A xs.length c, .int .i64 (xs.length : Int), .slice (some ⟨vb, 0, none⟩) 1 1] w fun e w' => ∃ v, e = .returned v ∧ RowPr w' base v (xs ++ [p]) ∧ Upd w w' (fun k => (Value.slice A xs.length c).ownBlock = some k) := by
  have hcap : xs.length ≤ c := own_le h
  have hC : Kd.C k61 w (some ⟨vb, 0, none⟩) [p].length [p] := by
    refine ⟨rfl, by simp, fun _ => ⟨_, rfl, fun j q hj => ?_⟩⟩
    rcases j with _ | j
    · obtain rfl : p = q := by simpa using hj
      refine ⟨[.string p.f0, .int .u64 p.f1], rfl, k61_mk w p, fun i u hu => ?_⟩
      rcases i with _ | i
      · simp only [List.getElem?_cons_zero, Option.some.injEq] at hu
        subst hu
        rw [show (⟨vb, 0, none⟩ : Addr).add (0 * k61.sz + 0) = ⟨vb, 0, none⟩ by rw [Nat.zero_mul, Nat.add_zero, add_plain]]
        exact hv.cell 0
      · rcases i with _ | i
        · simp only [List.getElem?_cons_succ, List.getElem?_cons_zero, Option.some.injEq] at hu
          subst hu
          rw [show (⟨vb, 0, none⟩ : Addr).add (0 * k61.sz + (0 + 1)) = ⟨vb, 1, none⟩ by rw [Nat.zero_mul, Nat.zero_add, Nat.zero_add, add_plain]]
          exact hv.cell 1
        · simp at hu
    · simp at hj
  have HR := Lib.hid (And.intro h.R (And.intro hC (And.intro hbase hbig)))
  have hmx : xs.length ≤ 9223372036854775807 := by omega
  have hcm : c ≤ 9223372036854775807 := by
    rcases h.2 with ⟨e, _⟩ | ⟨g', cap', cur, e, _, _, _, h2, _⟩
    · injection e with _ _ e; omega
    · injection e with _ _ e; unfold maxLen at h2; omega
  have hnil : A = none → c = xs.length := fun hA => by
    subst hA
    rcases h.2 with ⟨e, h0⟩ | ⟨g', cap', cur, e, _⟩
    · injection e with _ _ e; omega
    · injection e with e; cases e
  clear h hC hbase hbig hv
  by_cases hcn : c = xs.length
  · subst hcn
    go_enter Tryz.func80, Tryz.ntmps80
    go_wp2_with (first | ((with_reducible refine gate_builtin (b := .append) (xs := #[.tmp 23, .tmp 24]) rfl ?_); at_builtin; refine stop_append rfl ?_))
    refine Lib.hid ?_
    refine Kd.R_append_rows k61 (w0 := w) (Rr := k61.K w) base (by rfl) (.tmp 23) (.tmp 24) 39 61 (.agg #[.string ⟨#[]⟩, .int .u64 0]) 24 (by rfl) Tryz.underlying39 info61 rfl (by decide) (by decide) (.slice A xs.length xs.length) xs [p] (some ⟨vb, 0, none⟩) 1 1 (fun _ => True) (fun _ => False) (by rfl) (by rfl) HR.out.1 HR.out.2.1 ?_ (fun _ h => h.elim) (fun _ _ => trivial) (Below.refl _ _) HR.out.2.2.1 HR.out.2.2.2 ?_
    · intro x cs hK
      obtain rfl := k61_open hK
      exact k61_mkM _ _ _ x
    intro v1 w1 ho hbl hg _
    have HO := Lib.hid (And.intro (RowPr.of_R ho) (Upd.of_grown (S := fun k => (Value.slice A xs.length xs.length).ownBlock = some k) hg (fun k hk => hk)))
    obtain ⟨A1, c1, e1⟩ := own_slice HO.out.1
    have hln : (xs ++ [p]).length = xs.length + 1 := by simp
    rw [hln] at e1
    subst e1
    clear ho hbl hg
    go_wp2
    go_ret
    exact ⟨_, rfl, HO.out.1, HO.out.2⟩
  · rcases A with _ | ad
    · exact absurd (hnil rfl) hcn
    · go_enter Tryz.func80, Tryz.ntmps80
      go_wp2_with (first | ((with_reducible refine gate_builtin (b := .append) (xs := #[.tmp 23, .tmp 24]) rfl ?_); at_builtin; refine stop_append rfl ?_))
      refine Lib.hid ?_
      refine Kd.R_append_rows k61 (w0 := w) (Rr := k61.K w) base (by rfl) (.tmp 23) (.tmp 24) 39 61 (.agg #[.string ⟨#[]⟩, .int .u64 0]) 24 (by rfl) Tryz.underlying39 info61 rfl (by decide) (by decide) (.slice (some ad) xs.length c) xs [p] (some ⟨vb, 0, none⟩) 1 1 (fun _ => True) (fun _ => False) (by rfl) (by rfl) HR.out.1 HR.out.2.1 ?_ (fun _ h => h.elim) (fun _ _ => trivial) (Below.refl _ _) HR.out.2.2.1 HR.out.2.2.2 ?_
      · intro x cs hK
        obtain rfl := k61_open hK
        exact k61_mkM _ _ _ x
      intro v1 w1 ho hbl hg _
      have HO := Lib.hid (And.intro (RowPr.of_R ho) (Upd.of_grown (S := fun k => (Value.slice (some ad) xs.length c).ownBlock = some k) hg (fun k hk => hk)))
      obtain ⟨A1, c1, e1⟩ := own_slice HO.out.1
      have hln : (xs ++ [p]).length = xs.length + 1 := by simp
      rw [hln] at e1
      subst e1
      clear ho hbl hg
      go_wp2
      go_ret
      exact ⟨_, rfl, HO.out.1, HO.out.2⟩
theorem own_some {w : World} {base c : Nat} {A : Option Addr} {xs : List S61} (h : RowPr w base (.slice A xs.length c) xs) (hn : 0 < xs.length) : ∃ g, A = some ⟨g, 0, none⟩ ∧ base ≤ g ∧ g < w.heap.size := by
  rcases h.2 with ⟨e, h0⟩ | ⟨g', cap', cur, e, hb, hh, _⟩
  · omega
  · injection e with e
    exact ⟨g', e, hb, (Array.getElem?_eq_some_iff.1 hh).1⟩
theorem pinsert_any {w : World} {base c vb : Nat} {A : Option Addr} {xs : List S61} (p : S61) (h : RowPr w base (.slice A xs.length c) xs) (hbase : base ≤ w.heap.size) (hv : Blk w vb 61 #[.string p.f0, .int .u64 p.f1]) (hne : (Value.slice A xs.length c).ownBlock ≠ some vb) {i : Nat} (hi : i ≤ xs.length) (hbig : (xs.length + 1) * 24 ≤ 140737488355328) :
    Calls Tryz.prog 80 #[.slice A xs.length c, .int .i64 (i : Int), .slice (some ⟨vb, 0, none⟩) 1 1] w fun e w' => ∃ v, e = .returned v ∧ RowPr w' base v (insAt xs i p) ∧ Upd w w' (fun k => (Value.slice A xs.length c).ownBlock = some k) := by
  rcases Nat.lt_or_ge i xs.length with hlt | hge
  · obtain ⟨g, rfl, hg, hgl⟩ := own_some h (by omega)
    have hvg : vb ≠ g := fun e => hne (by simp [Value.ownBlock, e])
    rcases Nat.lt_or_ge c (xs.length + 1) with hc | hc
    · exact (pinsert_grow p h hv hlt hc hbig).mono fun e w' ⟨v, he, ho, hb⟩ => ⟨v, he, RowPr.lower ho hbase, Upd.of_below hb _⟩
    · exact (pinsert_room p h hv hvg hlt hc).mono fun e w' ⟨he, ho, hu⟩ => ⟨_, he, by have := ho; rwa [← insAt_len xs hi p] at this ⊢, hu.mono fun k _ e => by simp [Value.ownBlock, e]⟩
  · obtain rfl : i = xs.length := by omega
    have e : insAt xs xs.length p = xs ++ [p] := by unfold insAt; rw [List.take_length, List.drop_length]
    rw [e]
    exact pinsert_end p h hbase hv hbig
def doW (d : List S61) (x : S69) : List S61 := (if x.f2 = true then delL (d.map toA) x.f0 else putL (d.map toA) x.f0 x.f1).map ofA
def applyT (d : List S61) (l : List S69) : List S61 := l.foldl doW d
theorem map_toA_ofA (l : List (ByteArray × Int)) : (l.map ofA).map toA = l := by rw [List.map_map]; exact List.map_id' l
theorem map_ofA_toA (l : List S61) : (l.map toA).map ofA = l := by rw [List.map_map]; exact List.map_id' l
theorem doW_sort {d : List S61} (h : SortK (d.map toA)) (x : S69) : SortK ((doW d x).map toA) := by
  unfold doW
  rw [map_toA_ofA]
  split
  · exact h.del _
  · exact h.put _ _
theorem doW_len {d : List S61} (h : SortK (d.map toA)) (x : S69) : (doW d x).length ≤ d.length + 1 := by
  unfold doW
  rw [List.length_map]
  split
  · have h1 : (delL (d.map toA) x.f0).length ≤ (d.map toA).length := List.length_filter_le _ _
    rw [List.length_map] at h1; omega
  · have h1 := putL_len h x.f0 x.f1
    rw [List.length_map] at h1
    split at h1 <;> omega
theorem applyT_sort : ∀ (l : List S69) {d : List S61}, SortK (d.map toA) → SortK ((applyT d l).map toA)
  | [], _, h => h
  | x :: l, _, h => applyT_sort l (doW_sort h x)
theorem applyT_len : ∀ (l : List S69) {d : List S61}, SortK (d.map toA) → (applyT d l).length ≤ d.length + l.length
  | [], _, _ => Nat.le_refl _
  | x :: l, d, h => by
    have h1 := applyT_len l (doW_sort h x)
    have h2 := doW_len h x
    have e : applyT d (x :: l) = applyT (doW d x) l := rfl
    rw [e, List.length_cons]; omega
theorem applyT_snoc (l : List S69) (x : S69) (d : List S61) : applyT d (l ++ [x]) = doW (applyT d l) x := by unfold applyT; rw [List.foldl_append]; rfl
theorem AtK.tail {x : S61} {xs : List S61} {k : ByteArray} {i : Nat} (h : AtK (x :: xs) k (i + 1)) : AtK xs k i :=
  ⟨by have := h.le; rw [List.length_cons] at this; omega, fun q y hq hy => h.low (q + 1) y (by omega) (by simpa using hy), fun q y hq hy => h.high (q + 1) y (by omega) (by simpa using hy)⟩
theorem put_ins : ∀ (xs : List S61) (k : ByteArray) (v : Int) (i : Nat), AtK xs k i → foundK xs k i = false → (putL (xs.map toA) k v).map ofA = insAt xs i ⟨k, v⟩
  | [], k, v, i, h, _ => by
    have : i = 0 := by have := h.le; simpa using this
    subst this; rfl
  | x :: xs, k, v, 0, h, hf => by
    have h1 := h.high 0 x (Nat.le_refl _) rfl
    have h2 : x.f0 ≠ k := by simpa [foundK] using hf
    rw [List.map_cons, putL, if_neg (by show ¬ klt x.f0 k = true; rw [h1]; simp), if_neg (by exact h2)]
    show _ :: (toA x :: xs.map toA).map ofA = _
    rw [List.map_cons, map_ofA_toA]; rfl
  | x :: xs, k, v, i + 1, h, hf => by
    have h1 := h.low 0 x (Nat.succ_pos _) rfl
    rw [List.map_cons, putL, if_pos (by exact h1), List.map_cons, put_ins xs k v i h.tail (by simpa [foundK] using hf)]; rfl
theorem put_set : ∀ (xs : List S61) (k : ByteArray) (v : Int) (i : Nat), AtK xs k i → foundK xs k i = true → (putL (xs.map toA) k v).map ofA = xs.set i ⟨k, v⟩
  | [], k, v, i, h, hf => by simp [foundK] at hf
  | x :: xs, k, v, 0, h, hf => by
    have h1 := h.high 0 x (Nat.le_refl _) rfl
    have h2 : x.f0 = k := by simpa [foundK] using hf
    rw [List.map_cons, putL, if_neg (by show ¬ klt x.f0 k = true; rw [h1]; simp), if_pos (by exact h2)]
    show _ :: (xs.map toA).map ofA = _
    rw [map_ofA_toA]; rfl
  | x :: xs, k, v, i + 1, h, hf => by
    have h1 := h.low 0 x (Nat.succ_pos _) rfl
    rw [List.map_cons, putL, if_pos (by exact h1), List.map_cons, put_set xs k v i h.tail (by simpa [foundK] using hf)]; rfl
theorem del_none {xs : List S61} {k : ByteArray} {i : Nat} (hs : SortK (xs.map toA)) (h : AtK xs k i) (hf : foundK xs k i = false) : (delL (xs.map toA) k).map ofA = xs := by
  have : delL (xs.map toA) k = xs.map toA := List.filter_eq_self.2 fun y hy => by
    obtain ⟨x, hx, rfl⟩ := List.mem_map.1 hy
    obtain ⟨q, hq⟩ := List.mem_iff_getElem?.1 hx
    have hne : x.f0 ≠ k := fun e => by
      rcases Nat.lt_trichotomy q i with h1 | h1 | h1
      · have := h.low q x h1 hq; rw [e, klt_irrefl] at this; cases this
      · subst h1; unfold foundK at hf; rw [hq] at hf; simp [e] at hf
      · obtain ⟨y, hyy⟩ : ∃ y, xs[i]? = some y := ⟨_, List.getElem?_eq_getElem (by have := (List.getElem?_eq_some_iff.1 hq).1; omega)⟩
        have h2 := h.high i y (Nat.le_refl _) hyy
        unfold SortK at hs
        rw [List.pairwise_map] at hs
        obtain ⟨hq1, rfl⟩ := List.getElem?_eq_some_iff.1 hq
        obtain ⟨hi1, rfl⟩ := List.getElem?_eq_some_iff.1 hyy
        have h3 := List.pairwise_iff_getElem.1 hs i q hi1 hq1 h1
        rw [show (toA xs[q]).1 = k from e] at h3
        rw [show klt xs[i].f0 k = true from h3] at h2
        cases h2
    exact decide_eq_true hne
  rw [this, map_ofA_toA]
theorem del_erase : ∀ (xs : List S61) (k : ByteArray) (i : Nat), SortK (xs.map toA) → AtK xs k i → foundK xs k i = true → (delL (xs.map toA) k).map ofA = xs.eraseIdx i
  | [], k, i, _, h, hf => by simp [foundK] at hf
  | x :: xs, k, 0, hs, h, hf => by
    have h2 : x.f0 = k := by simpa [foundK] using hf
    have : delL ((x :: xs).map toA) k = xs.map toA := by
      unfold delL
      rw [List.map_cons, List.filter_cons_of_neg (by show ¬ decide (¬ x.f0 = k) = true; simp [h2])]
      refine List.filter_eq_self.2 fun y hy => ?_
      have := klt_ne (hs.head y hy)
      rw [show (toA x).1 = k from h2] at this
      exact decide_eq_true (fun e => this e.symm)
    rw [this, map_ofA_toA]; rfl
  | x :: xs, k, i + 1, hs, h, hf => by
    have h1 := klt_ne (h.low 0 x (Nat.succ_pos _) rfl)
    have ih := del_erase xs k i hs.tail h.tail (by simpa [foundK] using hf)
    unfold delL at ih ⊢
    rw [List.map_cons, List.filter_cons_of_pos (by exact decide_eq_true h1), List.map_cons, ih]; rfl
end Go.Proofs.YtgmlenpcchhmbaaGreat.P
end
section
set_option linter.unusedVariables false
set_option linter.unusedSimpArgs false
namespace Go.Proofs.YtgmlenpcchhmbaaGreat.P
theorem bl_snoc0 : ∀ (a b : List UInt8), Op.bytesLess a (b ++ [0]) = true → Op.bytesLess a b = false → a = b
  | [], [], _, _ => rfl
  | [], _ :: _, _, h => by simp [Op.bytesLess] at h
  | x :: xs, [], h, _ => by
    rw [List.nil_append, bl_cons, bl_nil, Bool.and_false, Bool.or_false, decide_eq_true_eq] at h
    exact absurd h (by simp [UInt8.lt_iff_toNat_lt])
  | x :: xs, y :: bs, h, g => by
    rw [List.cons_append, bl_cons] at h
    rw [bl_cons] at g
    simp only [Bool.or_eq_true, Bool.and_eq_true, Bool.or_eq_false_iff, Bool.and_eq_false_iff, decide_eq_true_eq, decide_eq_false_iff_not, beq_iff_eq] at h g
    rcases h with h | ⟨h1, h2⟩
    · exact absurd h g.1
    · rcases g.2 with g2 | g2
      · subst h1; simp at g2
      · rw [h1, bl_snoc0 xs bs h2 g2]
theorem bl_self0 : ∀ a : List UInt8, Op.bytesLess a (a ++ [0]) = true
  | [] => rfl
  | x :: xs => by rw [List.cons_append, bl_cons, bl_self0 xs]; simp
theorem hasS_one (k x : ByteArray) : hasS ⟨k, k ++ (⟨#[0]⟩ : ByteArray)⟩ x = decide (x = k) := by
  have hd : (k ++ (⟨#[0]⟩ : ByteArray)).data.toList = k.data.toList ++ [0] := by rw [ByteArray.data_append, Array.toList_append]
  have hne : ¬ k ++ (⟨#[0]⟩ : ByteArray) = emptyB := fun e => by
    have := congrArg (fun b => b.data.toList.length) e
    simp only [hd, List.length_append] at this
    simp [emptyB] at this
  unfold hasS
  simp only [hne, decide_false, Bool.false_or]
  unfold klt
  rw [hd]
  by_cases e : x = k
  · subst e
    rw [bl_irrefl, bl_self0]; simp
  · rw [decide_eq_false e]
    cases h1 : Op.bytesLess x.data.toList k.data.toList with
    | true => rfl
    | false =>
      cases h2 : Op.bytesLess x.data.toList (k.data.toList ++ [0]) with
      | false => rfl
      | true => exact absurd (ba_ext (bl_snoc0 _ _ h2 h1)) e
def Cov (d0 : List (ByteArray × Int)) (s : St) : Prop := ∀ k, getL s.c k = none → getL s.d k = getL d0 k
theorem Cov.put {d0 : List (ByteArray × Int)} {s : St} (h : Cov d0 s) (k : ByteArray) (n : Int) : Cov d0 (s.put k n) := fun x hx => by
  unfold St.put at hx ⊢
  simp only [getL_put] at hx ⊢
  by_cases e : x = k
  · rw [if_pos e] at hx; cases hx
  · rw [if_neg e] at hx ⊢; exact h x hx
theorem Cov.drop {d0 : List (ByteArray × Int)} {s : St} (h : Cov d0 s) (k : ByteArray) : Cov d0 (s.drop k) := fun x hx => by
  unfold St.drop at hx ⊢
  simp only [getL_put, getL_del] at hx ⊢
  by_cases e : x = k
  · rw [if_pos e] at hx; cases hx
  · rw [if_neg e] at hx ⊢; exact h x hx
theorem Cov.step {d0 : List (ByteArray × Int)} {s : St} (h : Cov d0 s) (o : S63) : Cov d0 (stepS o s) := by
  unfold stepS
  repeat' split
  all_goals first | exact h | exact h.put _ _ | exact h.drop _ | exact (h.put _ _).put _ _
theorem Cov.run {d0 : List (ByteArray × Int)} : ∀ (l : List S63) {s : St}, Cov d0 s → Cov d0 (runS l s)
  | [], _, h => h
  | o :: l, _, h => Cov.run l (h.step o)
def wrT (sd : List (ByteArray × Int)) (x : ByteArray × Bool) : S69 := ⟨x.1, (getL sd x.1).getD 0, (getL sd x.1).isNone⟩
theorem getL_doW (sd : List (ByteArray × Int)) (x : ByteArray × Bool) (d : List S61) (k : ByteArray) : getL ((doW d (wrT sd x)).map toA) k = if k = x.1 then getL sd k else getL (d.map toA) k := by
  unfold doW wrT
  rw [map_toA_ofA]
  simp only
  cases h : getL sd x.1 with
  | none =>
    rw [if_pos (show (none : Option Int).isNone = true from rfl), getL_del]
    by_cases e : k = x.1
    · rw [if_pos e, if_pos e, e, h]
    · rw [if_neg e, if_neg e]
  | some v =>
    rw [if_neg (by simp), getL_put]
    by_cases e : k = x.1
    · rw [if_pos e, if_pos e, e, h]; rfl
    · rw [if_neg e, if_neg e]
theorem getL_apply (sd : List (ByteArray × Int)) : ∀ (c : List (ByteArray × Bool)) (d : List S61) (k : ByteArray), getL ((applyT d (c.map (wrT sd))).map toA) k = if (getL c k).isSome then getL sd k else getL (d.map toA) k
  | [], d, k => by rw [getL_nil]; rfl
  | x :: r, d, k => by
    show getL ((applyT (doW d (wrT sd x)) (r.map (wrT sd))).map toA) k = _
    rw [getL_apply sd r, getL_doW, getL_cons]
    by_cases e : x.1 = k
    · rw [if_pos e, if_pos e.symm, if_pos (show (some x.2).isSome = true from rfl)]; simp
    · rw [if_neg e, if_neg (Ne.symm e)]
theorem apply_writes {d0 : List S61} (hs : SortK (d0.map toA)) {s : St} (hok : s.ok) (hc : Cov (d0.map toA) s) : applyT d0 (writesT s) = s.d.map ofA := by
  have e : (applyT d0 (writesT s)).map toA = s.d := by
    refine sort_ext (applyT_sort _ hs) hok.1 fun k => ?_
    rw [show writesT s = s.c.map (wrT s.d) from rfl, getL_apply]
    cases h : getL s.c k with
    | none => exact (hc k h).symm
    | some v => rfl
  rw [← e, map_ofA_toA]
theorem cov_start {d : List S61} (h : SortK (d.map toA)) : Cov (d.map toA) (startT d) := fun k _ => by
  show getL (mapT d) k = _
  rw [mapT_id h]
theorem putL_le2 {V : Type} : ∀ (l : List (ByteArray × V)) (k : ByteArray) (v : V), (putL l k v).length ≤ l.length + 1
  | [], _, _ => Nat.le_refl _
  | x :: r, k, v => by
    rw [putL]
    have := putL_le2 r k v
    repeat' split
    all_goals simp only [List.length_cons] at *; omega
theorem delL_le2 {V : Type} (l : List (ByteArray × V)) (k : ByteArray) : (delL l k).length ≤ l.length := List.length_filter_le _ _
theorem St.put_le (s : St) (k : ByteArray) (n : Int) : (s.put k n).d.length ≤ s.d.length + 1 ∧ (s.put k n).c.length ≤ s.c.length + 1 := ⟨putL_le2 _ _ _, putL_le2 _ _ _⟩
theorem St.drop_le (s : St) (k : ByteArray) : (s.drop k).d.length ≤ s.d.length + 1 ∧ (s.drop k).c.length ≤ s.c.length + 1 := ⟨Nat.le_succ_of_le (delL_le2 _ _), putL_le2 _ _ _⟩
theorem stepS_le (o : S63) (s : St) : (stepS o s).d.length ≤ s.d.length + 2 ∧ (stepS o s).c.length ≤ s.c.length + 2 := by
  unfold stepS
  repeat' split
  · have := St.put_le s o.f1 o.f3; omega
  · have := St.put_le s o.f1 (addN (s.at o.f1) o.f3); omega
  · have := St.drop_le s o.f1; omega
  · have h1 := St.put_le s o.f1 (addN (s.at o.f1) (negN o.f3))
    have h2 := St.put_le (s.put o.f1 (addN (s.at o.f1) (negN o.f3))) o.f2 (addN ((s.put o.f1 (addN (s.at o.f1) (negN o.f3))).at o.f2) o.f3)
    omega
  · omega
  · omega
theorem runS_le : ∀ (l : List S63) (s : St), (runS l s).d.length ≤ s.d.length + 2 * l.length ∧ (runS l s).c.length ≤ s.c.length + 2 * l.length
  | [], s => ⟨Nat.le_refl _, Nat.le_refl _⟩
  | o :: l, s => by
    have h1 := runS_le l (stepS o s)
    have h2 := stepS_le o s
    show (runS l (stepS o s)).d.length ≤ _ ∧ (runS l (stepS o s)).c.length ≤ _
    rw [List.length_cons]
    omega
def KeysD (d : List (ByteArray × Int)) : Prop := ∀ x ∈ d, x.1.size ≤ 16
theorem KeysD.put {d : List (ByteArray × Int)} (h : KeysD d) {k : ByteArray} (hk : k.size ≤ 16) (n : Int) : KeysD (putL d k n) := fun x hx => by
  rcases mem_putL hx with rfl | hx
  · exact hk
  · exact h x hx
theorem KeysD.del {d : List (ByteArray × Int)} (h : KeysD d) (k : ByteArray) : KeysD (delL d k) := fun x hx => h x (List.mem_filter.1 hx).1
theorem KeysD.step {s : St} (h : KeysD s.d) {o : S63} (h1 : o.f1.size ≤ 16) (h2 : o.f2.size ≤ 16) : KeysD (stepS o s).d := by
  unfold stepS
  repeat' split
  all_goals first | exact h | exact h.put h1 _ | exact h.del _ | exact (h.put h1 _).put h2 _
theorem KeysD.run : ∀ (l : List S63) {s : St}, KeysD s.d → (∀ o ∈ l, o.f1.size ≤ 16 ∧ o.f2.size ≤ 16) → KeysD (runS l s).d
  | [], _, h, _ => h
  | o :: l, _, h, ho => KeysD.run l (h.step (ho o (List.mem_cons_self ..)).1 (ho o (List.mem_cons_self ..)).2) (fun x hx => ho x (List.mem_cons_of_mem _ hx))
end Go.Proofs.YtgmlenpcchhmbaaGreat.P
end
section
set_option linter.unusedVariables false
set_option linter.unusedSimpArgs false
namespace Go.Proofs.YtgmlenpcchhmbaaGreat.P
def ptS (k : ByteArray) : S71 := ⟨k, k ++ (⟨#[0]⟩ : ByteArray)⟩
def spO (o : S63) : List S71 := if o.f0 = 2 then [⟨o.f1, o.f2⟩] else if o.f0 = 6 then [ptS o.f1, ptS o.f2] else [ptS o.f1]
def setSp (ks : List Int) (l : List S63) : List S71 := (l.filter fun o => ks.contains o.f0).flatMap spO
theorem getL_filter {V : Type} (p : ByteArray → Bool) : ∀ (l : List (ByteArray × V)) (k : ByteArray), getL (l.filter fun x => p x.1) k = if p k = true then getL l k else none
  | [], k => by simp [getL_nil]
  | x :: l, k => by
    rw [List.filter_cons]
    have ih := getL_filter p l k
    by_cases h : p x.1 = true
    · rw [if_pos h, getL_cons, getL_cons, ih]
      by_cases e : x.1 = k
      · rw [if_pos e, if_pos e, ← e, if_pos h]
      · rw [if_neg e, if_neg e]
    · rw [if_neg h, ih, getL_cons]
      by_cases e : x.1 = k
      · rw [← e, if_neg h, if_neg h]
      · rw [if_neg e]
theorem pick_map (l : List S71) (d : List (ByteArray × Int)) : pickT l (d.map ofA) = (d.filter fun x => hasSs l x.1).map ofA := by
  unfold pickT
  rw [List.filter_map]
  rfl
structure Agree (R : List S71) (s s' : St) : Prop where
  ok : s.ok
  ok' : s'.ok
  c : s.c = s'.c
  d : ∀ k, hasSs R k = true ∨ (getL s.c k).isSome = true → getL s.d k = getL s'.d k
theorem Agree.put {R : List S71} {s s' : St} (h : Agree R s s') (k : ByteArray) (n : Int) : Agree R (s.put k n) (s'.put k n) := by
  refine ⟨St.ok_put h.ok k n, St.ok_put h.ok' k n, by unfold St.put; rw [h.c], fun x hx => ?_⟩
  unfold St.put at hx ⊢
  simp only [getL_put] at hx ⊢
  by_cases e : x = k
  · rw [if_pos e, if_pos e]
  · rw [if_neg e] at hx
    rw [if_neg e, if_neg e]; exact h.d x hx
theorem Agree.drop {R : List S71} {s s' : St} (h : Agree R s s') (k : ByteArray) : Agree R (s.drop k) (s'.drop k) := by
  refine ⟨St.ok_drop h.ok k, St.ok_drop h.ok' k, by unfold St.drop; rw [h.c], fun x hx => ?_⟩
  unfold St.drop at hx ⊢
  simp only [getL_put, getL_del] at hx ⊢
  by_cases e : x = k
  · rw [if_pos e, if_pos e]
  · rw [if_neg e] at hx
    rw [if_neg e, if_neg e]; exact h.d x hx
theorem Agree.at_ {R : List S71} {s s' : St} (h : Agree R s s') {k : ByteArray} (hk : hasSs R k = true) : s.at k = s'.at k ∧ s.has k = s'.has k := by
  have := h.d k (.inl hk)
  unfold St.at St.has
  rw [this]
  exact ⟨rfl, rfl⟩
theorem Agree.pick {R : List S71} {s s' : St} (h : Agree R s s') (sp : S71) (hk : ∀ k, hasS sp k = true → hasSs R k = true) : pickT [sp] (s.d.map ofA) = pickT [sp] (s'.d.map ofA) := by
  rw [pick_map, pick_map]
  congr 1
  refine sort_ext (h.ok.1.filter _) (h.ok'.1.filter _) fun k => ?_
  rw [getL_filter, getL_filter]
  by_cases e : hasSs [sp] k = true
  · rw [if_pos e, if_pos e]
    rw [hasSs_one] at e
    exact h.d k (.inl (hk k e))
  · rw [if_neg e, if_neg e]
def Needs (R : List S71) (o : S63) : Prop := (o.f0 = 1 ∨ o.f0 = 4 ∨ o.f0 = 5 ∨ o.f0 = 6 → hasSs R o.f1 = true) ∧ (o.f0 = 6 → hasSs R o.f2 = true) ∧ (o.f0 = 2 → ∀ k, hasS ⟨o.f1, o.f2⟩ k = true → hasSs R k = true)
theorem Agree.step {R : List S71} {s s' : St} (h : Agree R s s') {o : S63} (hn : Needs R o) : Agree R (stepS o s) (stepS o s') ∧ stepA o s = stepA o s' := by
  by_cases h1 : o.f0 = 1
  · obtain ⟨e1, e2⟩ := h.at_ (hn.1 (.inl h1))
    simp only [stepS, stepA, h1, e1, e2]
    exact ⟨h, rfl⟩
  by_cases h2 : o.f0 = 2
  · have e := h.pick ⟨o.f1, o.f2⟩ (hn.2.2 h2)
    simp only [stepS, stepA, h2, e]
    exact ⟨h, rfl⟩
  by_cases h3 : o.f0 = 3
  · simp only [stepS, stepA, h3]
    exact ⟨h.put _ _, rfl⟩
  by_cases h4 : o.f0 = 4
  · obtain ⟨e1, e2⟩ := h.at_ (hn.1 (.inr (.inl h4)))
    simp only [stepS, stepA, h4, e1, e2]
    exact ⟨h.put _ _, rfl⟩
  by_cases h5 : o.f0 = 5
  · obtain ⟨e1, e2⟩ := h.at_ (hn.1 (.inr (.inr (.inl h5))))
    simp only [stepS, stepA, h5, e1, e2]
    exact ⟨h.drop _, rfl⟩
  by_cases h6 : o.f0 = 6
  · obtain ⟨e1, e2⟩ := h.at_ (hn.1 (.inr (.inr (.inr h6))))
    have hp := h.put o.f1 (addN (s'.at o.f1) (negN o.f3))
    obtain ⟨e3, e4⟩ := hp.at_ (hn.2.1 h6)
    by_cases hg : (geN (s'.at o.f1) o.f3 && geN o.f3 0) = true
    · simp only [stepS, stepA, h6, e1, hg, e3]
      exact ⟨hp.put _ _, rfl⟩
    · simp only [stepS, stepA, h6, e1, hg]
      exact ⟨h, rfl⟩
  · unfold stepS stepA
    rw [if_neg h3, if_neg h4, if_neg h5, if_neg h6, if_neg h3, if_neg h4, if_neg h5, if_neg h6, if_neg h1, if_neg h2, if_neg h3, if_neg h4, if_neg h5, if_neg h6, if_neg h1, if_neg h2, if_neg h3, if_neg h4, if_neg h5, if_neg h6]
    exact ⟨h, rfl⟩
theorem Agree.run {R : List S71} : ∀ (l : List S63) {s s' : St}, Agree R s s' → (∀ o ∈ l, Needs R o) → Agree R (runS l s) (runS l s') ∧ runA l s = runA l s'
  | [], _, _, h, _ => ⟨h, rfl⟩
  | o :: l, s, s', h, hn => by
    obtain ⟨h1, h2⟩ := h.step (hn o (List.mem_cons_self ..))
    obtain ⟨g1, g2⟩ := Agree.run l h1 (fun x hx => hn x (List.mem_cons_of_mem _ hx))
    exact ⟨g1, by show stepA o s :: runA l _ = stepA o s' :: runA l _; rw [h2, g2]⟩
theorem Agree.writes {R : List S71} {s s' : St} (h : Agree R s s') : writesT s = writesT s' := by
  unfold writesT
  rw [← h.c]
  refine List.map_congr_left fun x hx => ?_
  have : getL s.d x.1 = getL s'.d x.1 := h.d x.1 (.inr (by rw [(getL_some h.ok.2.1 (k := x.1) (v := x.2)).2 hx]; rfl))
  rw [this]
end Go.Proofs.YtgmlenpcchhmbaaGreat.P
end
section
set_option linter.unusedVariables false
set_option linter.unusedSimpArgs false
namespace Go.Proofs.YtgmlenpcchhmbaaGreat.P
open Go.RowKit Go.Sort Go.Shelf Go.Proofs.YtgmlenpcchhmbaaGreatW.PrintWords Go.Proofs.YtgmlenpcchhmbaaGreatW.PrintLast Go.Proofs.YtgmlenpcchhmbaaGreatW.PrintMore
instance : Inhabited S71 := ⟨z71⟩
abbrev encSp (a : S71) : List Value := [.string a.f0, .string a.f1]
def cmpSp (a b : S71) : Int := kcmp a.f0 b.f0
theorem ltOf_cmpSp (x y : S71) : ltOf cmpSp x y = klt x.f0 y.f0 := kcmp_lt _ _
theorem swoSp : SWO (ltOf cmpSp) where
  irrefl x := by rw [ltOf_cmpSp, klt_irrefl]
  trans x y z h1 h2 := by rw [ltOf_cmpSp] at *; exact klt_trans h1 h2
  ntrans x y z h1 h2 := by
    rw [ltOf_cmpSp] at *
    rcases klt_tri x.f0 z.f0 with h | h | h
    · rcases klt_tri x.f0 y.f0 with g | g | g
      · rw [g] at h1; cases h1
      · rw [g] at h; rw [h] at h2; cases h2
      · have := klt_trans g h; rw [this] at h2; cases h2
    · rw [h, klt_irrefl]
    · exact klt_asymm h
theorem union1_any (a b : S71) (w : World) : Calls Tryz.prog 135 #[.agg #[.string a.f0, .string a.f1], .agg #[.string b.f0, .string b.f1]] w fun e w' => e = .returned (.int .i64 (cmpSp a b)) ∧ ∃ q os', w' = grow (w.drewN q) os' := by
  obtain ⟨w1, hw1⟩ : ∃ w1, (w.alloc (.cells #[.string a.f0, .string a.f1] 71)).alloc (.cells #[.string b.f0, .string b.f1] 71) = w1 := ⟨_, rfl⟩
  have hA : Blk w1 w.heap.size 71 #[.string a.f0, .string a.f1] := hw1 ▸ (Blk.new w 71 _).alloc _
  have hB : Blk w1 (w.heap.size + 1) 71 #[.string b.f0, .string b.f1] := by
    have := Blk.new (w.alloc (.cells #[.string a.f0, .string a.f1] 71)) 71 #[.string b.f0, .string b.f1]
    rw [hw1] at this
    simpa using this
  have a0 : w1.cell? ⟨w.heap.size, 0, none⟩ = some (.string a.f0) := hA.cell 0
  have b0 : w1.cell? ⟨w.heap.size + 1, 0, none⟩ = some (.string b.f0) := hB.cell 0
  have HC := Lib.hid (sCompare_any a.f0 b.f0 w1)
  clear hA hB
  unfold cmpSp
  generalize kcmp a.f0 b.f0 = z at *
  go_enter Tryz.func135, Tryz.ntmps135
  go_wp2_with fail
  refine HC.out.mono ?_
  rintro e w2 ⟨rfl, rfl⟩
  go_wp2
  go_ret
  exact ⟨rfl, 0, _, by rw [← hw1, alloc_eq_grow, alloc_eq_grow, grow_grow]; rfl⟩
def emptyS (s : S71) : Bool := decide (s.f1 ≠ emptyB) && !klt s.f0 s.f1
theorem empty_any (s : S71) (w : World) : Calls Tryz.prog 133 #[.agg #[.string s.f0, .string s.f1]] w fun e w' => e = .returned (.bool (emptyS s)) ∧ Below w.heap.size w w' := by
  obtain ⟨w1, hw1⟩ : ∃ w1, w.alloc (.cells #[.string s.f0, .string s.f1] 71) = w1 := ⟨_, rfl⟩
  have hb : Below w.heap.size w w1 := hw1 ▸ (Below.refl _ _).alloc (Nat.le_refl _) _
  have hT : Blk w1 w.heap.size 71 #[.string s.f0, .string s.f1] := hw1 ▸ Blk.new w 71 _
  have t0 : w1.cell? ⟨w.heap.size, 0, none⟩ = some (.string s.f0) := hT.cell 0
  have t1 : w1.cell? ⟨w.heap.size, 1, none⟩ = some (.string s.f1) := hT.cell 1
  have HB := Lib.hid hb; clear hb hT
  obtain ⟨v, hv⟩ : ∃ v, emptyS s = v := ⟨_, rfl⟩
  rw [hv]
  go_enter Tryz.func133, Tryz.ntmps133
  by_cases he : s.f1 = emptyB
  · have e1 : s.f1.toList.isEmpty = true := by rw [(toList_nil _).2 he]; rfl
    obtain rfl : v = false := by rw [← hv]; unfold emptyS; simp [he]
    clear he hv
    go_wp2
    go_ret
    exact ⟨rfl, HB.out⟩
  · have e1 : s.f1.toList.isEmpty = false := by
      cases h : s.f1.toList with
      | nil => exact absurd ((toList_nil _).1 h) he
      | cons x l => rfl
    obtain rfl : v = !klt s.f0 s.f1 := by rw [← hv]; unfold emptyS; simp [he]
    clear he hv
    go_wp2
    go_ret
    refine ⟨?_, HB.out⟩
    show Ending.returned (.bool (Op.bytesLess s.f1.toList s.f0.toList || s.f1.toList == s.f0.toList)) = _
    rw [bl_tot, klt_list]
theorem flat_encSp (xs : List S71) : flatK encSp 2 xs.toArray = (enc2 (xs.map pSp)).toArray := by
  refine ext_get! (by simp [enc2_len]) fun t ht => ?_
  have ht' : t < xs.length * 2 := by simpa using ht
  rw [get_flatK _ _ _ _ (by simpa using ht')]
  have hj : t / 2 < xs.length := by omega
  have h := enc2_at (xs.map pSp) (t / 2)
  rw [List.getElem?_map, List.getElem?_eq_getElem hj] at h
  have e : (xs.toArray)[t / 2]! = xs[t / 2] := by simp [hj]
  rw [e]
  rcases Nat.mod_two_eq_zero_or_one t with h2 | h2
  · have e2 : t / 2 * 2 = t := by omega
    rw [e2] at h
    rw [h2]
    simp [h.1]
  · have e2 : t / 2 * 2 + 1 = t := by omega
    rw [e2] at h
    rw [h2]
    simp [h.2]
theorem putCells_take (F : Array Value) (c : Array Value) (h : F.size ≤ c.size) : (putCells id 0 F c).size = c.size ∧ (putCells id 0 F c).toList.take F.size = F.toList := by
  refine ⟨by simp [putCells], ?_⟩
  apply List.ext_getElem
  · simp [putCells, h]
  · intro i h1 h2
    have hi : i < F.size := by simpa using h2
    simp [putCells, hi]
theorem heap_sortSp {w : World} {g n : Nat} {cur : Array Value} {e : TypeId} {d : Array S71} {os : Array Obj} (hg : w.heap[g]? = some (.cells cur e (0, 0))) :
    (sortWorldK encSp 2 w g 0 n d os).heap[g]? = some (.cells (putCells id 0 (flatK encSp 2 d) cur) e (0, 0)) := by
  have hlt := (Array.getElem?_eq_some_iff.1 hg).1
  unfold sortWorldK putRowK putRow mapBlock grow
  simp only [heap_ahead]
  rw [Array.getElem?_append_left (by simpa using hlt), Array.getElem?_modify, if_pos rfl, hg]
  rfl
theorem upd_sortSp (w : World) (g n : Nat) (d : Array S71) (os : Array Obj) : Upd w (sortWorldK encSp 2 w g 0 n d os) (· = g) := by
  refine ⟨rfl, rfl, rfl, ?_, fun k hk hs => ?_⟩
  · unfold sortWorldK putRowK; rw [size_grow, size_putRow]; exact Nat.le_add_right _ _
  · unfold sortWorldK putRowK putRow mapBlock grow
    simp only [heap_ahead]
    rw [Array.getElem?_append_left (by simpa using hk), Array.getElem?_modify, if_neg (fun e => hs e.symm)]
theorem aggSp (w : World) : (isAgg 71).run Tryz.prog w = .ok true w := by go_simp
theorem sizeSp (w : World) : (Go.sizeOf 71).run Tryz.prog w = .ok 2 w := by go_simp
def RiseOf (xs ys : List S71) : Prop := ys.Perm xs ∧ ys.Pairwise fun x y => klt y.f0 x.f0 = false
theorem sortSp_any {base : Nat} {v : Value} {xs : List S71} {w : World} (ho : RowSp w base v xs) (hl : xs.length < 4611686018427387904) :
    Calls Tryz.prog 134 #[v, .func (.func 135) #[] #[]] w fun e w' => e = .returned (.tuple #[]) ∧ ∃ ys, RiseOf xs ys ∧ RowSp w' base v ys ∧ Upd w w' (fun k => v.ownBlock = some k) := by
  rcases ho.2 with ⟨rfl, h0⟩ | ⟨g, cap, cur, rfl, hb, hg, h1, h2, h3, h4⟩
  · obtain rfl : xs = [] := List.eq_nil_of_length_eq_zero h0
    exact (AnyF.slices_SortFunc_none Tryz.shSortF none 0 _ w).mono fun e w' ⟨he, hw⟩ => ⟨he, [], ⟨List.Perm.refl _, List.Pairwise.nil⟩, by rw [hw]; exact ho, by rw [hw]; exact Upd.refl _ _⟩
  · have eg : ∀ args w, (callFunc 135 args).run Tryz.prog w = .ok (.enter 135 args) w := enters_of Tryz.func135 (by kernel_rfl) rfl
    have hH : HoldsK encSp 2 w g 0 xs.toArray := by
      unfold HoldsK
      rw [flat_encSp]
      intro j hj
      have hj' : j < xs.length * 2 := by simpa [enc2_len] using hj
      rw [Nat.zero_add]
      refine ⟨?_, World.ownsRow.frozenAt ho j⟩
      rw [World.ownsRow.cellAt ho j hj', List.getElem?_eq_getElem (by rw [enc2_len, List.length_map]; exact hj')]
      simp [enc2_len, hj']
    have hcmp : CmpLays Tryz.prog 135 #[] encSp 2 cmpSp g 0 xs.toArray.size w := fun _ _ _ _ x y => union1_any x y _
    refine (AnyQ.slices_SortFunc Tryz.shSortF 2 aggSp sizeSp encSp (fun _ => rfl) (fun x v hv => by simp at hv; rcases hv with rfl | rfl <;> rfl) cmpSp swoSp 135 #[] g 0 cap xs.toArray w eg hcmp hH (Array.getElem?_eq_some_iff.1 hg).1 (by simpa using hl)).mono fun e w' ⟨he, d', n, os, hp, hs, hw⟩ => ⟨he, ?_⟩
    obtain ⟨ys, rfl⟩ : ∃ ys : List S71, d' = ys.toArray := ⟨d'.toList, by simp⟩
    have hm : ys.length = xs.length := by simpa using hp.1
    refine ⟨ys, ⟨?_, ?_⟩, ?_, ?_⟩
    · have h := hp.2.2
      have e1 : (ys.toArray).extract 0 xs.toArray.size = ys.toArray := by simp [← hm]
      have e2 : (xs.toArray).extract 0 xs.toArray.size = xs.toArray := by simp
      rw [e1, e2] at h
      exact h
    · refine List.pairwise_iff_getElem.2 fun i j hi hj hij => ?_
      have h := hs i j (Nat.zero_le _) hij (by simpa [← hm] using hj)
      rw [ltOf_cmpSp] at h
      simpa [hi, hj] using h
    · refine ⟨by rw [enc2_len, List.length_map], .inr ⟨g, cap, _, by rw [hm], hb, by rw [hw]; exact heap_sortSp hg, by rw [hm]; exact h1, h2, ?_, ?_⟩⟩
      · rw [(putCells_take _ _ ?_).1]; exact h3
        simp [h3]; omega
      · have := (putCells_take (flatK encSp 2 ys.toArray) cur (by simp [h3, hm]; omega)).2
        rw [size_flatK, flat_encSp] at this
        rw [hm]
        show List.take _ (putCells id 0 (flatK encSp 2 ys.toArray) cur).toList = _
        rw [flat_encSp]
        simpa [hm] using this
    · rw [hw]
      exact (upd_sortSp w g n _ os).mono fun k _ hk => by simp [Value.ownBlock, hk]
end Go.Proofs.YtgmlenpcchhmbaaGreat.P
end
section
set_option linter.unusedVariables false
set_option linter.unusedSimpArgs false
namespace Go.Proofs.YtgmlenpcchhmbaaGreat.P
open Go.RowKit Go.Sort Go.Shelf Go.Proofs.YtgmlenpcchhmbaaGreatW.PrintWords Go.Proofs.YtgmlenpcchhmbaaGreatW.PrintLast Go.Proofs.YtgmlenpcchhmbaaGreatW.PrintMore
theorem max_str (e f : ByteArray) (ats : Array TypeId) (ty : TypeId) (w : World) : (Builtin.max_ ats ty #[.string e, .string f]).run Tryz.prog w = .ok (.string (if klt e f = true then f else e)) w := by
  rw [max_two]
  have hs : Op.stringOp .geq e f = pure (.bool (!Op.bytesLess e.toList f.toList)) := rfl
  simp only [Builtin.max2, hs, klt_list]
  cases klt e f <;> rfl
theorem most_any (e f : ByteArray) (w : World) : Calls Tryz.prog 136 #[.string e, .string f] w fun x w' => x = .returned (.string (mostE e f)) ∧ w' = w := by
  obtain ⟨v, hv⟩ : ∃ v, mostE e f = v := ⟨_, rfl⟩
  rw [hv]
  have hb : klt e f = Op.bytesLess e.toList f.toList := (klt_list e f).symm
  by_cases he : e = emptyB
  · have e1 : e.toList.isEmpty = true := by rw [(toList_nil _).2 he]; rfl
    obtain rfl : v = emptyB := by rw [← hv]; unfold mostE; simp [he]
    clear he hv hb
    go_enter Tryz.func136, Tryz.ntmps136
    go_wp2
    go_ret
    exact ⟨rfl, rfl⟩
  · have e1 : e.toList.isEmpty = false := by
      cases h : e.toList with
      | nil => exact absurd ((toList_nil _).1 h) he
      | cons x l => rfl
    by_cases hf : f = emptyB
    · have f1 : f.toList.isEmpty = true := by rw [(toList_nil _).2 hf]; rfl
      obtain rfl : v = emptyB := by rw [← hv]; unfold mostE; simp [hf]
      clear he hv hb hf
      go_enter Tryz.func136, Tryz.ntmps136
      go_wp2
      go_ret
      exact ⟨rfl, rfl⟩
    · have f1 : f.toList.isEmpty = false := by
        cases h : f.toList with
        | nil => exact absurd ((toList_nil _).1 h) hf
        | cons x l => rfl
      have hm : v = if klt e f = true then f else e := by rw [← hv]; unfold mostE; rw [if_neg (by rintro (h | h); exact he h; exact hf h)]
      have hmx := max_str e f
      rw [← hm] at hmx
      clear he hv hf hm hb
      go_enter Tryz.func136, Tryz.ntmps136
      go_wp2
      go_ret
      exact ⟨rfl, rfl⟩
theorem RowSp.storeTo {w : World} {base g n cap : Nat} {xs : List (S71)} (h : RowSp w base (.slice (some ⟨g, 0, none⟩) n cap) xs) (i : Nat) (s : S71) (hx : xs[i]? = some s) (v : ByteArray) :
    RowSp (w.setCell ⟨g, i * 2 + 1, none⟩ (.string v)) base (.slice (some ⟨g, 0, none⟩) n cap) (xs.set i ⟨s.f0, v⟩) := by
  obtain rfl : n = xs.length := by
    obtain ⟨_, _, e⟩ := own_slice h
    injection e
  have hE := (enc2_at (xs.map pSp) i).1
  rw [List.getElem?_map, hx] at hE
  have hs : (enc2 (xs.map pSp)).set (i * 2) (.string s.f0) = enc2 (xs.map pSp) := by
    apply List.ext_getElem?
    intro j
    rw [List.getElem?_set]
    by_cases e : i * 2 = j
    · subst e
      rw [if_pos rfl, hE]
      have := (List.getElem?_eq_some_iff.1 hE).1
      rw [if_pos this]; rfl
    · rw [if_neg e]
  have h2 := (World.ownsRow.stored h (i * 2 + 1) (.string v)).1
  rw [← hs, enc2_set] at h2
  unfold RowSp
  rw [List.length_set, List.map_set]
  exact h2
theorem stepU_le (out : List S71) (s : S71) : (stepU out s).length ≤ out.length + 1 := by
  rcases List.eq_nil_or_concat out with rfl | ⟨init, t, rfl⟩
  · exact Nat.le_refl _
  · rw [List.concat_eq_append]
    unfold stepU
    simp only [List.getLast?_append, List.getLast?_singleton, Option.some_or]
    split
    · simp
    · simp
theorem foldU_le : ∀ (l out : List S71), (l.foldl stepU out).length ≤ out.length + l.length
  | [], _ => Nat.le_refl _
  | s :: l, out => by
    have h1 := foldU_le l (stepU out s)
    have h2 := stepU_le out s
    rw [List.foldl_cons, List.length_cons]; omega
def unionT (l : List S71) : List S71 := mergeU ((l.filter fun x => !emptyS x).mergeSort fun x y => !klt y.f0 x.f0)
theorem hasSs_perm {a b : List S71} (h : a.Perm b) (k : ByteArray) : hasSs a k = hasSs b k := by
  unfold hasSs
  rw [Bool.eq_iff_iff, List.any_eq_true, List.any_eq_true]
  exact ⟨fun ⟨x, hx, e⟩ => ⟨x, h.mem_iff.1 hx, e⟩, fun ⟨x, hx, e⟩ => ⟨x, h.mem_iff.2 hx, e⟩⟩
theorem hasSs_filter (l : List S71) (k : ByteArray) : hasSs (l.filter fun x => !emptyS x) k = hasSs l k := by
  unfold hasSs
  rw [Bool.eq_iff_iff, List.any_eq_true, List.any_eq_true]
  constructor
  · rintro ⟨x, hx, e⟩; exact ⟨x, (List.mem_filter.1 hx).1, e⟩
  · rintro ⟨x, hx, e⟩
    refine ⟨x, List.mem_filter.2 ⟨hx, ?_⟩, e⟩
    obtain ⟨h1, h2⟩ := (hasS_iff x k).1 e
    have : noneS x = false := by
      rw [noneS_false]
      rcases h2 with h2 | h2
      · exact .inl h2
      · exact .inr (kle_klt h1 h2)
    have e2 : emptyS x = noneS x := rfl
    rw [e2, this]; rfl
theorem unionT_of {l ys : List S71} (hp : ys.Perm (l.filter fun x => !emptyS x)) (hr : ys.Pairwise fun x y => klt y.f0 x.f0 = false) : CanonU (unionT l) ∧ (∀ k, hasSs (unionT l) k = hasSs l k) ∧ mergeU ys = unionT l := by
  have hn : ∀ zs : List S71, zs.Perm (l.filter fun x => !emptyS x) → ∀ s ∈ zs, noneS s = false := fun zs h s hs => by
    have := (List.mem_filter.1 (h.mem_iff.1 hs)).2
    have e2 : emptyS s = noneS s := rfl
    rw [e2] at this
    simpa using this
  have hpm : ((l.filter fun x => !emptyS x).mergeSort fun x y => !klt y.f0 x.f0).Perm (l.filter fun x => !emptyS x) := List.mergeSort_perm _ _
  have hsm : ((l.filter fun x => !emptyS x).mergeSort fun x y => !klt y.f0 x.f0).Pairwise fun x y => klt y.f0 x.f0 = false := by
    have := List.pairwise_mergeSort (le := fun (x y : S71) => !klt y.f0 x.f0) (fun a b c h1 h2 => by
      simp only [Bool.not_eq_true'] at *
      exact kle_trans h1 h2) (fun a b => by
      cases h : klt b.f0 a.f0 with
      | false => rfl
      | true => simp [klt_asymm h]) (l.filter fun x => !emptyS x)
    exact this.imp fun h => by simpa using h
  obtain ⟨c1, h1⟩ := merge_ok (hn _ hpm) hsm
  obtain ⟨c2, h2⟩ := merge_ok (hn _ hp) hr
  refine ⟨c1, fun k => by rw [unionT, h1, hasSs_perm hpm, hasSs_filter], canon_ext c2 c1 fun k => ?_⟩
  rw [h2]
  unfold unionT
  rw [h1, hasSs_perm hp, hasSs_perm hpm]
set_option maxHeartbeats 8000000 in
set_option maxRecDepth 100000 in
theorem union_any (A : Option Addr) (c : Nat) (l : List S71) (w : World) (hr : Kd.C k71 w A l.length l) (hb : l.length * 32 ≤ 140737488355328) :
    Calls Tryz.prog 88 #[.slice A l.length c] w fun e w' => ∃ v, e = .returned v ∧ RowSp w' w.heap.size v (unionT l) ∧ Below w.heap.size w w' := by
  have HC := Lib.hid (cloneSp_any A c l w hr hb)
  have HB := Lib.hid hb
  clear hr hb
  go_enter Tryz.func88, Tryz.ntmps88
  go_wp2_with fail
  refine HC.out.mono ?_
  rintro e w1 ⟨v1, rfl, ho1, hb1⟩
  have eg : ∀ args w, (callFunc 133 args).run Tryz.prog w = .ok (.enter 133 args) w := enters_of Tryz.func133 (by kernel_rfl) rfl
  have HD := Lib.hid (delSp_own 133 #[] #[] emptyS eg w.heap.size v1 l w1 w ho1 hb1 hb1.size (fun W s _ _ => empty_any s W))
  obtain ⟨A1, c1, rfl⟩ := own_slice ho1
  clear ho1 hb1 eg
  go_wp2_with fail
  refine HD.out.mono ?_
  rintro e w2 ⟨v2, rfl, ho2, hb2, _, _⟩
  have hl2 : (l.filter fun x => !emptyS x).length ≤ l.length := List.length_filter_le _ _
  obtain ⟨ls, hls⟩ : ∃ ls, (l.filter fun x => !emptyS x) = ls := ⟨_, rfl⟩
  rw [hls] at ho2 hl2
  have HS := Lib.hid (sortSp_any ho2 (by have := HB.out; omega))
  have hbase : ∀ k, v2.ownBlock = some k → w.heap.size ≤ k := fun k hk => own_base ho2 k hk
  obtain ⟨A2, c2, rfl⟩ := own_slice ho2
  have H2 := Lib.hid (And.intro hb2 hbase)
  clear ho2 hb2 hbase
  go_wp2_with fail
  refine HS.out.mono ?_
  rintro e w3 ⟨rfl, ys, hys, ho3, hu3⟩
  have hb3 : Below w.heap.size w w3 := H2.out.1.trans (hu3.below H2.out.1.size (fun k hk e => by have := H2.out.2 k e; omega))
  have hyl : ys.length = ls.length := hys.1.length_eq
  rw [← hyl] at ho3 ⊢
  have H3 := Lib.hid (And.intro hys (And.intro ho3 hb3))
  clear hys ho3 hb3 hu3
  go_wp2_with fail
  go_loopw [2, 4, 5, 13, 14, 39] (fun so _ _ i _ _ wq => ∃ (k : Nat) (out : List S71) (A7 : Option Addr) (c7 : Nat), so = .slice A7 out.length c7 ∧ i = .int .i64 k ∧ k ≤ ys.length ∧ RowKit.Hid (out = (ys.take k).foldl stepU [] ∧ RowSp wq w3.heap.size (.slice A7 out.length c7) out ∧ Below w3.heap.size w3 wq)) (fun _ _ _ i _ _ _ => ys.length - (intOf i).toNat)
  case atStart => exact ⟨0, [], none, 0, rfl, rfl, Nat.zero_le _, Lib.hid ⟨rfl, own_nil _ _ _ _, Below.refl _ _⟩⟩
  case round =>
    obtain ⟨k, out, A7, c7, rfl, rfl, hk, HR⟩ := hrel
    rename World => wq
    by_cases hlt : k < ys.length
    · have hst : (ys.take (k + 1)).foldl stepU [] = stepU out ys[k] := by rw [List.take_succ_eq_append_getElem hlt, List.foldl_append, ← HR.out.1]; rfl
      obtain ⟨g, rfl⟩ : ∃ g, A2 = some ⟨g, 0, none⟩ := by
        rcases H3.out.2.1.2 with ⟨e, _⟩ | ⟨g, cap, cur, e, _⟩
        · injection e with _ e _; omega
        · injection e with e _ _; exact ⟨g, e⟩
      have hrow : RowSp wq w.heap.size (.slice (some ⟨g, 0, none⟩) ys.length c2) ys := pw_own_below H3.out.2.1 HR.out.2.2
      obtain ⟨d0, d1, z0, z1⟩ := hrow.at_ k ys[k] (List.getElem?_eq_getElem hlt)
      obtain ⟨s0, hs0⟩ : ∃ x, ys[k].f0 = x := ⟨_, rfl⟩
      obtain ⟨s1, hs1⟩ : ∃ x, ys[k].f1 = x := ⟨_, rfl⟩
      rw [hs0] at d0
      rw [hs1] at d1
      have hsk : ys[k] = ⟨s0, s1⟩ := by rw [← hs0, ← hs1]
      rw [hsk] at hst
      have HN := Lib.hid hst
      clear hst hs0 hs1 hsk hrow
      have hrow7 := HR.out.2.1
      have hbq := HR.out.2.2
      have hob := HR.out.1
      have hol : out.length ≤ k := by
        have := foldU_le (ys.take k) []
        rw [hob]
        simp only [List.length_nil, List.length_take] at this
        omega
      obtain ⟨W1, hW1⟩ : ∃ W1, wq.alloc (.cells #[.string s0, .string s1] 71) = W1 := ⟨_, rfl⟩
      have hb1 : Below wq.heap.size wq W1 := hW1 ▸ (Below.refl _ _).alloc (Nat.le_refl _) _
      have hB1 : Blk W1 wq.heap.size 71 #[.string s0, .string s1] := hW1 ▸ Blk.new wq 71 _
      have b0 : W1.cell? ⟨wq.heap.size, 0, none⟩ = some (.string s0) := hB1.cell 0
      have b1 : W1.cell? ⟨wq.heap.size, 1, none⟩ = some (.string s1) := hB1.cell 1
      have hrow1 : RowSp W1 w3.heap.size (.slice A7 out.length c7) out := pw_own_below hrow7 hb1
      have hbW : Below w3.heap.size w3 W1 := hbq.trans (hb1.mono hbq.size)
      have HK := Lib.hid (And.intro hrow1 (And.intro hbW (And.intro hB1 (And.intro hol hob))))
      clear hrow7 hbq hob hol hb1 hB1 hrow1 hbW HR
      have hkl : k < l.length := by omega
      have HLT := Lib.hid (And.intro hlt hyl)
      have hkb : k < 4611686018427387904 := by have := HB.out; omega
      have hw1 : wrap64 ((k : Int) + 1) = (k : Int) + 1 := by unfold wrap64; omega
      by_cases hnil : out = []
      · have hw : wrap64 ((out.length : Int) - 1) = -1 := by rw [hnil]; show wrap64 (((0 : Nat) : Int) - 1) = -1; unfold wrap64; omega
        have HAP := Lib.hid (show stepU out ⟨s0, s1⟩ = out ++ [⟨s0, s1⟩] by rw [hnil]; rfl)
        clear hnil
        go_wp2_with fail
        refine wp_region_held (S := (fun W => Below W1.heap.size W1 W ∧ W.cell? ⟨wq.heap.size, 0, none⟩ = some (.string s0) ∧ W.cell? ⟨wq.heap.size, 1, none⟩ = some (.string s1))) (by kernel_rfl) ?_
        simp only [List.size_toArray, List.length_cons, List.length_nil, Nat.zero_add, Nat.reduceAdd]
        have hHeld : ((fun W => Below W1.heap.size W1 W ∧ W.cell? ⟨wq.heap.size, 0, none⟩ = some (.string s0) ∧ W.cell? ⟨wq.heap.size, 1, none⟩ = some (.string s1))) W1.drew := ⟨below_drew (Below.refl _ _), b0, b1⟩
        refine tk_ 0 hHeld ?_
        refine tk_ 1 hHeld ?_
        refine tk_ 2 hHeld ?_
        refine tf_ 3 hHeld ?_
        refine tf_ 4 hHeld ?_
        refine tf_ 5 hHeld ?_
        refine tf_ 6 hHeld ?_
        refine tf_ 7 hHeld ?_
        refine tf_ 8 hHeld ?_
        refine tf_ 9 hHeld ?_
        refine tf_ 10 hHeld ?_
        refine tf_ 11 hHeld ?_
        refine tf_ 12 hHeld ?_
        refine tf_ 13 hHeld ?_
        refine tf_ 14 hHeld ?_
        refine tf_ 15 hHeld ?_
        refine tf_ 16 hHeld ?_
        refine tf_ 17 hHeld ?_
        refine tf_ 18 hHeld ?_
        refine tk_ 19 hHeld ?_
        refine wpAnyH_done (by kernel_rfl) ?_ _
        obtain ⟨hq1, hq2, hq3⟩ := hHeld
        have hHeld := And.intro hq1 hq2
        go_wp2_with (first | ((with_reducible refine gate_builtin (b := .append) (xs := #[.tmp 52, .tmp 54]) rfl ?_); at_builtin; refine stop_append rfl ?_))
        refine Lib.hid ?_
        have HB9 := Lib.hid (HK.out.2.1.trans (hHeld.1.mono HK.out.2.1.size))
        refine Kd.R_append k71 (w0 := w3) w3.heap.size rfl (.tmp 52) (.tmp 54) 40 71 (.agg #[.string ⟨#[]⟩, .string ⟨#[]⟩]) 32 rfl Tryz.underlying40 info71 rfl (by decide) (by decide) (.slice _ out.length c7) out ⟨s0, s1⟩ [.string s0, .string s1] (fun _ => True) (fun _ => False) rfl rfl (k71_mkM _ _ _ _) (fun _ h => h.elim) (fun _ _ => trivial) (RowSp.R (pw_own_below HK.out.1 hHeld.1)) HB9.out HB9.out.size (by have := HK.out.2.2.2.1; have := HB.out; omega) ?_
        intro v9 w9 hS9 hB9 hg9 hat9
        obtain ⟨A9, c9, e9⟩ := Kd.R_slice hS9
        have HN9 := Lib.hid (And.intro (RowSp.of_R hS9) hB9)
        rw [e9] at HN9
        rw [e9]
        clear hS9 hB9 hg9 hat9 e9
        go_wp2_with fail
        go_roundw
        case rel => exact ⟨k + 1, out ++ [⟨s0, s1⟩], A9, c9, by rw [List.length_append]; rfl, by go_num, by have := HLT.out.1; omega, Lib.hid ⟨by rw [HN.out, HAP.out], HN9.out.1, HN9.out.2⟩⟩
        case measure => (have := HLT.out; simp [intOf]; omega)
      · obtain ⟨init, t, hit⟩ : ∃ init t, out = init ++ [t] := by
          rcases List.eq_nil_or_concat out with h | ⟨init, t, h⟩
          · exact absurd h hnil
          · exact ⟨init, t, by rw [h, List.concat_eq_append]⟩
        obtain ⟨m, hm⟩ : ∃ m, init.length = m := ⟨_, rfl⟩
        have hlen : out.length = m + 1 := by rw [hit, List.length_append, hm]; rfl
        have hw : wrap64 ((out.length : Int) - 1) = (m : Int) := by have := HK.out.2.2.2.1; have := HB.out; unfold wrap64; omega
        have g0 : (0 : Int) ≤ (m : Int) := by omega
        have g1 : (m : Int) < (out.length : Int) := by omega
        obtain ⟨go, rfl⟩ : ∃ g, A7 = some ⟨g, 0, none⟩ := by
          rcases HK.out.1.2 with ⟨e, _⟩ | ⟨g, cap, cur, e, _⟩
          · injection e with _ e _; omega
          · injection e with e _ _; exact ⟨g, e⟩
        have ht : out[m]? = some t := by rw [hit, ← hm]; simp
        obtain ⟨o0, o1, y0, y1⟩ := HK.out.1.at_ m t ht
        obtain ⟨t0, ht0⟩ : ∃ x, t.f0 = x := ⟨_, rfl⟩
        obtain ⟨t1, ht1⟩ : ∃ x, t.f1 = x := ⟨_, rfl⟩
        rw [ht1] at o1
        have hst : stepU out ⟨s0, s1⟩ = if joinS t ⟨s0, s1⟩ = true then init ++ [⟨t0, mostE t1 s1⟩] else out ++ [⟨s0, s1⟩] := by
          rw [hit, ← ht0, ← ht1]; unfold stepU; simp
        have hj : joinS t ⟨s0, s1⟩ = (decide (t1 = emptyB) || !klt t1 s0) := by rw [← ht1]; rfl
        rw [hj] at hst
        have HI := Lib.hid (And.intro hit (And.intro hm (And.intro ht0 ht1)))
        have HST := Lib.hid hst
        clear hit hm ht0 ht1 hst hj ht hnil hlen o0 y0
        by_cases he : t1 = emptyB
        · have e1 : t1.toList.isEmpty = true := by rw [(toList_nil _).2 he]; rfl
          have HAP := Lib.hid (show stepU out ⟨s0, s1⟩ = init ++ [⟨t0, mostE t1 s1⟩] by rw [HST.out, if_pos (by simp [he])])
          have HMS := Lib.hid (most_any t1 s1)
          clear he
          go_wp2_with fail
          refine wp_region_held (S := (fun W => Below W1.heap.size W1 W ∧ W.cell? ⟨wq.heap.size, 0, none⟩ = some (.string s0) ∧ W.cell? ⟨wq.heap.size, 1, none⟩ = some (.string s1) ∧ W.cell? ⟨go, m * 2 + 1, none⟩ = some (.string t1))) (by kernel_rfl) ?_
          simp only [List.size_toArray, List.length_cons, List.length_nil, Nat.zero_add, Nat.reduceAdd]
          have hHeld : ((fun W => Below W1.heap.size W1 W ∧ W.cell? ⟨wq.heap.size, 0, none⟩ = some (.string s0) ∧ W.cell? ⟨wq.heap.size, 1, none⟩ = some (.string s1) ∧ W.cell? ⟨go, m * 2 + 1, none⟩ = some (.string t1))) W1.drew := ⟨below_drew (Below.refl _ _), b0, b1, o1⟩
          refine tk_ 0 hHeld ?_
          refine tk_ 1 hHeld ?_
          refine tk_ 2 hHeld ?_
          refine tk_ 3 hHeld ?_
          refine tk_ 4 hHeld ?_
          refine tk_ 5 hHeld ?_
          refine tk_ 6 hHeld ?_
          refine tk_ 7 hHeld ?_
          refine tk_ 8 hHeld ?_
          refine tk_ 9 hHeld ?_
          refine tf_ 10 hHeld ?_
          refine tf_ 11 hHeld ?_
          refine tf_ 12 hHeld ?_
          refine tf_ 13 hHeld ?_
          refine tf_ 14 hHeld ?_
          refine tf_ 15 hHeld ?_
          refine tf_ 16 hHeld ?_
          refine tf_ 17 hHeld ?_
          refine tk_ 18 hHeld ?_
          refine tk_ 19 hHeld ?_
          refine wpAnyH_done (by kernel_rfl) ?_ _
          obtain ⟨hq1, hq2, hq3, hq4⟩ := hHeld
          go_upto_region 8 with fail
          refine wp_region_last1_held (S := (fun W => Below W1.heap.size W1 W ∧ W.cell? ⟨wq.heap.size, 0, none⟩ = some (.string s0) ∧ W.cell? ⟨wq.heap.size, 1, none⟩ = some (.string s1) ∧ W.cell? ⟨go, m * 2 + 1, none⟩ = some (.string t1))) (l := [_, _, _, _, _, _, _, _, _, _, _, _]) (o := _) (by kernel_rfl) (by kernel_rfl) ?_
          simp only [List.size_toArray, List.length_cons, List.length_nil, Nat.zero_add, Nat.reduceAdd]
          have hHeld : ((fun W => Below W1.heap.size W1 W ∧ W.cell? ⟨wq.heap.size, 0, none⟩ = some (.string s0) ∧ W.cell? ⟨wq.heap.size, 1, none⟩ = some (.string s1) ∧ W.cell? ⟨go, m * 2 + 1, none⟩ = some (.string t1))) W1.drew.drew := ⟨below_drew hq1, hq2, hq3, hq4⟩
          refine tk_ 0 hHeld ?_
          refine tk_ 1 hHeld ?_
          refine tk_ 2 hHeld ?_
          refine tk_ 3 hHeld ?_
          refine tk_ 4 hHeld ?_
          refine tk_ 5 hHeld ?_
          refine tk_ 6 hHeld ?_
          refine tk_ 7 hHeld ?_
          refine tk_ 8 hHeld ?_
          refine wpAnyH_ready (rs := [9]) (by kernel_rfl) (by simp) ?_
          refine (AllReadyH.cons rfl (fun K hK => ?_) AllReadyH.nil)
          go_simp
          refine (most_any t1 s1 _).mono ?_
          rintro e wn ⟨rfl, rfl⟩
          refine hK.out _ _ ?_ (fun hHeld => ?_)
          · exact hHeld
          clear hK K
          try simp only [List.getElem_toArray, List.getElem_cons_succ, List.getElem_cons_zero, Act.put, List.setIfInBounds_toArray, List.set_cons_zero, List.set_cons_succ]
          refine tk_ 10 hHeld ?_
          refine tk_ 11 hHeld ?_
          refine wpAnyH_done (by kernel_rfl) ?_ _
          refine lastPost_wp ?_
          clear hHeld hq1 hq2 hq3 hq4
          go_wp2
          go_roundw
          case rel =>
            have htm : out[m]? = some t := by rw [HI.out.1, ← HI.out.2.1]; simp
            have hU : out.set m ⟨t0, mostE t1 s1⟩ = init ++ [⟨t0, mostE t1 s1⟩] := by rw [HI.out.1, ← HI.out.2.1]; simp
            have hlen : out.length = (init ++ [(⟨t0, mostE t1 s1⟩ : S71)]).length := by rw [HI.out.1]; simp
            have hst := RowSp.storeTo HK.out.1 m t htm (mostE t1 s1)
            rw [HI.out.2.2.1, hU, hlen] at hst
            refine ⟨k + 1, init ++ [(⟨t0, mostE t1 s1⟩ : S71)], some ⟨go, 0, none⟩, c7, by rw [hlen], by go_num, by have := HLT.out.1; omega, Lib.hid ⟨by rw [HN.out, HAP.out], pw_own_below hst (below_drew (below_drew (Below.refl _ _))), below_drew (below_drew (HK.out.2.1.setCell (own_base HK.out.1 go rfl) _))⟩⟩
          case measure => (have := HLT.out; simp [intOf]; omega)
        · have e1 : t1.toList.isEmpty = false := by
            cases h : t1.toList with
            | nil => exact absurd ((toList_nil _).1 h) he
            | cons x l => rfl
          have hk2 : klt t1 s0 = Op.bytesLess t1.toList s0.toList := (klt_list t1 s0).symm
          cases hj : klt t1 s0 with
          | false =>
            have HAP := Lib.hid (show stepU out ⟨s0, s1⟩ = init ++ [⟨t0, mostE t1 s1⟩] by rw [HST.out, if_pos (by simp [hj])])
            rw [hj] at hk2
            have hbl := hk2.symm
            clear he hk2 hj
            go_wp2_with fail
            refine wp_region_held (S := (fun W => Below W1.heap.size W1 W ∧ W.cell? ⟨wq.heap.size, 0, none⟩ = some (.string s0) ∧ W.cell? ⟨wq.heap.size, 1, none⟩ = some (.string s1) ∧ W.cell? ⟨go, m * 2 + 1, none⟩ = some (.string t1))) (by kernel_rfl) ?_
            simp only [List.size_toArray, List.length_cons, List.length_nil, Nat.zero_add, Nat.reduceAdd]
            have hHeld : ((fun W => Below W1.heap.size W1 W ∧ W.cell? ⟨wq.heap.size, 0, none⟩ = some (.string s0) ∧ W.cell? ⟨wq.heap.size, 1, none⟩ = some (.string s1) ∧ W.cell? ⟨go, m * 2 + 1, none⟩ = some (.string t1))) W1.drew := ⟨below_drew (Below.refl _ _), b0, b1, o1⟩
            refine tk_ 0 hHeld ?_
            refine tk_ 1 hHeld ?_
            refine tk_ 2 hHeld ?_
            refine tk_ 3 hHeld ?_
            refine tk_ 4 hHeld ?_
            refine tk_ 5 hHeld ?_
            refine tk_ 6 hHeld ?_
            refine tk_ 7 hHeld ?_
            refine tk_ 8 hHeld ?_
            refine tk_ 9 hHeld ?_
            refine tk_ 10 hHeld ?_
            refine tk_ 11 hHeld ?_
            refine tk_ 12 hHeld ?_
            refine tk_ 13 hHeld ?_
            refine tk_ 14 hHeld ?_
            refine tk_ 15 hHeld ?_
            refine tk_ 16 hHeld ?_
            refine tk_ 17 hHeld ?_
            refine tk_ 18 hHeld ?_
            refine tk_ 19 hHeld ?_
            refine wpAnyH_done (by kernel_rfl) ?_ _
            obtain ⟨hq1, hq2, hq3, hq4⟩ := hHeld
            go_upto_region 8 with fail
            refine wp_region_last1_held (S := (fun W => Below W1.heap.size W1 W ∧ W.cell? ⟨wq.heap.size, 0, none⟩ = some (.string s0) ∧ W.cell? ⟨wq.heap.size, 1, none⟩ = some (.string s1) ∧ W.cell? ⟨go, m * 2 + 1, none⟩ = some (.string t1))) (l := [_, _, _, _, _, _, _, _, _, _, _, _]) (o := _) (by kernel_rfl) (by kernel_rfl) ?_
            simp only [List.size_toArray, List.length_cons, List.length_nil, Nat.zero_add, Nat.reduceAdd]
            have hHeld : ((fun W => Below W1.heap.size W1 W ∧ W.cell? ⟨wq.heap.size, 0, none⟩ = some (.string s0) ∧ W.cell? ⟨wq.heap.size, 1, none⟩ = some (.string s1) ∧ W.cell? ⟨go, m * 2 + 1, none⟩ = some (.string t1))) W1.drew.drew := ⟨below_drew hq1, hq2, hq3, hq4⟩
            refine tk_ 0 hHeld ?_
            refine tk_ 1 hHeld ?_
            refine tk_ 2 hHeld ?_
            refine tk_ 3 hHeld ?_
            refine tk_ 4 hHeld ?_
            refine tk_ 5 hHeld ?_
            refine tk_ 6 hHeld ?_
            refine tk_ 7 hHeld ?_
            refine tk_ 8 hHeld ?_
            refine wpAnyH_ready (rs := [9]) (by kernel_rfl) (by simp) ?_
            refine (AllReadyH.cons rfl (fun K hK => ?_) AllReadyH.nil)
            go_simp
            refine (most_any t1 s1 _).mono ?_
            rintro e wn ⟨rfl, rfl⟩
            refine hK.out _ _ ?_ (fun hHeld => ?_)
            · exact hHeld
            clear hK K
            try simp only [List.getElem_toArray, List.getElem_cons_succ, List.getElem_cons_zero, Act.put, List.setIfInBounds_toArray, List.set_cons_zero, List.set_cons_succ]
            refine tk_ 10 hHeld ?_
            refine tk_ 11 hHeld ?_
            refine wpAnyH_done (by kernel_rfl) ?_ _
            refine lastPost_wp ?_
            clear hHeld hq1 hq2 hq3 hq4
            go_wp2
            go_roundw
            case rel =>
              have htm : out[m]? = some t := by rw [HI.out.1, ← HI.out.2.1]; simp
              have hU : out.set m ⟨t0, mostE t1 s1⟩ = init ++ [⟨t0, mostE t1 s1⟩] := by rw [HI.out.1, ← HI.out.2.1]; simp
              have hlen : out.length = (init ++ [(⟨t0, mostE t1 s1⟩ : S71)]).length := by rw [HI.out.1]; simp
              have hst := RowSp.storeTo HK.out.1 m t htm (mostE t1 s1)
              rw [HI.out.2.2.1, hU, hlen] at hst
              refine ⟨k + 1, init ++ [(⟨t0, mostE t1 s1⟩ : S71)], some ⟨go, 0, none⟩, c7, by rw [hlen], by go_num, by have := HLT.out.1; omega, Lib.hid ⟨by rw [HN.out, HAP.out], pw_own_below hst (below_drew (below_drew (Below.refl _ _))), below_drew (below_drew (HK.out.2.1.setCell (own_base HK.out.1 go rfl) _))⟩⟩
            case measure => (have := HLT.out; simp [intOf]; omega)
          | true =>
            have HAP := Lib.hid (show stepU out ⟨s0, s1⟩ = out ++ [⟨s0, s1⟩] by rw [HST.out, if_neg (by simp [hj, he])])
            rw [hj] at hk2
            have hbl := hk2.symm
            clear he hk2 hj
            go_wp2_with fail
            refine wp_region_held (S := (fun W => Below W1.heap.size W1 W ∧ W.cell? ⟨wq.heap.size, 0, none⟩ = some (.string s0) ∧ W.cell? ⟨wq.heap.size, 1, none⟩ = some (.string s1) ∧ W.cell? ⟨go, m * 2 + 1, none⟩ = some (.string t1))) (by kernel_rfl) ?_
            simp only [List.size_toArray, List.length_cons, List.length_nil, Nat.zero_add, Nat.reduceAdd]
            have hHeld : ((fun W => Below W1.heap.size W1 W ∧ W.cell? ⟨wq.heap.size, 0, none⟩ = some (.string s0) ∧ W.cell? ⟨wq.heap.size, 1, none⟩ = some (.string s1) ∧ W.cell? ⟨go, m * 2 + 1, none⟩ = some (.string t1))) W1.drew := ⟨below_drew (Below.refl _ _), b0, b1, o1⟩
            refine tk_ 0 hHeld ?_
            refine tk_ 1 hHeld ?_
            refine tk_ 2 hHeld ?_
            refine tk_ 3 hHeld ?_
            refine tk_ 4 hHeld ?_
            refine tk_ 5 hHeld ?_
            refine tk_ 6 hHeld ?_
            refine tk_ 7 hHeld ?_
            refine tk_ 8 hHeld ?_
            refine tk_ 9 hHeld ?_
            refine tk_ 10 hHeld ?_
            refine tk_ 11 hHeld ?_
            refine tk_ 12 hHeld ?_
            refine tk_ 13 hHeld ?_
            refine tk_ 14 hHeld ?_
            refine tk_ 15 hHeld ?_
            refine tk_ 16 hHeld ?_
            refine tk_ 17 hHeld ?_
            refine tk_ 18 hHeld ?_
            refine tk_ 19 hHeld ?_
            refine wpAnyH_done (by kernel_rfl) ?_ _
            obtain ⟨hq1, hq2, hq3, hq4⟩ := hHeld
            have hHeld := And.intro hq1 hq2
            go_wp2_with (first | ((with_reducible refine gate_builtin (b := .append) (xs := #[.tmp 52, .tmp 54]) rfl ?_); at_builtin; refine stop_append rfl ?_))
            refine Lib.hid ?_
            have HB9 := Lib.hid (HK.out.2.1.trans (hHeld.1.mono HK.out.2.1.size))
            refine Kd.R_append k71 (w0 := w3) w3.heap.size rfl (.tmp 52) (.tmp 54) 40 71 (.agg #[.string ⟨#[]⟩, .string ⟨#[]⟩]) 32 rfl Tryz.underlying40 info71 rfl (by decide) (by decide) (.slice _ out.length c7) out ⟨s0, s1⟩ [.string s0, .string s1] (fun _ => True) (fun _ => False) rfl rfl (k71_mkM _ _ _ _) (fun _ h => h.elim) (fun _ _ => trivial) (RowSp.R (pw_own_below HK.out.1 hHeld.1)) HB9.out HB9.out.size (by have := HK.out.2.2.2.1; have := HB.out; omega) ?_
            intro v9 w9 hS9 hB9 hg9 hat9
            obtain ⟨A9, c9, e9⟩ := Kd.R_slice hS9
            have HN9 := Lib.hid (And.intro (RowSp.of_R hS9) hB9)
            rw [e9] at HN9
            rw [e9]
            clear hS9 hB9 hg9 hat9 e9
            go_wp2_with fail
            go_roundw
            case rel => exact ⟨k + 1, out ++ [⟨s0, s1⟩], A9, c9, by rw [List.length_append]; rfl, by go_num, by have := HLT.out.1; omega, Lib.hid ⟨by rw [HN.out, HAP.out], HN9.out.1, HN9.out.2⟩⟩
            case measure => (have := HLT.out; simp [intOf]; omega)
    · obtain rfl : k = ys.length := by omega
      go_wp2
      go_ret
      rw [List.take_length] at HR
      refine ⟨_, rfl, ?_, H3.out.2.2.trans (HR.out.2.2.mono H3.out.2.2.size)⟩
      have hr := RowSp.lower HR.out.2.1 H3.out.2.2.size
      have hu := (unionT_of (l := l) (hls ▸ H3.out.1.1) H3.out.1.2).2.2
      rw [← hu, show mergeU ys = out from HR.out.1.symm]
      exact hr
def span_Union.f (l : List S71) : Option (List S71) := if l.length ≤ 1000000 then some (unionT l) else none
theorem span_Union.calls (A0 : Option Addr) (c0 : Nat) (l0 : List S71) (r : List S71) (w : World) (hr0 : Kd.C k71 w A0 l0.length l0) (_hc0 : l0.length ≤ c0) (h : span_Union.f l0 = some r) :
    Calls Tryz.prog 88 #[.slice A0 l0.length c0] w fun e w' => ∃ v0_ : Value, e = .returned (v0_) ∧ Kd.R k71 71 w' w.heap.size (fun _ => True) v0_ r ∧ Below w.heap.size w w' := by
  unfold span_Union.f at h
  split at h
  · injection h with h
    subst h
    exact (union_any A0 c0 l0 w hr0 (by omega)).mono fun e w' ⟨v, he, ho, hb⟩ => ⟨v, he, ho.R, hb⟩
  · cases h
end Go.Proofs.YtgmlenpcchhmbaaGreat.P
end
