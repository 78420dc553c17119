/- Small words over lists of shards and nodes. -/
import Derived.Test.YtmljpidhhiineaaPNew
import Derived.Test.YtmljpidhhiineaaPQu
namespace Go.Proofs.Ytmljpidhhiineaa.P
open Go.RowKit Go.Proofs.YtmljpidhhiineaaW.PrintWords Go.Proofs.YtmljpidhhiineaaW.PrintLast
def cntP (N : List Int) (ns : List Int) : Nat := (ns.filter fun x => decide (x ∈ N)).length
theorem cntP_snoc (N ns : List Int) (x : Int) : cntP N (ns ++ [x]) = cntP N ns + (if x ∈ N then 1 else 0) := by
  unfold cntP
  rw [List.filter_append, List.length_append]
  by_cases h : x ∈ N <;> simp [h]
theorem cntP_le (N ns : List Int) : cntP N ns ≤ ns.length := List.length_filter_le _ _
theorem rd_mem (l : List S40) (p : Int) (h0 : 0 ≤ p) (h1 : p < l.length) : Go.Proofs.Ytmljpidhhiineaa.P.rd_T40 l p ∈ l := by
  unfold Go.Proofs.Ytmljpidhhiineaa.P.rd_T40
  rw [List.getD_eq_getElem?_getD, List.getElem?_eq_getElem (show p.toNat < l.length by omega)]
  exact List.getElem_mem _
end Go.Proofs.Ytmljpidhhiineaa.P
