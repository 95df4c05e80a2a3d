/- A load of many cells in one step, where the operation may stand behind a guard. -/
import Derived.Test.YtdjnjhlgpflcjaaRegion
import Derived.Deep.MidRow
namespace Go.Proofs.Ytdjnjhlgpflcjaa
open Go.RowKit
section
variable {P : Program} {ops : Array Oper} {rest : List Oper} {o : Oper} {a : Act} {w : World} {Q : Exit → Act → World → Prop}

theorem wpl_load_g {j : Nat} {b c : Bool} (hg : o.guard = some (j, b)) (hy : yielded ops a.tmps j = some c) (hc : c = b) (ty : TypeId) (x : Operand) (ho : o.op = .load ty x)
    (g k : Nat) (hx : a.eval x = .pointer (some ⟨g, k, none⟩)) (cs : List Value) (d : TypeDesc) (hr : w.rangeAt g k cs) (hu : P.underlying ty = some d) (hd : d.isRow = true) (hi : (P.info? ty).map (·.size) = some cs.length)
    (h : wpList P ops Q rest (a.put o.dst (.agg cs.toArray)) w) : wpList P ops Q (o :: rest) a w :=
  wpList_step fun K hK => by
    have hw : Region.wanted o (yielded ops a.tmps) = true := by
      subst hc
      simp [Region.wanted, hg, hy]
    rw [if_pos hw]
    exact wp_load_mid ty x ho g k hx cs d hr hu hd hi (hK _ _ h)

theorem wpl_load_p (hg : o.guard = none) (ty : TypeId) (x : Operand) (ho : o.op = .load ty x)
    (g k : Nat) (hx : a.eval x = .pointer (some ⟨g, k, none⟩)) (cs : List Value) (d : TypeDesc) (hr : w.rangeAt g k cs) (hu : P.underlying ty = some d) (hd : d.isRow = true) (hi : (P.info? ty).map (·.size) = some cs.length)
    (h : wpList P ops Q rest (a.put o.dst (.agg cs.toArray)) w) : wpList P ops Q (o :: rest) a w :=
  wpList_load_mid hg ty x ho g k hx cs d hr hu hd hi h
end
theorem Box.range {W : World} {g : Nat} {cs : List Value} (h : Box W g cs) : W.rangeAt g 0 cs := fun j v hv => by
  obtain ⟨hj, hv'⟩ := List.getElem?_eq_some_iff.1 hv
  have := h j hj
  rw [List.getD_eq_getElem?_getD, hv] at this
  rw [Nat.zero_add]
  exact this
/-- A stretch of a block's cells. -/
theorem Box.part {W : World} {g k : Nat} {cs ds : List Value} (h : Box W g cs) (n : Nat) (hd : (cs.drop k).take n = ds) : W.rangeAt g k ds := fun j v hv => by
  subst hd
  have h1 : j < n := by
    obtain ⟨hj, _⟩ := List.getElem?_eq_some_iff.1 hv
    rw [List.length_take] at hj
    omega
  rw [List.getElem?_take, if_pos h1, List.getElem?_drop] at hv
  have := h.range (k + j) v hv
  rwa [Nat.zero_add] at this
end Go.Proofs.Ytdjnjhlgpflcjaa
