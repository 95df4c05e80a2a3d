/- Cells of a block, held through a region. -/
import Derived.Test.YtdjnjhlgpflcjaaBox
namespace Go.Proofs.Ytdjnjhlgpflcjaa
open Go.RowKit
theorem Box.one {W0 W : World} {g j : Nat} {cs : List Value} {v : Value} (h : Box W0 g cs) (hv : cs[j]? = some v) (e : Ext W0 W) : W.cell? ⟨g, j, none⟩ = some v := by
  obtain ⟨hj, hv⟩ := List.getElem?_eq_some_iff.1 hv
  have h1 := (h.ext e) j hj
  simp [List.getD, hj, hv] at h1
  exact h1
theorem Box.hold1 {W0 W : World} {g j : Nat} {cs : List Value} {v : Value} (h : Box W0 g cs) (hv : cs[j]? = some v) (e : Ext W0 W) : W.cell? ⟨g, j, none⟩ = some v ∧ Ext W0 W := ⟨h.one hv e, e⟩
theorem Box.three {W0 W : World} {g : Nat} {a b c : Value} (h : Box W0 g [a, b, c]) (e : Ext W0 W) : W.cell? ⟨g, 0, none⟩ = some a ∧ W.cell? ⟨g, 1, none⟩ = some b ∧ W.cell? ⟨g, 2, none⟩ = some c :=
  ⟨h.one (j := 0) rfl e, h.one (j := 1) rfl e, h.one (j := 2) rfl e⟩

section
variable {P : Program} {ops : Array Oper} {rest : List Oper} {o : Oper} {a : Act} {w : World} {Q : Exit → Act → World → Prop}
/-- A new variable. -/
theorem wpl_new (hgd : o.guard = none) (ty : TypeId) (ho : o.op = .alloc ty) (cs : List Value) (hz : (P.info? ty).map (·.zero) = some (some (.agg cs.toArray)))
    (h : ∀ w', BoxF w' w.heap.size cs → Ext w w' → wpList P ops Q rest (a.put o.dst (.pointer (some ⟨w.heap.size, 0, none⟩))) w') : wpList P ops Q (o :: rest) a w := by
  refine wpl_val hgd (v := .pointer (some ⟨w.heap.size, 0, none⟩)) (w' := w.alloc (.cells cs.toArray ty)) ?_ (h _ (BoxF.new w cs ty) ((Ext.refl w).alloc _))
  cases hq : P.info? ty with
  | none => simp [hq] at hz
  | some i =>
    have hs : i.zero = some (.agg cs.toArray) := by simpa [hq] using hz
    unfold execOp
    simp [ho, Instr.alloc, newVar, newRow, zeroValue, typeInfo, hq, hs, Value.cells]
end
end Go.Proofs.Ytdjnjhlgpflcjaa
