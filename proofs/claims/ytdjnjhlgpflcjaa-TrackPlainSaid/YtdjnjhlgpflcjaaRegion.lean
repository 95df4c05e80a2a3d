/- The laws on append at a step of a region that draws its order. -/
import Derived.Test.YtdjnjhlgpflcjaaMem
import Derived.Test.YtdjnjhlgpflcjaaCells
import Derived.Deep.AppendLies
import Derived.Deep.RegionHeld3
namespace Go.Proofs.Ytdjnjhlgpflcjaa
open Go.RowKit

section
variable {P : Program} {w : World} {ops : Array Oper} {o : Oper} {a : Act} {K : Act → World → Prop} {Q : Exit → Act → World → Prop} {E : Prop}

theorem step_append_rd (hT : BT P) {base : Nat} {v vx : Value} {l m : List UInt8} (hown : Own w base v l) (hr : Rd w vx m)
    (hgd : o.guard = none) (s x : Operand) (ho : o.op = .call { callee := .builtin .append, args := #[s, x], argTypes := #[23, 23] })
    (hs : a.eval s = v) (hx : a.eval x = vx) (hlen : l.length + m.length ≤ 100000000) (hbase : base ≤ w.heap.size)
    (h : ∀ v' w', Own w' base v' (l ++ m) → Below base w w' → K (a.put o.dst v') w') : if Region.wanted o (yielded ops a.tmps) = true then Oper.wp P o a w K Q else E := by
  have hw : Region.wanted o (yielded ops a.tmps) = true := by simp [Region.wanted, hgd]
  rw [if_pos hw]
  obtain ⟨v', w', hr, h2, h3⟩ := run_append_rd (P := P) w hT o.type hown hr hlen hbase
  unfold Oper.wp execOp
  simp only [ho, resolve, invoke, builtin, Sem.run_bind, Sem.run_pure, Result.andThen_ok, List.map_toArray, List.map_cons, List.map_nil, hs, hx, hr]
  exact h v' w' h2 h3

theorem step_append_st (hT : BT P) {base : Nat} {v : Value} {l : List UInt8} (sx : ByteArray) (hown : Own w base v l)
    (hgd : o.guard = none) (s x : Operand) (ho : o.op = .call { callee := .builtin .append, args := #[s, x], argTypes := #[23, 9] })
    (hs : a.eval s = v) (hx : a.eval x = .string sx) (hlen : l.length + sx.size ≤ 100000000) (hbase : base ≤ w.heap.size)
    (h : ∀ v' w', Own w' base v' (l ++ sx.data.toList) → Below base w w' → K (a.put o.dst v') w') : if Region.wanted o (yielded ops a.tmps) = true then Oper.wp P o a w K Q else E := by
  have hw : Region.wanted o (yielded ops a.tmps) = true := by simp [Region.wanted, hgd]
  rw [if_pos hw]
  obtain ⟨v', w', hr, h2, h3⟩ := run_append_st (P := P) w hT o.type sx hown hlen hbase
  unfold Oper.wp execOp
  simp only [ho, resolve, invoke, builtin, Sem.run_bind, Sem.run_pure, Result.andThen_ok, List.map_toArray, List.map_cons, List.map_nil, hs, hx, hr]
  exact h v' w' h2 h3
end

/-- The cells of a new block, one by one, in every later world. -/
def Box (W : World) (g : Nat) (cs : List Value) : Prop := ∀ j, j < cs.length → W.cell? ⟨g, j, none⟩ = some (cs.getD j undef)
theorem Box.new (w : World) (cs : List Value) (t : TypeId) : Box (w.alloc (.cells cs.toArray t)) w.heap.size cs := fun j hj => by
  rw [cell_of_row _ _ j _ _ _ (heap_alloc_new w _)]
  simp [List.getD, List.getElem?_eq_getElem hj]
theorem Box.ext {W W' : World} {g : Nat} {cs : List Value} (h : Box W g cs) (k : Ext W W') : Box W' g cs := fun j hj => k.cell (h j hj)
theorem Box.below {W W' : World} {g B : Nat} {cs : List Value} (h : Box W g cs) (k : Below B W W') (hg : g < B) : Box W' g cs := fun j hj => by
  rw [k.cell (p := ⟨g, j, none⟩) hg]; exact h j hj
end Go.Proofs.Ytdjnjhlgpflcjaa
