import Derived.Test.YtaiakkifefedoaaGrYaC
import Derived.Maps.AppendAt
/- An append in a drawn region: where the new slice lies; boxes far from it. -/
namespace Go.Proofs.Ytaiakkifefedoaa
open Go.RowKit

section
variable {P : Program} (w : World)
theorem run_append_rdh (hT : BT P) (ty : TypeId) {base : Nat} {v vx : Value} {l m : List UInt8} (hown : Own w base v l) (hr : Rd w vx m)
    (hlen : l.length + m.length ≤ 100000000) (hbase : base ≤ w.heap.size) :
    ∃ v' w', (Builtin.append_ #[22, 22] ty #[v, vx]).run P w = .ok v' w' ∧ Own w' base v' (l ++ m) ∧ w.grownBy w' v.ownBlock ∧ (v'.ownBlock = v.ownBlock ∨ v'.ownBlock = some w.heap.size) := by
  obtain ⟨i, hi, hz, hs1, hb1⟩ := hT.info
  obtain ⟨A, cap, rfl, hle, hm, hA, hc⟩ := hr
  rcases A with _ | ad
  · have hm0 : m = [] := by
      rcases m with _ | ⟨x, m⟩
      · rfl
      · obtain ⟨b, o, h, _⟩ := hc (by simp)
        cases h
    subst hm0
    refine ⟨v, w, ?_, by simpa using hown, World.grownBy.refl _ _, .inl rfl⟩
    rcases hown.2 with ⟨rfl, _⟩ | ⟨g, cap', cur, rfl, _, _, hnc, _⟩
    · simp [Builtin.append_, run_underlying hT.sl, sizeOf, typeInfo, hi, Builtin.lenOf, Builtin.firstCells]
    · simp [Builtin.append_, run_underlying hT.sl, sizeOf, typeInfo, hi, Builtin.lenOf, Builtin.firstCells, hnc, storeCells]
  · obtain ⟨v', w', hrun, h2, h3, _, h4⟩ := run_append_own_at (P := P) w base 22 ty 5 i (.int .u8 0) 1 1 hT.sl hi hz hs1 hb1 rfl (by decide) v l.length (bc l) hown ad m.length cap (bc m)
      (by rw [bc_length, Nat.mul_one]) (fun j u hj => by
        have hjl : j < m.length := by
          rcases Nat.lt_or_ge j m.length with h | h
          · exact h
          · rw [List.getElem?_eq_none (by rw [bc_length]; exact h)] at hj; cases hj
        rw [bc_get m j hjl] at hj
        obtain ⟨b, o, h, hcell⟩ := hc (by intro h; subst h; simp at hjl)
        injection h with h
        subst h
        rw [addrk, hcell j hjl]
        exact hj) (bc_one m) (by unfold maxLen; omega) (by omega) hbase
    refine ⟨v', w', hrun, ?_, h3, h4⟩
    unfold Own
    rw [List.length_append, bc_append]
    exact h2
variable {w}
variable {ops : Array Oper} {o : Oper} {a : Act} {K : Act → World → Prop} {Q : Exit → Act → World → Prop} {E : Prop}
theorem step_append_rdh (hT : BT P) {base : Nat} {v vx : Value} {l m : List UInt8} (hown : Own w base v l) (hr : Rd w vx m)
    (hgd : o.guard = none) (s x : Operand) (ho : o.op = .call { callee := .builtin .append, args := #[s, x], argTypes := #[22, 22] })
    (hs : a.eval s = v) (hx : a.eval x = vx) (hlen : l.length + m.length ≤ 100000000) (hbase : base ≤ w.heap.size)
    (h : ∀ v' w', Own w' base v' (l ++ m) → Below base w w' → w.grownBy w' v.ownBlock → (v'.ownBlock = v.ownBlock ∨ v'.ownBlock = some w.heap.size) → K (a.put o.dst v') w') : if Region.wanted o (yielded ops a.tmps) = true then Oper.wp P o a w K Q else E := by
  have hw : Region.wanted o (yielded ops a.tmps) = true := by simp [Region.wanted, hgd]
  rw [if_pos hw]
  obtain ⟨v', w', hr, h2, h3, h4⟩ := run_append_rdh (P := P) w hT o.type hown hr hlen hbase
  unfold Oper.wp execOp
  simp only [ho, resolve, invoke, builtin, Sem.run_bind, Sem.run_pure, Result.andThen_ok, List.map_toArray, List.map_cons, List.map_nil, hs, hx, hr]
  exact h v' w' h2 (Own.below_of hown hbase h3) h3 h4
end
def erB (b : Bool) : Int := if b then 0 else 2
theorem bool_of (p : Prop) : ∃ b : Bool, (b = true ↔ p) := by
  by_cases h : p
  · exact ⟨true, by simp [h]⟩
  · exact ⟨false, by simp [h]⟩
theorem boxF_new' {w : World} {cs : List Value} {t : TypeId} {g : Nat} (hg : g = w.heap.size) : BoxF (w.alloc (.cells cs.toArray t)) g cs := hg ▸ BoxF.new w cs t
theorem boxF_far {w w' : World} {g : Nat} {row : Option Nat} {cs : List Value} (h : BoxF w g cs) (k : w.grownBy w' row) (hne : row ≠ some g) : BoxF w' g cs :=
  ⟨fun j hj => by rw [k.cell_far _ h.lt (by exact fun e => hne e.symm)]; exact h.box j hj, fun j hj => by rw [k.frozen_far _ h.lt (by exact fun e => hne e.symm)]; exact h.free j hj, Nat.lt_of_lt_of_le h.lt k.size⟩
end Go.Proofs.Ytaiakkifefedoaa
