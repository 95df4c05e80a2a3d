/- An append of a region that draws its order, and what else stands as it was. -/
import Derived.Test.YtdjnjhlgpflcjaaRegion
import Derived.Test.YtdjnjhlgpflcjaaKit
namespace Go.Proofs.Ytdjnjhlgpflcjaa
open Go.RowKit

section
variable {P : Program} (w : World)

theorem run_append_rdg (hT : BT P) (ty : TypeId) {base : Nat} {v vx : Value} {l m : List UInt8} (hown : Own w base v l) (hr : Rd w vx m)
    (hlen : l.length + m.length ≤ 100000000) (hbase : base ≤ w.heap.size) :
    ∃ v' w', (Builtin.append_ #[23, 23] ty #[v, vx]).run P w = .ok v' w' ∧ Own w' base v' (l ++ m) ∧ w.grownBy w' v.ownBlock := by
  obtain ⟨i, hi, hz, hs1, hb1⟩ := hT.info
  obtain ⟨A, cap, rfl, hle, hm, hA, hc⟩ := hr
  rcases A with _ | ad
  · have hm0 : m = [] := by
      rcases m with _ | ⟨x, m⟩
      · rfl
      · obtain ⟨b, o, h, _⟩ := hc (by simp)
        cases h
    subst hm0
    refine ⟨v, w, ?_, by simpa using hown, World.grownBy.refl _ _⟩
    rcases hown.2 with ⟨rfl, _⟩ | ⟨g, cap', cur, rfl, _, _, hnc, _⟩
    · simp [Builtin.append_, run_underlying hT.sl, sizeOf, typeInfo, hi, Builtin.lenOf, Builtin.firstCells]
    · simp [Builtin.append_, run_underlying hT.sl, sizeOf, typeInfo, hi, Builtin.lenOf, Builtin.firstCells, hnc, storeCells]
  · obtain ⟨v', w', hrun, h2, h3, _⟩ := run_append_own (P := P) w base 23 ty 5 i (.int .u8 0) 1 1 hT.sl hi hz hs1 hb1 rfl (by decide) v l.length (bc l) hown ad m.length cap (bc m)
      (by rw [bc_length, Nat.mul_one]) (fun j u hj => by
        have hjl : j < m.length := by
          rcases Nat.lt_or_ge j m.length with h | h
          · exact h
          · rw [List.getElem?_eq_none (by rw [bc_length]; exact h)] at hj; cases hj
        rw [bc_get m j hjl] at hj
        obtain ⟨b, o, h, hcell⟩ := hc (by intro h; subst h; simp at hjl)
        injection h with h
        subst h
        rw [addrk, hcell j hjl]
        exact hj) (bc_one m) (by unfold maxLen; omega) (by omega) hbase
    refine ⟨v', w', hrun, ?_, h3⟩
    unfold Own
    rw [List.length_append, bc_append]
    exact h2

variable {w}
variable {ops : Array Oper} {o : Oper} {a : Act} {K : Act → World → Prop} {Q : Exit → Act → World → Prop} {E : Prop}

theorem step_append_rdg (hT : BT P) {base : Nat} {v vx : Value} {l m : List UInt8} (hown : Own w base v l) (hr : Rd w vx m)
    (hgd : o.guard = none) (s x : Operand) (ho : o.op = .call { callee := .builtin .append, args := #[s, x], argTypes := #[23, 23] })
    (hs : a.eval s = v) (hx : a.eval x = vx) (hlen : l.length + m.length ≤ 100000000) (hbase : base ≤ w.heap.size)
    (h : ∀ v' w', Own w' base v' (l ++ m) → Below base w w' → w.grownBy w' v.ownBlock → K (a.put o.dst v') w') : if Region.wanted o (yielded ops a.tmps) = true then Oper.wp P o a w K Q else E := by
  have hw : Region.wanted o (yielded ops a.tmps) = true := by simp [Region.wanted, hgd]
  rw [if_pos hw]
  obtain ⟨v', w', hr, h2, h3⟩ := run_append_rdg (P := P) w hT o.type hown hr hlen hbase
  unfold Oper.wp execOp
  simp only [ho, resolve, invoke, builtin, Sem.run_bind, Sem.run_pure, Result.andThen_ok, List.map_toArray, List.map_cons, List.map_nil, hs, hx, hr]
  exact h v' w' h2 (Own.below_of hown hbase h3) h3
end

theorem rd_far {w w' : World} {row : Option Nat} {g n cap : Nat} {l : List UInt8} (h : Rd w (.slice (some ⟨g, 0, none⟩) n cap) l) (k : w.grownBy w' row) (hne : some g ≠ row) : Rd w' (.slice (some ⟨g, 0, none⟩) n cap) l := by
  obtain ⟨A, cap', hv, h1, h2, h3, h4⟩ := h
  refine ⟨A, cap', hv, h1, h2, h3, fun hl => ?_⟩
  obtain ⟨b, o, hA, hc⟩ := h4 hl
  refine ⟨b, o, hA, fun j hj => ?_⟩
  have hb' := World.block_lt_of_cell? w _ (hc j hj)
  have hb : b = g := by
    subst hA
    injection hv with hv _ _
    injection hv with hv
    injection hv with hv
    exact hv.symm
  rw [k.cell_far ⟨b, o + j, none⟩ hb' (by rw [hb]; exact hne)]
  exact hc j hj

/-- '[]byte{}' made anew. -/
theorem own_nil (w : World) (g base : Nat) (hg : g = w.heap.size) (hb : base ≤ w.heap.size) : Own (w.alloc (.cells #[] 5)) base (.slice (some ⟨g, 0, none⟩) 0 0) [] :=
  hg ▸ own_new w #[] [] rfl 0 rfl (by unfold maxLen; simp) hb
end Go.Proofs.Ytdjnjhlgpflcjaa
