import Derived.Test.YtbodppfpmpmadaaGreatGrRC
import Derived.Lib.AppendZerosOnto
/- 'append(out, make([]byte, n)...)', where the call owns out. -/
namespace Go.Proofs.YtbodppfpmpmadaaGreat
open Go.RowKit

section
variable {P : Program} {w : World}
theorem zeroCells_bc (k : Nat) : (Builtin.zeroCells (Value.int .u8 0).cells k).toList = bc (List.replicate k 0) := by
  show ((Array.range (k * 1)).map fun i => (#[Value.int .u8 0] : Array Value)[i % 1]!).toList = _
  rw [Array.toList_map, Nat.mul_one]
  apply List.ext_getElem
  · simp [bc]
  · intro i h1 h2
    simp [bc, Nat.mod_one]
theorem run_append_room_zeros (t tn ty e : TypeId) (i : TypeInfo) (z : Value) (kq kn : IntKind) (ht : P.underlying t = some (.slice e)) (htn : P.underlying tn = some (.int kn)) (hi : P.info? e = some i) (hz : i.zero = some z)
    (g sLen sCap : Nat) (cur : Array Value) (hg : w.heap[g]? = some (.cells cur e (0, 0))) (k : Nat) (h0 : 0 < k) (hs : 0 < i.size) (zs : List Value) (hzs : (Builtin.zeroCells z.cells k).toList = zs) (h1 : ∀ v ∈ zs, v.oneCell' = true)
    (hroom : sLen + k ≤ sCap) (hfit : sLen * i.size + zs.length ≤ cur.size) (h63 : (k : Int) ≤ 9223372036854775807) (h48 : k * i.bytes ≤ 281474976710656) :
    (Builtin.append_ #[t, tn] ty #[.slice (some ⟨g, 0, none⟩) sLen sCap, .int kq k]).run P w =
      .ok (.slice (some ⟨g, 0, none⟩) (sLen + k) sCap) (w.setRow g (cur.toList.take (sLen * i.size) ++ zs ++ cur.toList.drop (sLen * i.size + zs.length)).toArray) := by
  subst hzs
  have hw : IntKind.i64.wrap (k : Int) = k := by rw [IntKind.wrap_i64]; omega
  have hst := run_storeCells_at P g (sLen * i.size) e _ 0 cur w hg (by simpa using hfit) h1
  simp only [Nat.add_zero] at hst
  have h48i : ¬ (281474976710656 < (k : Int) * (i.bytes : Int)) := by
    rw [← Int.natCast_mul]
    omega
  have hneg : ¬ ((k : Int) < 0) := by omega
  have hns : ¬ (k * i.size = 0) := Nat.mul_ne_zero (by omega) (by omega)
  simp [Builtin.append_, run_underlying ht, run_underlying htn, sizeOf, typeInfo, zeroValue, hi, hz, asInt, asIntOf, hw, hneg, hns, h48i, hroom, Addr.add_lit]
  rw [hst]
  simp

theorem run_append_zerosN (hT : BT P) (htn : P.underlying 3 = some (.int .i64)) (ty : TypeId) {base : Nat} {v : Value} {l : List UInt8} (hown : Own w base v l) (k : Nat) (h0 : 0 < k) (hk : l.length + k ≤ 100000000) (hbase : base ≤ w.heap.size) (kq : IntKind) :
    ∃ v' w', (Builtin.append_ #[22, 3] ty #[v, .int kq (k : Int)]).run P w = .ok v' w' ∧ Own w' base v' (l ++ List.replicate k 0) ∧ w.grownBy w' v.ownBlock := by
  obtain ⟨i, hi, hz, hs1, hb1⟩ := hT.info
  have hzc := zeroCells_bc k
  have hzl : (Builtin.zeroCells (Value.int .u8 0).cells k).size = k := by rw [← Array.length_toList, hzc, bc_length, List.length_replicate]
  have hlen : (bc (l ++ List.replicate k 0)).length = (l.length + k) * 1 := by rw [bc_length, List.length_append, List.length_replicate, Nat.mul_one]
  unfold Own
  rw [List.length_append, List.length_replicate]
  rcases hown.2 with ⟨rfl, hl0⟩ | ⟨g, cap, cur, rfl, hbg, hg, hnc, hcm, hcs, htake⟩
  · have hl : l = [] := List.eq_nil_of_length_eq_zero hl0
    subst hl
    have hr := Lib.run_append_nil_zeros (P := P) w 22 3 ty 5 i (.int .u8 0) kq .i64 hT.sl htn hi hz k h0 (by omega) (by simp at hk; omega) (by simp at hk; rw [hb1]; omega)
    have hge := grownCap_ge w k 0 5
    have hcm := grownCap_le_maxLen w k 0 5 (by simp at hk; unfold maxLen; omega)
    refine ⟨_, _, hr, ⟨hlen, .inr ⟨w.heap.size, _, _, by simp, hbase, _root_.Go.heap_alloc_new w.drew _, by simpa using hge, hcm, ?_, ?_⟩⟩, ⟨rfl, rfl, rfl, by simp, fun j hj _ => _root_.Go.heap_alloc_old w.drew _ hj⟩⟩
    · rw [Array.size_append, hzl, size_zeroCells]
      show k + (grownCap w k 0 5 - k) * 1 = _
      omega
    · rw [Array.toList_append, hzc]
      simp only [List.length_nil, Nat.zero_add, Nat.mul_one, List.nil_append]
      have e : k = (bc (List.replicate k 0)).length := by rw [bc_length, List.length_replicate]
      conv => lhs; arg 1; rw [e]
      exact List.take_left
  · by_cases hroom : l.length + k ≤ cap
    · have hr := run_append_room_zeros (P := P) (w := w) 22 3 ty 5 i (.int .u8 0) kq .i64 hT.sl htn hi hz g l.length cap cur hg k h0 (by omega) _ hzc (bc_one _) hroom (by rw [hs1, bc_length, List.length_replicate, hcs]; omega) (by omega) (by rw [hb1]; omega)
      refine ⟨_, _, hr, ⟨hlen, .inr ⟨g, cap, _, rfl, hbg, setRow_heap w g cur _ _ _ hg, hroom, hcm, ?_, ?_⟩⟩, ⟨rfl, rfl, rfl, by simp, fun k _ hk => setRow_other w g k _ (fun e => hk (by simp [Value.ownBlock, e]))⟩⟩
      · simp only [List.size_toArray, List.length_append, List.length_take, List.length_drop, Array.length_toList, bc_length, List.length_replicate, hs1]
        omega
      · rw [hs1, htake, bc_append]
        have e : (l.length + k) * 1 = (bc l ++ bc (List.replicate k 0)).length := by rw [List.length_append, bc_length, bc_length, List.length_replicate, Nat.mul_one]
        rw [e]
        exact List.take_left
    · have holds : ∀ j u, (bc l)[j]? = some u → w.drew.cell? ((⟨g, 0, none⟩ : Addr).add j) = some u := fun j u hj => World.ownsRow.cells (g := g) hown rfl j u hj
      have hold := run_firstCells_some (P := P) w.drew i.size l.length ⟨g, 0, none⟩ l.length cap (bc l) (by rw [bc_length, hs1, Nat.mul_one]) holds
      have hr := Lib.run_append_grow_zeros (P := P) w 22 3 ty 5 i (.int .u8 0) kq .i64 hT.sl htn hi hz (some ⟨g, 0, none⟩) l.length cap (bc l) hold k h0 (by omega) (by omega) (by omega) (by rw [hb1]; omega) (growslice_fits (by omega) (by rw [hb1]; omega))
      have hge := grownCap_ge w (l.length + k) cap 5
      have hcm := grownCap_le_maxLen w (l.length + k) cap 5 (by unfold maxLen; omega)
      refine ⟨_, _, hr, ⟨hlen, .inr ⟨w.heap.size, _, _, rfl, hbase, _root_.Go.heap_alloc_new w.drew _, hge, hcm, ?_, ?_⟩⟩, ⟨rfl, rfl, rfl, by simp, fun j hj _ => _root_.Go.heap_alloc_old w.drew _ hj⟩⟩
      · rw [Array.size_append, Array.size_append, hzl, size_zeroCells, List.size_toArray, bc_length]
        show l.length + k + (grownCap w (l.length + k) cap 5 - (l.length + k)) * 1 = _
        omega
      · rw [Array.toList_append, Array.toList_append, hzc, bc_append]
        have e : (l.length + k) * 1 = (bc l ++ bc (List.replicate k 0)).length := by rw [List.length_append, bc_length, bc_length, List.length_replicate, Nat.mul_one]
        rw [e]
        exact List.take_left
end
section
variable {P : Program} {ops : Array Oper} {rest : List Oper} {o : Oper} {a : Act} {w : World} {Q : Exit → Act → World → Prop}
theorem wpl_append_zeros (hT : BT P) (htn : P.underlying 3 = some (.int .i64)) {base : Nat} {v : Value} {l : List UInt8} (hown : Own w base v l) (k : Nat) (h0 : 0 < k)
    (hgd : o.guard = none) (s x : Operand) (ho : o.op = .call { callee := .builtin .append, args := #[s, x], argTypes := #[22, 3] })
    (hs : a.eval s = v) (kq : IntKind) (hx : a.eval x = .int kq (k : Int)) (hlen : l.length + k ≤ 100000000) (hbase : base ≤ w.heap.size)
    (h : ∀ v' w', Own w' base v' (l ++ List.replicate k 0) → Below base w w' → w.grownBy w' v.ownBlock → wpList P ops Q rest (a.put o.dst v') w') : wpList P ops Q (o :: rest) a w := by
  refine wpList_plain hgd fun K hK => ?_
  obtain ⟨v', w', hr, h2, h3⟩ := run_append_zerosN (P := P) (w := w) hT htn o.type hown k h0 hlen hbase kq
  unfold Oper.wp execOp
  simp only [ho, resolve, invoke, builtin, Sem.run_bind, Sem.run_pure, Result.andThen_ok, List.map_toArray, List.map_cons, List.map_nil, hs, hx, hr]
  exact hK _ _ (h v' w' h2 (Own.below_of hown hbase h3) h3)
end
end Go.Proofs.YtbodppfpmpmadaaGreat
