import Derived.WalkKit
import Derived.WalkSpells
import Derived.Below
import Derived.Lib.AppendStr
import Derived.Lib.ConvBytes
import Derived.Lib.Hide
import Derived.Laws.BytesArg
import Derived.Maps.AppendAt
import Derived.Deep.Draws
import Derived.Lib.SliceRun
import Derived.Test.YtbodppfpmpmadaaGreatProg
import Derived.KernelRfl
import Derived.Laws.Small
import Derived.Laws.BitsAllLaws
import Derived.IntWalk
import Derived.Deep.AppendLies
import Derived.Deep.RegionHeld3
import Derived.Deep.MidRow
namespace Go.Proofs.YtbodppfpmpmadaaGreat
open Go.RowKit

def bc (l : List UInt8) : List Value := l.map fun b => Value.int .u8 (b.toNat : Int)

theorem bc_length (l : List UInt8) : (bc l).length = l.length := by simp [bc]
theorem bc_append (l m : List UInt8) : bc (l ++ m) = bc l ++ bc m := by simp [bc]
theorem bc_one (l : List UInt8) : ∀ u ∈ bc l, u.oneCell' = true := by
  intro u hu
  simp only [bc, List.mem_map] at hu
  obtain ⟨b, _, rfl⟩ := hu
  rfl
theorem bc_get (l : List UInt8) (j : Nat) (h : j < l.length) : (bc l)[j]? = some (.int .u8 ((l.getD j 0).toNat : Int)) := by
  simp [bc, List.getElem?_eq_getElem h, List.getD]

def Ext (w w' : World) : Prop := Below w.heap.size w w'

theorem Ext.refl (w : World) : Ext w w := Below.refl _ _
theorem Ext.size {w w' : World} (h : Ext w w') : w.heap.size ≤ w'.heap.size := Below.size h
theorem Ext.trans {a b c : World} (h : Ext a b) (k : Ext b c) : Ext a c := Below.trans h (Below.mono k (Below.size h))
theorem Ext.alloc {a w : World} (h : Ext a w) (o : Obj) : Ext a (w.alloc o) := Below.alloc h (Below.size h) o
theorem Ext.drew {a w : World} (h : Ext a w) : Ext a w.drew := Below.drew h
theorem Ext.drewN {a w : World} (h : Ext a w) (n : Nat) : Ext a (w.drewN n) := by
  have k : Below a.heap.size a w := h
  exact ⟨k.os, k.tape, k.output, k.size, k.block⟩
theorem Ext.below {a w w' : World} {B : Nat} (h : Ext a w) (k : Below B w w') (hB : a.heap.size ≤ B) : Ext a w' := Below.trans h (Below.mono k hB)
theorem Ext.setCell {a w : World} (h : Ext a w) {p : Addr} (hp : a.heap.size ≤ p.block) (u : Value) : Ext a (w.setCell p u) := Below.setCell h hp u
theorem Ext.cell {w w' : World} (h : Ext w w') {p : Addr} {v : Value} (hc : w.cell? p = some v) : w'.cell? p = some v :=
  (Below.cell h (World.block_lt_of_cell? w p hc)).trans hc

def Rd (w : World) (v : Value) (l : List UInt8) : Prop :=
  ∃ (A : Option Addr) (cap : Nat), v = .slice A l.length cap ∧ l.length ≤ cap ∧ cap ≤ maxLen ∧ (A = none → cap = 0) ∧
    (l ≠ [] → ∃ b o, A = some ⟨b, o, none⟩ ∧ ∀ j, j < l.length → w.cell? ⟨b, o + j, none⟩ = some (.int .u8 ((l.getD j 0).toNat : Int)))

theorem Rd.below {w w' : World} {B : Nat} {v : Value} {l : List UInt8} (h : Rd w v l) (k : Below B w w') (hb : w.heap.size ≤ B) : Rd w' v l := by
  obtain ⟨A, cap, hv, h1, h2, h3, h4⟩ := h
  refine ⟨A, cap, hv, h1, h2, h3, fun hl => ?_⟩
  obtain ⟨b, o, hA, hc⟩ := h4 hl
  refine ⟨b, o, hA, fun j hj => ?_⟩
  have hb' := World.block_lt_of_cell? w _ (hc j hj)
  exact (k.cell (p := ⟨b, o + j, none⟩) (Nat.lt_of_lt_of_le hb' hb)).trans (hc j hj)
theorem Rd.ext {w w' : World} {v : Value} {l : List UInt8} (h : Rd w v l) (k : Ext w w') : Rd w' v l := Rd.below h k (Nat.le_refl _)
theorem Rd.nil (w : World) : Rd w (.slice none 0 0) [] := ⟨none, 0, rfl, Nat.le_refl _, by unfold maxLen; omega, fun _ => rfl, fun h => absurd rfl h⟩
theorem Rd.le {w : World} {v : Value} {l : List UInt8} (h : Rd w v l) : l.length ≤ maxLen := by obtain ⟨A, cap, hv, h1, h2, _⟩ := h; omega

def Own (w : World) (base : Nat) (v : Value) (l : List UInt8) : Prop := w.ownsRow base 5 1 v l.length (bc l)

theorem addr0 (g j : Nat) : (⟨g, 0, none⟩ : Addr).add j = ⟨g, j, none⟩ := by unfold Addr.add; split <;> simp_all
theorem addrk (g o j : Nat) : (⟨g, o, none⟩ : Addr).add j = ⟨g, o + j, none⟩ := by unfold Addr.add; split <;> simp_all

theorem Own.rd {w : World} {base : Nat} {v : Value} {l : List UInt8} (h : Own w base v l) : Rd w v l := by
  have hc := fun g hg => h.cells (g := g) hg
  obtain ⟨h1, h2⟩ := h
  rcases h2 with ⟨rfl, h0⟩ | ⟨g, cap, cur, rfl, hb, hg, hn, hm, hs, ht⟩
  · have : l = [] := List.eq_nil_of_length_eq_zero h0
    subst this
    exact Rd.nil w
  · refine ⟨_, cap, rfl, hn, hm, (fun h => by cases h), fun _ => ⟨g, 0, rfl, fun j hj => ?_⟩⟩
    have := hc g rfl j _ (bc_get l j hj)
    rw [addr0] at this
    rw [Nat.zero_add]
    exact this
theorem Own.nil (w : World) (base : Nat) : Own w base (.slice none 0 0) [] := World.ownsRow_nil w base _ 1
theorem Own.ext {w w' : World} {base : Nat} {v : Value} {l : List UInt8} (h : Own w base v l) (k : Ext w w') : Own w' base v l :=
  World.ownsRow.kept (row := none) h ⟨k.os, k.tape, k.output, Ext.size k, fun i hi _ => k.block i hi⟩ (by cases hv : v.ownBlock <;> simp)
theorem Own.more {w : World} {base base' : Nat} {v : Value} {l : List UInt8} (h : Own w base v l) (hb : base' ≤ base) : Own w base' v l := by
  obtain ⟨h1, h2⟩ := h
  refine ⟨h1, ?_⟩
  rcases h2 with h2 | ⟨g, cap, cur, hv, hg, r⟩
  · exact .inl h2
  · exact .inr ⟨g, cap, cur, hv, Nat.le_trans hb hg, r⟩
theorem Own.below_of {w w' : World} {base : Nat} {v : Value} {l : List UInt8} (h : Own w base v l) (hb : base ≤ w.heap.size) (k : w.grownBy w' v.ownBlock) : Below base w w' :=
  (Below.refl base w).grown k hb (fun g hg => (World.ownsRow.lt h g hg).1)

structure BT (P : Program) : Prop where
  sl : P.underlying 22 = some (.slice 5)
  el : P.underlying 5 = some (.int .u8)
  st : P.underlying 9 = some .string
  info : ∃ i, P.info? 5 = some i ∧ i.zero = some (.int .u8 0) ∧ i.size = 1 ∧ i.bytes = 1

section
variable {P : Program} (w : World)

theorem run_append_rd (hT : BT P) (ty : TypeId) {base : Nat} {v vx : Value} {l m : List UInt8} (hown : Own w base v l) (hr : Rd w vx m)
    (hlen : l.length + m.length ≤ 100000000) (hbase : base ≤ w.heap.size) :
    ∃ v' w', (Builtin.append_ #[22, 22] ty #[v, vx]).run P w = .ok v' w' ∧ Own w' base v' (l ++ m) ∧ Below base w w' := by
  obtain ⟨i, hi, hz, hs1, hb1⟩ := hT.info
  obtain ⟨A, cap, rfl, hle, hm, hA, hc⟩ := hr
  rcases A with _ | ad
  · have hm0 : m = [] := by
      rcases m with _ | ⟨x, m⟩
      · rfl
      · obtain ⟨b, o, h, _⟩ := hc (by simp)
        cases h
    subst hm0
    refine ⟨v, w, ?_, by simpa using hown, Below.refl _ _⟩
    rcases hown.2 with ⟨rfl, _⟩ | ⟨g, cap', cur, rfl, _, _, hnc, _⟩
    · simp [Builtin.append_, run_underlying hT.sl, sizeOf, typeInfo, hi, Builtin.lenOf, Builtin.firstCells]
    · simp [Builtin.append_, run_underlying hT.sl, sizeOf, typeInfo, hi, Builtin.lenOf, Builtin.firstCells, hnc, storeCells]
  · obtain ⟨v', w', hrun, h2, h3, _⟩ := run_append_own (P := P) w base 22 ty 5 i (.int .u8 0) 1 1 hT.sl hi hz hs1 hb1 rfl (by decide) v l.length (bc l) hown ad m.length cap (bc m)
      (by rw [bc_length, Nat.mul_one]) (fun j u hj => by
        have hjl : j < m.length := by
          rcases Nat.lt_or_ge j m.length with h | h
          · exact h
          · rw [List.getElem?_eq_none (by rw [bc_length]; exact h)] at hj; cases hj
        rw [bc_get m j hjl] at hj
        obtain ⟨b, o, h, hcell⟩ := hc (by intro h; subst h; simp at hjl)
        injection h with h
        subst h
        rw [addrk, hcell j hjl]
        exact hj) (bc_one m) (by unfold maxLen; omega) (by omega) hbase
    refine ⟨v', w', hrun, ?_, Own.below_of hown hbase h3⟩
    unfold Own
    rw [List.length_append, bc_append]
    exact h2

theorem run_append_st (hT : BT P) (ty : TypeId) {base : Nat} {v : Value} {l : List UInt8} (s : ByteArray) (hown : Own w base v l)
    (hlen : l.length + s.size ≤ 100000000) (hbase : base ≤ w.heap.size) :
    ∃ v' w', (Builtin.append_ #[22, 9] ty #[v, .string s]).run P w = .ok v' w' ∧ Own w' base v' (l ++ s.data.toList) ∧ Below base w w' := by
  obtain ⟨i, hi, hz, hs1, hb1⟩ := hT.info
  obtain ⟨v', w', hrun, h2, h3, _⟩ := Lib.run_append_own_string (P := P) w base 22 9 ty 5 i hT.sl hT.st hi hz hs1 hb1 v l.length (bc l) hown s (by unfold maxLen; omega) (by omega) hbase
  refine ⟨v', w', hrun, ?_, Own.below_of hown hbase h3⟩
  have hsz : s.data.toList.length = s.size := by rw [Array.length_toList]; rfl
  unfold Own
  rw [List.length_append, bc_append, hsz]
  exact h2

variable {w}
variable {ops : Array Oper} {rest : List Oper} {o : Oper} {a : Act} {Q : Exit → Act → World → Prop}

theorem wpl_append_rd (hT : BT P) {base : Nat} {v vx : Value} {l m : List UInt8} (hown : Own w base v l) (hr : Rd w vx m)
    (hgd : o.guard = none) (s x : Operand) (ho : o.op = .call { callee := .builtin .append, args := #[s, x], argTypes := #[22, 22] })
    (hs : a.eval s = v) (hx : a.eval x = vx) (hlen : l.length + m.length ≤ 100000000) (hbase : base ≤ w.heap.size)
    (h : ∀ v' w', Own w' base v' (l ++ m) → Below base w w' → wpList P ops Q rest (a.put o.dst v') w') : wpList P ops Q (o :: rest) a w := by
  refine wpList_plain hgd fun K hK => ?_
  obtain ⟨v', w', hr, h2, h3⟩ := run_append_rd (P := P) w hT o.type hown hr hlen hbase
  unfold Oper.wp execOp
  simp only [ho, resolve, invoke, builtin, Sem.run_bind, Sem.run_pure, Result.andThen_ok, List.map_toArray, List.map_cons, List.map_nil, hs, hx, hr]
  exact hK _ _ (h v' w' h2 h3)

theorem wpl_append_st (hT : BT P) {base : Nat} {v : Value} {l : List UInt8} (sx : ByteArray) (hown : Own w base v l)
    (hgd : o.guard = none) (s x : Operand) (ho : o.op = .call { callee := .builtin .append, args := #[s, x], argTypes := #[22, 9] })
    (hs : a.eval s = v) (hx : a.eval x = .string sx) (hlen : l.length + sx.size ≤ 100000000) (hbase : base ≤ w.heap.size)
    (h : ∀ v' w', Own w' base v' (l ++ sx.data.toList) → Below base w w' → wpList P ops Q rest (a.put o.dst v') w') : wpList P ops Q (o :: rest) a w := by
  refine wpList_plain hgd fun K hK => ?_
  obtain ⟨v', w', hr, h2, h3⟩ := run_append_st (P := P) w hT o.type sx hown hlen hbase
  unfold Oper.wp execOp
  simp only [ho, resolve, invoke, builtin, Sem.run_bind, Sem.run_pure, Result.andThen_ok, List.map_toArray, List.map_cons, List.map_nil, hs, hx, hr]
  exact hK _ _ (h v' w' h2 h3)

variable (w) in
theorem rd_new (cs : Array Value) (l : List UInt8) (hc : cs = (bc l).toArray) (n : Nat) (hn : n = l.length) (hl : l.length ≤ maxLen) :
    Rd (w.alloc (.cells cs 5)) (.slice (some ⟨w.heap.size, 0, none⟩) n n) l := by
  subst hc; subst hn
  refine ⟨_, l.length, rfl, Nat.le_refl _, hl, (fun h => by cases h), fun _ => ⟨_, 0, rfl, fun j hj => ?_⟩⟩
  rw [Nat.zero_add, cell_of_row _ _ j _ _ _ (heap_alloc_new w _)]
  have := bc_get l j hj
  simpa using this

variable (w) in
theorem own_new (cs : Array Value) (l : List UInt8) (hc : cs = (bc l).toArray) (n : Nat) (hn : n = l.length) (hl : l.length ≤ maxLen) {base : Nat} (hb : base ≤ w.heap.size) :
    Own (w.alloc (.cells cs 5)) base (.slice (some ⟨w.heap.size, 0, none⟩) n n) l := by
  subst hc; subst hn
  refine ⟨by rw [bc_length, Nat.mul_one], .inr ⟨w.heap.size, l.length, (bc l).toArray, rfl, hb, heap_alloc_new w _, Nat.le_refl _, hl, ?_, ?_⟩⟩
  · rw [Nat.mul_one, List.size_toArray, bc_length]
  · rw [Nat.mul_one, List.take_of_length_le (by simp [bc_length])]

theorem wpl_append_one (hT : BT P) {base : Nat} {v : Value} {l : List UInt8} (c : Int) (hown : Own w base v l) (hc0 : 0 ≤ c) (hc1 : c < 256)
    (hgd : o.guard = none) (s x : Operand) (ho : o.op = .call { callee := .builtin .append, args := #[s, x], argTypes := #[22, 22] })
    (hs : a.eval s = v) (hx : a.eval x = .slice (some ⟨w.heap.size, 0, none⟩) 1 1) (hlen : l.length + 1 ≤ 100000000) (hbase : base ≤ w.heap.size)
    (h : ∀ v' w', Own w' base v' (l ++ [UInt8.ofNat c.toNat]) → Below base w w' → wpList P ops Q rest (a.put o.dst v') w') : wpList P ops Q (o :: rest) a (w.alloc (.cells #[.int .u8 c] 5)) := by
  have hcell : (#[.int .u8 c] : Array Value) = (bc [UInt8.ofNat c.toNat]).toArray := by
    have : ((UInt8.ofNat c.toNat).toNat : Int) = c := by rw [UInt8.toNat_ofNat']; omega
    show _ = (#[Value.int .u8 ((UInt8.ofNat c.toNat).toNat : Int)] : Array Value)
    rw [this]
  refine wpl_append_rd (P := P) (w := w.alloc (.cells #[.int .u8 c] 5)) hT (hown.ext ((Ext.refl w).alloc _)) (rd_new w _ [UInt8.ofNat c.toNat] hcell 1 rfl (by unfold maxLen; simp)) hgd s x ho hs hx (by simpa using hlen)
    (Nat.le_trans hbase (by simp)) fun v' w' h1 h2 => h v' w' h1 ?_
  exact ((Below.refl base w).alloc hbase _).trans h2

theorem wpl_clone (hT : BT P) {vx : Value} {m : List UInt8} (hr : Rd w vx m)
    (hgd : o.guard = none) (s x : Operand) (ho : o.op = .call { callee := .builtin .append, args := #[s, x], argTypes := #[22, 22] })
    (hs : a.eval s = .slice (some ⟨w.heap.size, 0, none⟩) 0 0) (hx : a.eval x = vx) (hlen : m.length ≤ 100000000)
    (h : ∀ v' w', Own w' w.heap.size v' m → Ext w w' → wpList P ops Q rest (a.put o.dst v') w') : wpList P ops Q (o :: rest) a (w.alloc (.cells #[] 5)) := by
  refine wpl_append_rd (P := P) (w := w.alloc (.cells #[] 5)) hT (base := w.heap.size) (l := []) (own_new w #[] [] rfl 0 rfl (by unfold maxLen; simp) (Nat.le_refl _)) (hr.ext ((Ext.refl w).alloc _)) hgd s x ho hs hx (by simpa using hlen)
    (by simp) fun v' w' h1 h2 => h v' w' (by simpa using h1) ?_
  exact ((Ext.refl w).alloc _).below h2 (Nat.le_refl _)

theorem wpl_val (hgd : o.guard = none) {v : Value} {w' : World} (hrun : (execOp a.eval o).run P w = .ok (.value v) w') (h : wpList P ops Q rest (a.put o.dst v) w') : wpList P ops Q (o :: rest) a w := by
  refine wpList_plain hgd fun K hK => ?_
  unfold Oper.wp
  rw [hrun]
  exact hK _ _ h

theorem Rd.cut {w : World} {A : Option Addr} {n cap : Nat} {l : List UInt8} (h : Rd w (.slice A n cap) l) (i j : Nat) (hij : i ≤ j) (hj : j ≤ l.length) :
    Rd w (.slice (if cap = i then A else A.map (·.add (i * 1))) (j - i) (cap - i)) ((l.take j).drop i) := by
  obtain ⟨A', cap', hv, h1, h2, h3, h4⟩ := h
  injection hv with e1 e2 e3
  subst e1 e2 e3
  have hlen : ((l.take j).drop i).length = j - i := by rw [List.length_drop, List.length_take, Nat.min_eq_left hj]
  refine ⟨_, cap - i, by rw [hlen], by rw [hlen]; omega, by omega, fun hn => ?_, fun hl => ?_⟩
  · by_cases hc : cap = i
    · omega
    · rw [if_neg hc] at hn
      have : A = none := by
        rcases A with _ | ad
        · rfl
        · simp at hn
      have := h3 this
      omega
  · have hlt : i < j := by
      rcases Nat.lt_or_ge i j with hlt | hge
      · exact hlt
      · exact absurd (List.eq_nil_of_length_eq_zero (by rw [hlen]; omega)) hl
    obtain ⟨b, o, rfl, hc⟩ := h4 (by intro h0; subst h0; simp at hj; omega)
    refine ⟨b, o + i, ?_, fun m hm => ?_⟩
    · rw [if_neg (by omega), Nat.mul_one]
      exact congrArg some (addrk b o i)
    · rw [hlen] at hm
      have := hc (i + m) (by omega)
      rw [Nat.add_assoc, this]
      have e : (List.drop i (List.take j l)).getD m 0 = l.getD (i + m) 0 := by
        simp only [List.getD_eq_getElem?_getD, List.getElem?_drop, List.getElem?_take]
        rw [if_pos (by omega)]
      rw [e]

theorem sizeOf_u8 (hT : BT P) (w : World) : (sizeOf 5).run P w = .ok 1 w := by
  obtain ⟨i, hi, hz, hs1, hb1⟩ := hT.info
  simp [sizeOf, typeInfo, hi, hs1]

theorem wpl_slice_lo (hT : BT P) {v : Value} {l : List UInt8} (hr : Rd w v l) (i : Int) (h0 : 0 ≤ i) (h1 : i ≤ l.length)
    (hgd : o.guard = none) (x lo : Operand) (k : IntKind) (ho : o.op = .slice 22 x (some lo) none none) (hx : a.eval x = v) (hlo : a.eval lo = .int k i)
    (h : ∀ v', Rd w v' (l.drop i.toNat) → wpList P ops Q rest (a.put o.dst v') w) : wpList P ops Q (o :: rest) a w := by
  obtain ⟨A, cap, rfl, hle, hm, _⟩ := id hr
  have hc := Rd.cut hr i.toNat l.length (by omega) (Nat.le_refl _)
  rw [List.take_length] at hc
  refine wpl_val hgd (v := .slice (if cap = i.toNat then A else A.map (·.add (i.toNat * 1))) (l.length - i.toNat) (cap - i.toNat)) (w' := w) ?_ (h _ hc)
  unfold execOp
  have hb : i ≤ (l.length : Int) := h1
  simp [ho, hx, hlo, Instr.sliceAt, Instr.slice, run_underlying hT.sl, Instr.sliceBounds, run_sliceBound, h0, hb, sizeOf_u8 hT]

theorem wpl_slice_hi (hT : BT P) {v : Value} {l : List UInt8} (hr : Rd w v l) (j : Int) (h0 : 0 ≤ j) (h1 : j ≤ l.length)
    (hgd : o.guard = none) (x hi : Operand) (k : IntKind) (ho : o.op = .slice 22 x none (some hi) none) (hx : a.eval x = v) (hhi : a.eval hi = .int k j)
    (h : ∀ v', Rd w v' (l.take j.toNat) → wpList P ops Q rest (a.put o.dst v') w) : wpList P ops Q (o :: rest) a w := by
  obtain ⟨A, cap, rfl, hle, hm, _⟩ := id hr
  have hc := Rd.cut hr 0 j.toNat (by omega) (by omega)
  rw [List.drop_zero] at hc
  refine wpl_val hgd (v := .slice (if cap = 0 then A else A.map (·.add (0 * 1))) (j.toNat - 0) (cap - 0)) (w' := w) ?_ (h _ hc)
  unfold execOp
  have hb : j ≤ (cap : Int) := by omega
  simp [ho, hx, hhi, Instr.sliceAt, Instr.slice, run_underlying hT.sl, Instr.sliceBounds, run_sliceBound, h0, hb, sizeOf_u8 hT]

theorem wpl_slice_lohi (hT : BT P) {v : Value} {l : List UInt8} (hr : Rd w v l) (i j : Int) (h0 : 0 ≤ i) (hij : i ≤ j) (h1 : j ≤ l.length)
    (hgd : o.guard = none) (x lo hi : Operand) (k k' : IntKind) (ho : o.op = .slice 22 x (some lo) (some hi) none) (hx : a.eval x = v) (hlo : a.eval lo = .int k i) (hhi : a.eval hi = .int k' j)
    (h : ∀ v', Rd w v' ((l.take j.toNat).drop i.toNat) → wpList P ops Q rest (a.put o.dst v') w) : wpList P ops Q (o :: rest) a w := by
  obtain ⟨A, cap, rfl, hle, hm, _⟩ := id hr
  have hc := Rd.cut hr i.toNat j.toNat (by omega) (by omega)
  refine wpl_val hgd (v := .slice (if cap = i.toNat then A else A.map (·.add (i.toNat * 1))) (j.toNat - i.toNat) (cap - i.toNat)) (w' := w) ?_ (h _ hc)
  unfold execOp
  have hb : j ≤ (cap : Int) := by omega
  have hj0 : 0 ≤ j := by omega
  have hb2 := run_sliceBound (P := P) w k i j.toNat .sliceB h0 (by omega)
  simp [ho, hx, hlo, hhi, Instr.sliceAt, Instr.slice, run_underlying hT.sl, Instr.sliceBounds, run_sliceBound, hb, hj0, hb2, sizeOf_u8 hT]

def strL (l : List UInt8) : ByteArray := ⟨l.toArray⟩
theorem strL_toList (l : List UInt8) : (strL l).data.toList = l := rfl
theorem strL_size (l : List UInt8) : (strL l).size = l.length := by simp [strL, ByteArray.size]
theorem strL_of (s : ByteArray) : strL s.data.toList = s := by cases s; simp [strL]
theorem size_toList (s : ByteArray) : s.data.toList.length = s.size := by rw [Array.length_toList]; rfl

variable (w) in
theorem run_str (hT : BT P) {v : Value} {l : List UInt8} (hr : Rd w v l) : (convert 22 9 v).run P w = .ok (.string (strL l)) w := by
  obtain ⟨A, cap, rfl, hle, hm, hA, hc⟩ := hr
  by_cases hl : l = []
  · subst hl
    rw [run_convert_bytes_string w _ _ _ _ _ _ hT.sl hT.el hT.st]
    rcases A with _ | ad
    · simp [Conv.bytesToString, strL, ByteArray.empty, ByteArray.emptyWithCapacity]
      rfl
    · have := run_bytesToString (P := P) w ad 0 cap [] (by simp [loadCells, loadCellsFrom])
      exact this
  · obtain ⟨b, o, rfl, hc2⟩ := hc hl
    rw [run_convert_bytes_arg (P := P) w 22 5 hT.sl hT.el b o l.length cap (l.map fun c => (c.toNat : Int)) (by simp) (fun i hi => by
      rw [hc2 i hi]
      simp [List.getD, List.getElem?_eq_getElem hi]) _ hT.st]
    congr 2
    unfold strOfNums strL
    congr 1
    congr 1
    rw [List.map_map]
    conv => rhs; rw [← List.map_id l]
    refine List.map_congr_left fun c _ => ?_
    simp

theorem wpl_str (hT : BT P) {v : Value} {l : List UInt8} (hr : Rd w v l)
    (hgd : o.guard = none) (x : Operand) (ho : o.op = .convert 22 9 x) (hx : a.eval x = v)
    (h : wpList P ops Q rest (a.put o.dst (.string (strL l))) w) : wpList P ops Q (o :: rest) a w := by
  refine wpl_val hgd (v := .string (strL l)) (w' := w) ?_ h
  unfold execOp
  simp [ho, hx, run_str w hT hr]
end
#print axioms wpl_str
abbrev AtS (k : Nat) {P : Program} {ops : Array Oper} {Q : Exit → Act → World → Prop} {b : Op} {c : TypeId} {d : String} {e : Array Edge} {f : Option (Nat × Bool)} {r : List Oper} {a : Act} {w : World} : Prop := wpList P ops Q (⟨some k, b, c, d, e, f⟩ :: r) a w
abbrev AtW (t : TypeId) {P : Program} {ops : Array Oper} {Q : Exit → Act → World → Prop} {x y : Operand} {c : TypeId} {d : String} {e : Array Edge} {f : Option (Nat × Bool)} {r : List Oper} {a : Act} {w : World} : Prop := wpList P ops Q (⟨none, Op.store t x y, c, d, e, f⟩ :: r) a w
end Go.Proofs.YtbodppfpmpmadaaGreat

namespace Go.Proofs.YtbodppfpmpmadaaGreat
open Go.RowKit

theorem info_u8 : (Tryz.prog.info? 5).map (fun i => (i.zero, i.size, i.bytes)) = some (some (.int .u8 0), 1, 1) := by kernel_rfl
theorem bt : BT Tryz.prog := by
  obtain ⟨i, hi, hz0, hz1, hz2⟩ := info_parts info_u8
  exact ⟨Tryz.underlying22, Tryz.underlying5, Tryz.underlying9, ⟨i, hi, hz0, hz1, hz2⟩⟩
end Go.Proofs.YtbodppfpmpmadaaGreat

namespace Go.Proofs.YtbodppfpmpmadaaGreat

def fixB (x : Int) (n : Nat) : List UInt8 := (List.range n).map fun i => UInt8.ofNat (x / 2 ^ (8 * i) % 256).toNat

theorem fixB_length (x : Int) (n : Nat) : (fixB x n).length = n := by simp [fixB]
theorem fixB_succ (x : Int) (n : Nat) : fixB x (n + 1) = fixB x n ++ [UInt8.ofNat (x / 2 ^ (8 * n) % 256).toNat] := by
  simp [fixB, List.range_succ]

def fixOk (x n : Int) : Bool := decide (1 ≤ n) && decide (n ≤ 8) && (decide (n = 8) || decide (x / 2 ^ (8 * n).toNat = 0))
def leN : List UInt8 → Nat
  | [] => 0
  | b :: t => b.toNat + 256 * leN t

theorem leN_append (l : List UInt8) (b : UInt8) : leN (l ++ [b]) = leN l + b.toNat * 2 ^ (8 * l.length) := by
  induction l with
  | nil => simp [leN]
  | cons a t ih =>
    rw [List.cons_append, leN, ih, leN, List.length_cons, show 8 * (t.length + 1) = 8 + 8 * t.length by omega, Nat.pow_add]
    have : b.toNat * (2 ^ 8 * 2 ^ (8 * t.length)) = 256 * (b.toNat * 2 ^ (8 * t.length)) := by
      rw [show (2 : Nat) ^ 8 = 256 from rfl, ← Nat.mul_assoc, ← Nat.mul_assoc, Nat.mul_comm b.toNat 256]
    omega

theorem leN_lt (l : List UInt8) : leN l < 2 ^ (8 * l.length) := by
  induction l with
  | nil => simp [leN]
  | cons a t ih =>
    have ha := a.toNat_lt
    rw [leN, List.length_cons, show 8 * (t.length + 1) = 8 + 8 * t.length by omega, Nat.pow_add, show (2 : Nat) ^ 8 = 256 from rfl]
    omega

theorem take_succ_getD (l : List UInt8) (k : Nat) (h : k < l.length) : l.take (k + 1) = l.take k ++ [l[k]?.getD 0] := by
  rw [List.take_succ_eq_append_getElem h, List.getElem?_eq_getElem h]; rfl

theorem leN_take_succ (l : List UInt8) (k : Nat) (h : k < l.length) : leN (l.take (k + 1)) = leN (l.take k) + (l[k]?.getD 0).toNat * 2 ^ (8 * k) := by
  rw [take_succ_getD l k h, leN_append, List.length_take, Nat.min_eq_left (by omega)]

theorem leN_take_lt (l : List UInt8) (k : Nat) : leN (l.take k) < 2 ^ (8 * k) := by
  refine Nat.lt_of_lt_of_le (leN_lt _) (Nat.pow_le_pow_right (by decide) ?_)
  have := List.length_take_le k l
  omega

theorem or_byte (a k b : Nat) (ha : a < 2 ^ (8 * k)) (hb : b < 256) (hk : k ≤ 7) :
    bits .or .u64 (a : Int) (IntKind.u64.wrap (IntKind.u64.wrap (b : Int) * 2 ^ (8 * k))) = ((a + b * 2 ^ (8 * k) : Nat) : Int) := by
  have hp : (2 : Nat) ^ (8 * k) * 2 ^ (64 - 8 * k) = 18446744073709551616 := by
    rw [← Nat.pow_add, show 8 * k + (64 - 8 * k) = 64 by omega]
  have hq : 256 ≤ (2 : Nat) ^ (64 - 8 * k) := Nat.pow_le_pow_right (n := 2) (by decide) (show 8 ≤ 64 - 8 * k by omega)
  have h1 : b * 2 ^ (8 * k) < 18446744073709551616 := by
    rw [← hp, Nat.mul_comm]
    exact Nat.mul_lt_mul_of_pos_left (by omega) (Nat.two_pow_pos _)
  have h2 : a < 18446744073709551616 := by
    rw [← hp]
    exact Nat.lt_of_lt_of_le ha (Nat.le_mul_of_pos_right _ (by omega))
  rw [IntWalk.u64_in (b : Int) (by omega), show (b : Int) * 2 ^ (8 * k) = ((b * 2 ^ (8 * k) : Nat) : Int) by simp, IntWalk.u64_in _ (by omega), u64_or_nat a _ h2 h1]
  congr 1
  rw [Nat.or_comm, nat_join (8 * k) _ a (Nat.mul_mod_left _ _) ha, Nat.add_comm]
def sizeI (x : Int) : Nat := if x ≤ 250 then 1 else if x < 65536 then 3 else if x < 16777216 then 4 else 9

def intB (x : Int) : List UInt8 := if x ≤ 250 then fixB x 1 else if x < 65536 then 252 :: fixB x 2 else if x < 16777216 then 253 :: fixB x 3 else 254 :: fixB x 8

theorem intB_length (x : Int) : (intB x).length = sizeI x := by
  unfold intB sizeI
  split
  · exact fixB_length x 1
  · split
    · simp [fixB_length]
    · split <;> simp [fixB_length]

theorem sizeI_le (x : Int) : 1 ≤ sizeI x ∧ sizeI x ≤ 9 := by
  unfold sizeI
  split
  · omega
  · split
    · omega
    · split <;> omega

def wide (c : UInt8) : Nat := if c = 252 then 2 else if c = 253 then 3 else 8

def readI : List UInt8 → Int × Nat × Int
  | [] => (0, 0, 4)
  | c :: t => if c.toNat ≤ 250 then (c.toNat, 1, 0) else if c = 251 ∨ c = 255 then (0, 0, 5) else if t.length < wide c then (0, 0, 4) else (leN (t.take (wide c)), wide c + 1, 0)
end Go.Proofs.YtbodppfpmpmadaaGreat

namespace Go.Proofs.YtbodppfpmpmadaaGreat
open Go.RowKit

def RetB (w : World) (l : List UInt8) (e : Ending) (w' : World) : Prop := ∃ v, e = .returned v ∧ Own w' w.heap.size v l ∧ Ext w w'

set_option maxHeartbeats 400000 in
theorem clone_c (w : World) (v : Value) (l : List UInt8) (h : Rd w v l) (hl : l.length ≤ 10000000) :
    Calls Tryz.prog 97 #[v] w (RetB w l) := by
  have h' := h
  obtain ⟨A, cap, rfl, hle, hm, hA, hc⟩ := h
  have H := Lib.hid h'
  clear h'
  rcases A with _ | ad
  · have hl0 : l = [] := by
      rcases l with _ | ⟨x, m⟩
      · rfl
      · obtain ⟨b, o, h, _⟩ := hc (by simp)
        cases h
    subst hl0
    clear hc hA
    have hn := fun wx => Lib.run_eql_slice_nil (P := Tryz.prog) wx 22 5 none 0 cap 0 0 Tryz.underlying22
    go_enter Tryz.func97, Tryz.ntmps97
    go_wp2_with fail
    go_ret
    exact ⟨_, rfl, Own.nil _ _, Ext.refl _⟩
  · clear hc hA
    have hn := fun wx => Lib.run_eql_slice_nil (P := Tryz.prog) wx 22 5 (some ad) l.length cap 0 0 Tryz.underlying22
    go_enter Tryz.func97, Tryz.ntmps97
    go_wp2_with (at_builtin; refine wpl_append_rd bt (base := w.heap.size) (l := []) (own_new w #[] [] rfl 0 rfl (by decide) (Nat.le_refl _)) ((H.out).ext ((Ext.refl w).alloc _)) rfl _ _ rfl rfl rfl (by simp; omega) (by simp) ?_; intro v1 w1 ho hb)
    go_ret
    exact ⟨_, rfl, ho, ((Ext.refl w).alloc _).below hb (Nat.le_refl _)⟩
end Go.Proofs.YtbodppfpmpmadaaGreat

namespace Go.Proofs.YtbodppfpmpmadaaGreat
open Go.RowKit

theorem strL_tl (l : List UInt8) : (strL l).toList = l := by rw [ByteArray.toList_eq]; rfl

theorem same_c (w : World) (a b : Value) (l m : List UInt8) (ha : Rd w a l) (hb : Rd w b m) (r : Bool) (hr : (l == m) = r) :
    Calls Tryz.prog 30 #[a, b] w fun e w' => e = .returned (.bool r) ∧ w = w' := by
  have HA := Lib.hid ha
  have HB := Lib.hid hb
  have HR := Lib.hid hr
  clear ha hb hr
  go_enter Tryz.func30, Tryz.ntmps30
  go_wp2_with (first | ((with_reducible show AtS 6); refine wpl_str bt HA.out rfl _ rfl rfl ?_) | ((with_reducible show AtS 8); refine wpl_str bt HB.out rfl _ rfl rfl ?_))
  go_ret
  refine ⟨?_, rfl⟩
  rw [← HR.out]
  show Ending.returned (Value.bool ((strL l).toList == (strL m).toList)) = _
  rw [strL_tl, strL_tl]

theorem rd_lit (w : World) (cs : Array Value) (l : List UInt8) (hc : cs = (bc l).toArray) (hl : l.length ≤ 1000) (n g : Nat) (hn : n = l.length) (hg : g = w.heap.size) :
    Rd (w.alloc (.cells cs 5)) (.slice (some ⟨g, 0, none⟩) n n) l := by
  subst hg
  exact rd_new w cs l hc n hn (by unfold maxLen; omega)

def OwnS (w : World) (v : Value) (l : List UInt8) : Prop := ∃ A cap, v = .slice A l.length cap ∧ l.length + 8 ≤ cap ∧ Rd w (.slice A (l.length + 8) cap) (l ++ List.replicate 8 165)

theorem OwnS.ext {w w' : World} {v : Value} {l : List UInt8} (h : OwnS w v l) (k : Ext w w') : OwnS w' v l := by
  obtain ⟨A, cap, hv, hc, hr⟩ := h
  exact ⟨A, cap, hv, hc, hr.ext k⟩

theorem OwnS.rd {w : World} {v : Value} {l : List UInt8} (h : OwnS w v l) : Rd w v l := by
  obtain ⟨A, cap, rfl, hc, hr⟩ := h
  have := Rd.cut hr 0 l.length (Nat.zero_le _) (by simp)
  have h0 : cap ≠ 0 := by omega
  rw [List.drop_zero, List.take_left, if_neg h0, Nat.sub_zero, Nat.sub_zero] at this
  cases A with
  | none => exact this
  | some a => simpa [Addr.add] using this

section
variable {P : Program} {w : World} {ops : Array Oper} {rest : List Oper} {o : Oper} {a : Act} {Q : Exit → Act → World → Prop}

end

end Go.Proofs.YtbodppfpmpmadaaGreat

namespace Go.Proofs.YtbodppfpmpmadaaGreat
open Go.RowKit

def Cells (w : World) (v : Value) (n : Nat) (f : Nat → Value) : Prop :=
  ∃ (A : Option Addr) (cap : Nat), v = .slice A n cap ∧ n ≤ cap ∧ cap ≤ maxLen ∧ (0 < n → ∃ b o, A = some ⟨b, o, none⟩ ∧ ∀ j, j < n → w.cell? ⟨b, o + j, none⟩ = some (f j))
end Go.Proofs.YtbodppfpmpmadaaGreat

namespace Go.Proofs.YtbodppfpmpmadaaGreat
open Go.RowKit

section
variable {P : Program} {w : World} {ops : Array Oper} {o : Oper} {a : Act} {K : Act → World → Prop} {Q : Exit → Act → World → Prop} {E : Prop}

theorem step_append_rd (hT : BT P) {base : Nat} {v vx : Value} {l m : List UInt8} (hown : Own w base v l) (hr : Rd w vx m)
    (hgd : o.guard = none) (s x : Operand) (ho : o.op = .call { callee := .builtin .append, args := #[s, x], argTypes := #[22, 22] })
    (hs : a.eval s = v) (hx : a.eval x = vx) (hlen : l.length + m.length ≤ 100000000) (hbase : base ≤ w.heap.size)
    (h : ∀ v' w', Own w' base v' (l ++ m) → Below base w w' → K (a.put o.dst v') w') : if Region.wanted o (yielded ops a.tmps) = true then Oper.wp P o a w K Q else E := by
  have hw : Region.wanted o (yielded ops a.tmps) = true := by simp [Region.wanted, hgd]
  rw [if_pos hw]
  obtain ⟨v', w', hr, h2, h3⟩ := run_append_rd (P := P) w hT o.type hown hr hlen hbase
  unfold Oper.wp execOp
  simp only [ho, resolve, invoke, builtin, Sem.run_bind, Sem.run_pure, Result.andThen_ok, List.map_toArray, List.map_cons, List.map_nil, hs, hx, hr]
  exact h v' w' h2 h3

theorem step_append_st (hT : BT P) {base : Nat} {v : Value} {l : List UInt8} (sx : ByteArray) (hown : Own w base v l)
    (hgd : o.guard = none) (s x : Operand) (ho : o.op = .call { callee := .builtin .append, args := #[s, x], argTypes := #[22, 9] })
    (hs : a.eval s = v) (hx : a.eval x = .string sx) (hlen : l.length + sx.size ≤ 100000000) (hbase : base ≤ w.heap.size)
    (h : ∀ v' w', Own w' base v' (l ++ sx.data.toList) → Below base w w' → K (a.put o.dst v') w') : if Region.wanted o (yielded ops a.tmps) = true then Oper.wp P o a w K Q else E := by
  have hw : Region.wanted o (yielded ops a.tmps) = true := by simp [Region.wanted, hgd]
  rw [if_pos hw]
  obtain ⟨v', w', hr, h2, h3⟩ := run_append_st (P := P) w hT o.type sx hown hlen hbase
  unfold Oper.wp execOp
  simp only [ho, resolve, invoke, builtin, Sem.run_bind, Sem.run_pure, Result.andThen_ok, List.map_toArray, List.map_cons, List.map_nil, hs, hx, hr]
  exact h v' w' h2 h3
end

def Box (W : World) (g : Nat) (cs : List Value) : Prop := ∀ j, j < cs.length → W.cell? ⟨g, j, none⟩ = some (cs.getD j undef)
theorem Box.new (w : World) (cs : List Value) (t : TypeId) : Box (w.alloc (.cells cs.toArray t)) w.heap.size cs := fun j hj => by
  rw [cell_of_row _ _ j _ _ _ (heap_alloc_new w _)]
  simp [List.getD, List.getElem?_eq_getElem hj]
theorem Box.ext {W W' : World} {g : Nat} {cs : List Value} (h : Box W g cs) (k : Ext W W') : Box W' g cs := fun j hj => k.cell (h j hj)
theorem Box.below {W W' : World} {g B : Nat} {cs : List Value} (h : Box W g cs) (k : Below B W W') (hg : g < B) : Box W' g cs := fun j hj => by
  rw [k.cell (p := ⟨g, j, none⟩) hg]; exact h j hj
end Go.Proofs.YtbodppfpmpmadaaGreat

namespace Go.Proofs.YtbodppfpmpmadaaGreat
open Go.RowKit
section
variable {P : Program} {ops : Array Oper} {rest : List Oper} {o : Oper} {a : Act} {w : World} {Q : Exit → Act → World → Prop}

theorem wpl_load_p (hg : o.guard = none) (ty : TypeId) (x : Operand) (ho : o.op = .load ty x)
    (g k : Nat) (hx : a.eval x = .pointer (some ⟨g, k, none⟩)) (cs : List Value) (d : TypeDesc) (hr : w.rangeAt g k cs) (hu : P.underlying ty = some d) (hd : d.isRow = true) (hi : (P.info? ty).map (·.size) = some cs.length)
    (h : wpList P ops Q rest (a.put o.dst (.agg cs.toArray)) w) : wpList P ops Q (o :: rest) a w :=
  wpList_load_mid hg ty x ho g k hx cs d hr hu hd hi h
end
theorem Box.range {W : World} {g : Nat} {cs : List Value} (h : Box W g cs) : W.rangeAt g 0 cs := fun j v hv => by
  obtain ⟨hj, hv'⟩ := List.getElem?_eq_some_iff.1 hv
  have := h j hj
  rw [List.getD_eq_getElem?_getD, hv] at this
  rw [Nat.zero_add]
  exact this
theorem Box.part {W : World} {g k : Nat} {cs ds : List Value} (h : Box W g cs) (n : Nat) (hd : (cs.drop k).take n = ds) : W.rangeAt g k ds := fun j v hv => by
  subst hd
  have h1 : j < n := by
    obtain ⟨hj, _⟩ := List.getElem?_eq_some_iff.1 hv
    rw [List.length_take] at hj
    omega
  rw [List.getElem?_take, if_pos h1, List.getElem?_drop] at hv
  have := h.range (k + j) v hv
  rwa [Nat.zero_add] at this
end Go.Proofs.YtbodppfpmpmadaaGreat

namespace Go.Proofs.YtbodppfpmpmadaaGreat
open Go.RowKit

section
variable {P : Program} (w : World)

theorem run_append_rdg (hT : BT P) (ty : TypeId) {base : Nat} {v vx : Value} {l m : List UInt8} (hown : Own w base v l) (hr : Rd w vx m)
    (hlen : l.length + m.length ≤ 100000000) (hbase : base ≤ w.heap.size) :
    ∃ v' w', (Builtin.append_ #[22, 22] ty #[v, vx]).run P w = .ok v' w' ∧ Own w' base v' (l ++ m) ∧ w.grownBy w' v.ownBlock := by
  obtain ⟨i, hi, hz, hs1, hb1⟩ := hT.info
  obtain ⟨A, cap, rfl, hle, hm, hA, hc⟩ := hr
  rcases A with _ | ad
  · have hm0 : m = [] := by
      rcases m with _ | ⟨x, m⟩
      · rfl
      · obtain ⟨b, o, h, _⟩ := hc (by simp)
        cases h
    subst hm0
    refine ⟨v, w, ?_, by simpa using hown, World.grownBy.refl _ _⟩
    rcases hown.2 with ⟨rfl, _⟩ | ⟨g, cap', cur, rfl, _, _, hnc, _⟩
    · simp [Builtin.append_, run_underlying hT.sl, sizeOf, typeInfo, hi, Builtin.lenOf, Builtin.firstCells]
    · simp [Builtin.append_, run_underlying hT.sl, sizeOf, typeInfo, hi, Builtin.lenOf, Builtin.firstCells, hnc, storeCells]
  · obtain ⟨v', w', hrun, h2, h3, _⟩ := run_append_own (P := P) w base 22 ty 5 i (.int .u8 0) 1 1 hT.sl hi hz hs1 hb1 rfl (by decide) v l.length (bc l) hown ad m.length cap (bc m)
      (by rw [bc_length, Nat.mul_one]) (fun j u hj => by
        have hjl : j < m.length := by
          rcases Nat.lt_or_ge j m.length with h | h
          · exact h
          · rw [List.getElem?_eq_none (by rw [bc_length]; exact h)] at hj; cases hj
        rw [bc_get m j hjl] at hj
        obtain ⟨b, o, h, hcell⟩ := hc (by intro h; subst h; simp at hjl)
        injection h with h
        subst h
        rw [addrk, hcell j hjl]
        exact hj) (bc_one m) (by unfold maxLen; omega) (by omega) hbase
    refine ⟨v', w', hrun, ?_, h3⟩
    unfold Own
    rw [List.length_append, bc_append]
    exact h2

variable {w}
variable {ops : Array Oper} {o : Oper} {a : Act} {K : Act → World → Prop} {Q : Exit → Act → World → Prop} {E : Prop}

theorem step_append_rdg (hT : BT P) {base : Nat} {v vx : Value} {l m : List UInt8} (hown : Own w base v l) (hr : Rd w vx m)
    (hgd : o.guard = none) (s x : Operand) (ho : o.op = .call { callee := .builtin .append, args := #[s, x], argTypes := #[22, 22] })
    (hs : a.eval s = v) (hx : a.eval x = vx) (hlen : l.length + m.length ≤ 100000000) (hbase : base ≤ w.heap.size)
    (h : ∀ v' w', Own w' base v' (l ++ m) → Below base w w' → w.grownBy w' v.ownBlock → K (a.put o.dst v') w') : if Region.wanted o (yielded ops a.tmps) = true then Oper.wp P o a w K Q else E := by
  have hw : Region.wanted o (yielded ops a.tmps) = true := by simp [Region.wanted, hgd]
  rw [if_pos hw]
  obtain ⟨v', w', hr, h2, h3⟩ := run_append_rdg (P := P) w hT o.type hown hr hlen hbase
  unfold Oper.wp execOp
  simp only [ho, resolve, invoke, builtin, Sem.run_bind, Sem.run_pure, Result.andThen_ok, List.map_toArray, List.map_cons, List.map_nil, hs, hx, hr]
  exact h v' w' h2 (Own.below_of hown hbase h3) h3
end

theorem rd_far {w w' : World} {row : Option Nat} {g n cap : Nat} {l : List UInt8} (h : Rd w (.slice (some ⟨g, 0, none⟩) n cap) l) (k : w.grownBy w' row) (hne : some g ≠ row) : Rd w' (.slice (some ⟨g, 0, none⟩) n cap) l := by
  obtain ⟨A, cap', hv, h1, h2, h3, h4⟩ := h
  refine ⟨A, cap', hv, h1, h2, h3, fun hl => ?_⟩
  obtain ⟨b, o, hA, hc⟩ := h4 hl
  refine ⟨b, o, hA, fun j hj => ?_⟩
  have hb' := World.block_lt_of_cell? w _ (hc j hj)
  have hb : b = g := by
    subst hA
    injection hv with hv _ _
    injection hv with hv
    injection hv with hv
    exact hv.symm
  rw [k.cell_far ⟨b, o + j, none⟩ hb' (by rw [hb]; exact hne)]
  exact hc j hj

theorem own_nil (w : World) (g base : Nat) (hg : g = w.heap.size) (hb : base ≤ w.heap.size) : Own (w.alloc (.cells #[] 5)) base (.slice (some ⟨g, 0, none⟩) 0 0) [] :=
  hg ▸ own_new w #[] [] rfl 0 rfl (by unfold maxLen; simp) hb
end Go.Proofs.YtbodppfpmpmadaaGreat

namespace Go.Proofs.YtbodppfpmpmadaaGreat
open Go.RowKit

def On (g : Nat) (w w' : World) : Prop := w.grownBy w' (some g)
theorem On.refl (g : Nat) (w : World) : On g w w := ⟨rfl, rfl, rfl, Nat.le_refl _, fun _ _ _ => rfl⟩
theorem On.trans {g : Nat} {a b c : World} (h : On g a b) (k : On g b c) : On g a c :=
  ⟨k.os.trans h.os, k.tape.trans h.tape, k.output.trans h.output, Nat.le_trans h.size k.size, fun i hi hne => (k.block i (Nat.lt_of_lt_of_le hi h.size) hne).trans (h.block i hi hne)⟩
theorem On.ext {g : Nat} {a b c : World} (h : On g a b) (k : Ext b c) : On g a c := h.trans ⟨k.os, k.tape, k.output, Ext.size k, fun i hi _ => k.block i hi⟩
theorem On.of {g : Nat} {b c : World} (k : Ext b c) : On g b c := (On.refl g b).ext k
theorem On.set {g : Nat} {a b : World} (h : On g a b) (j : Nat) (u : Value) : On g a (b.setCell ⟨g, j, none⟩ u) :=
  h.trans ⟨rfl, rfl, rfl, by simp [World.setCell], fun k _ hk => Below.heap_setCell _ _ _ k (fun e => hk (by rw [e]))⟩
theorem On.size {g : Nat} {a b : World} (h : On g a b) : a.heap.size ≤ b.heap.size := World.grownBy.size h
theorem Ext.on {g : Nat} {a b c : World} (h : Ext a b) (k : On g b c) (hg : a.heap.size ≤ g) : Ext a c := Below.grown h k (Ext.size h) (fun i hi => by cases hi; exact hg)
theorem On.cell {g : Nat} {b c : World} (k : On g b c) {p : Addr} {v : Value} (h : b.cell? p = some v) (hne : p.block ≠ g) : c.cell? p = some v :=
  (World.grownBy.cell_far k p (World.block_lt_of_cell? b _ h) (fun e => hne (by cases e; rfl))).trans h
theorem On.frozen {g : Nat} {b c : World} (k : On g b c) {p : Addr} (h : b.frozen? p = false) (hlt : p.block < b.heap.size) (hne : p.block ≠ g) : c.frozen? p = false :=
  (World.grownBy.frozen_far k p hlt (fun e => hne (by cases e; rfl))).trans h
theorem Own.on {g base : Nat} {w w' : World} {v : Value} {l : List UInt8} (h : Own w base v l) (k : On g w w') (hg : g < base) : Own w' base v l := by
  refine World.ownsRow.kept h k ?_
  right
  intro e
  have := (World.ownsRow.lt h g e).1
  omega
theorem Box.on {g b : Nat} {w w' : World} {cs : List Value} (h : Box w b cs) (k : On g w w') (hne : b ≠ g) : Box w' b cs := fun j hj => k.cell (h j hj) hne

structure Rdr (a w : World) (g : Nat) (s : List UInt8 × Int) : Prop where
  lo : a.heap.size ≤ g
  ext : Ext a w
  f0 : w.frozen? ⟨g, 0, none⟩ = false
  f1 : w.frozen? ⟨g, 1, none⟩ = false
  c1 : w.cell? ⟨g, 1, none⟩ = some (.int .i64 s.2)
  c0 : ∃ v, w.cell? ⟨g, 0, none⟩ = some v ∧ Rd a v s.1

theorem Rdr.lt {a w : World} {g : Nat} {s : List UInt8 × Int} (h : Rdr a w g s) : g < w.heap.size := World.block_lt_of_cell? w _ h.c1
theorem Rdr.grow {a w w' : World} {g : Nat} {s : List UInt8 × Int} (h : Rdr a w g s) (k : Ext w w') : Rdr a w' g s :=
  ⟨h.lo, h.ext.trans k, (k.frozen h.lt).trans h.f0, (k.frozen h.lt).trans h.f1, k.cell h.c1, by obtain ⟨v, h0, hr⟩ := h.c0; exact ⟨v, k.cell h0, hr⟩⟩
theorem Rdr.on {a w w' : World} {g b : Nat} {s : List UInt8 × Int} (h : Rdr a w g s) (k : On b w w') (hne : g ≠ b) (hb : a.heap.size ≤ b) : Rdr a w' g s :=
  ⟨h.lo, h.ext.on k hb, k.frozen h.f0 h.lt hne, k.frozen h.f1 h.lt hne, k.cell h.c1 hne, by obtain ⟨v, h0, hr⟩ := h.c0; exact ⟨v, k.cell h0 hne, hr⟩⟩
theorem Rdr.set0 {a w : World} {g : Nat} {s : List UInt8 × Int} (h : Rdr a w g s) {v : Value} {l : List UInt8} (hr : Rd a v l) : Rdr a (w.setCell ⟨g, 0, none⟩ v) g (l, s.2) := by
  obtain ⟨v0, h0, _⟩ := h.c0
  exact ⟨h.lo, h.ext.setCell h.lo v, by rw [World.frozen?_setCell]; exact h.f0, by rw [World.frozen?_setCell]; exact h.f1, (World.cell?_setCell_other _ _ _ _ (by simp)).trans h.c1, v, World.cell?_setCell_same _ _ _ h0, hr⟩
theorem Rdr.set1 {a w : World} {g : Nat} {s : List UInt8 × Int} (h : Rdr a w g s) (e : Int) : Rdr a (w.setCell ⟨g, 1, none⟩ (.int .i64 e)) g (s.1, e) := by
  obtain ⟨v0, h0, hr⟩ := h.c0
  exact ⟨h.lo, h.ext.setCell h.lo _, by rw [World.frozen?_setCell]; exact h.f0, by rw [World.frozen?_setCell]; exact h.f1, World.cell?_setCell_same _ _ _ h.c1, v0, (World.cell?_setCell_other _ _ _ _ (by simp)).trans h0, hr⟩
theorem Rdr.new {w : World} {v : Value} {l : List UInt8} (hr : Rd w v l) (e : Int) (t : TypeId) : Rdr w (w.alloc (.cells #[v, .int .i64 e] t)) w.heap.size (l, e) :=
  ⟨Nat.le_refl _, (Ext.refl w).alloc _, World.frozen?_alloc_new _ _ _ _, World.frozen?_alloc_new _ _ _ _, (Box.new w [v, .int .i64 e] t) 1 (by simp), v, (Box.new w [v, .int .i64 e] t) 0 (by simp), hr⟩

end Go.Proofs.YtbodppfpmpmadaaGreat

namespace Go.Proofs.YtbodppfpmpmadaaGreat
open Go.RowKit

theorem rd_of {w : World} {a : Option Addr} {len cap : Nat} {zs : List Int}
    (h : (a = none ∧ len = 0 ∧ cap = 0 ∧ zs = []) ∨ ∃ x, a = some x ∧ len ≤ cap ∧ cap ≤ maxLen ∧ zs.length = cap ∧ (∀ i, i < zs.length → w.cell? (x.add i) = some (.int .u8 (zs.getD i 0))) ∧ ∀ n ∈ zs, (Lit.int .u8 n).wf = true) :
    ∃ l : List UInt8, Rd w (.slice a len cap) l ∧ l.length = len := by
  rcases h with ⟨rfl, rfl, rfl, rfl⟩ | ⟨x, rfl, hl, hm, hz, hc, hw⟩
  · exact ⟨[], Rd.nil w, rfl⟩
  · have hlen : ((zs.take len).map fun n => UInt8.ofNat n.toNat).length = len := by rw [List.length_map, List.length_take, hz, Nat.min_eq_left hl]
    refine ⟨(zs.take len).map fun n => UInt8.ofNat n.toNat, ⟨some x, cap, by rw [hlen], by rw [hlen]; exact hl, hm, (fun h => by cases h), fun hne => ?_⟩, hlen⟩
    have hpos : 0 < len := by
      rcases Nat.eq_zero_or_pos len with h0 | h0
      · exact absurd (List.eq_nil_of_length_eq_zero (by rw [hlen]; exact h0)) hne
      · exact h0
    have h0 := hc 0 (by omega)
    obtain ⟨b, o, sp⟩ := x
    have hsp : sp = none := by
      cases sp with
      | none => rfl
      | some s =>
        have e : (⟨b, o, some s⟩ : Addr).add 0 = ⟨b, o, some s⟩ := rfl
        rw [e] at h0
        unfold World.cell? at h0
        split at h0 <;> simp at h0
    subst hsp
    refine ⟨b, o, rfl, fun j hj => ?_⟩
    rw [hlen] at hj
    have h1 := hc j (by omega)
    rw [addrk] at h1
    rw [h1]
    have hjz : j < zs.length := by omega
    have hwf := hw zs[j] (List.getElem_mem hjz)
    have hb : 0 ≤ zs[j] ∧ zs[j] ≤ 255 := by
      simp [Lit.wf, IntKind.min, IntKind.max, IntKind.signed, IntKind.bits] at hwf
      omega
    have e1 : zs.getD j 0 = zs[j] := by rw [List.getD_eq_getElem?_getD, List.getElem?_eq_getElem hjz]; rfl
    have e2 : ((zs.take len).map fun n => UInt8.ofNat n.toNat).getD j 0 = UInt8.ofNat zs[j].toNat := by
      rw [List.getD_eq_getElem?_getD, List.getElem?_map, List.getElem?_take, if_pos hj, List.getElem?_eq_getElem hjz]; rfl
    rw [e1, e2]
    congr 2
    rw [UInt8.toNat_ofNat']
    omega

theorem wf_u32 {x : Int} (h : (Lit.int .u32 x).wf = true) : 0 ≤ x ∧ x < 4294967296 := by
  simp [Lit.wf, IntKind.min, IntKind.max, IntKind.signed, IntKind.bits] at h
  omega
end Go.Proofs.YtbodppfpmpmadaaGreat

