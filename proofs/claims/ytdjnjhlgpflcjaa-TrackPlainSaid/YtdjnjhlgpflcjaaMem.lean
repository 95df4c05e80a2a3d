/- Bytes in memory: what it means that a slice of bytes reads as a list, that the call owns a slice of bytes, and that a world only grew; the laws on append that go with these words. No condition; no program. -/
import Derived.WalkKit
import Derived.WalkSpells
import Derived.Below
import Derived.Lib.AppendStr
import Derived.Lib.ConvBytes
import Derived.Lib.Hide
import Derived.Laws.BytesArg
import Derived.Maps.AppendAt
import Derived.Deep.Draws
import Derived.Lib.SliceRun
namespace Go.Proofs.Ytdjnjhlgpflcjaa
open Go.RowKit

/-- A list of bytes as cells. -/
def bc (l : List UInt8) : List Value := l.map fun b => Value.int .u8 (b.toNat : Int)

theorem bc_length (l : List UInt8) : (bc l).length = l.length := by simp [bc]
theorem bc_append (l m : List UInt8) : bc (l ++ m) = bc l ++ bc m := by simp [bc]
theorem bc_one (l : List UInt8) : ∀ u ∈ bc l, u.oneCell' = true := by
  intro u hu
  simp only [bc, List.mem_map] at hu
  obtain ⟨b, _, rfl⟩ := hu
  rfl
theorem bc_get (l : List UInt8) (j : Nat) (h : j < l.length) : (bc l)[j]? = some (.int .u8 ((l.getD j 0).toNat : Int)) := by
  simp [bc, List.getElem?_eq_getElem h, List.getD]

/-- The world has only grown: what was there is as it was. -/
def Ext (w w' : World) : Prop := Below w.heap.size w w'

theorem Ext.refl (w : World) : Ext w w := Below.refl _ _
theorem Ext.size {w w' : World} (h : Ext w w') : w.heap.size ≤ w'.heap.size := Below.size h
theorem Ext.trans {a b c : World} (h : Ext a b) (k : Ext b c) : Ext a c := Below.trans h (Below.mono k (Below.size h))
theorem Ext.alloc {a w : World} (h : Ext a w) (o : Obj) : Ext a (w.alloc o) := Below.alloc h (Below.size h) o
theorem Ext.drew {a w : World} (h : Ext a w) : Ext a w.drew := Below.drew h
theorem Ext.drewN {a w : World} (h : Ext a w) (n : Nat) : Ext a (w.drewN n) := by
  have k : Below a.heap.size a w := h
  exact ⟨k.os, k.tape, k.output, k.size, k.block⟩
theorem Ext.below {a w w' : World} {B : Nat} (h : Ext a w) (k : Below B w w') (hB : a.heap.size ≤ B) : Ext a w' := Below.trans h (Below.mono k hB)
theorem Ext.setCell {a w : World} (h : Ext a w) {p : Addr} (hp : a.heap.size ≤ p.block) (u : Value) : Ext a (w.setCell p u) := Below.setCell h hp u
theorem Ext.cell {w w' : World} (h : Ext w w') {p : Addr} {v : Value} (hc : w.cell? p = some v) : w'.cell? p = some v :=
  (Below.cell h (World.block_lt_of_cell? w p hc)).trans hc

/-- A slice of bytes that reads as a list. -/
def Rd (w : World) (v : Value) (l : List UInt8) : Prop :=
  ∃ (A : Option Addr) (cap : Nat), v = .slice A l.length cap ∧ l.length ≤ cap ∧ cap ≤ maxLen ∧ (A = none → cap = 0) ∧
    (l ≠ [] → ∃ b o, A = some ⟨b, o, none⟩ ∧ ∀ j, j < l.length → w.cell? ⟨b, o + j, none⟩ = some (.int .u8 ((l.getD j 0).toNat : Int)))

theorem Rd.below {w w' : World} {B : Nat} {v : Value} {l : List UInt8} (h : Rd w v l) (k : Below B w w') (hb : w.heap.size ≤ B) : Rd w' v l := by
  obtain ⟨A, cap, hv, h1, h2, h3, h4⟩ := h
  refine ⟨A, cap, hv, h1, h2, h3, fun hl => ?_⟩
  obtain ⟨b, o, hA, hc⟩ := h4 hl
  refine ⟨b, o, hA, fun j hj => ?_⟩
  have hb' := World.block_lt_of_cell? w _ (hc j hj)
  exact (k.cell (p := ⟨b, o + j, none⟩) (Nat.lt_of_lt_of_le hb' hb)).trans (hc j hj)
theorem Rd.ext {w w' : World} {v : Value} {l : List UInt8} (h : Rd w v l) (k : Ext w w') : Rd w' v l := Rd.below h k (Nat.le_refl _)
theorem Rd.nil (w : World) : Rd w (.slice none 0 0) [] := ⟨none, 0, rfl, Nat.le_refl _, by unfold maxLen; omega, fun _ => rfl, fun h => absurd rfl h⟩
theorem Rd.le {w : World} {v : Value} {l : List UInt8} (h : Rd w v l) : l.length ≤ maxLen := by obtain ⟨A, cap, hv, h1, h2, _⟩ := h; omega

/-- A slice of bytes that the call owns: it was made from block 'base' on, and reads as a list. -/
def Own (w : World) (base : Nat) (v : Value) (l : List UInt8) : Prop := w.ownsRow base 5 1 v l.length (bc l)

theorem addr0 (g j : Nat) : (⟨g, 0, none⟩ : Addr).add j = ⟨g, j, none⟩ := by unfold Addr.add; split <;> simp_all
theorem addrk (g o j : Nat) : (⟨g, o, none⟩ : Addr).add j = ⟨g, o + j, none⟩ := by unfold Addr.add; split <;> simp_all

theorem Own.rd {w : World} {base : Nat} {v : Value} {l : List UInt8} (h : Own w base v l) : Rd w v l := by
  have hc := fun g hg => h.cells (g := g) hg
  obtain ⟨h1, h2⟩ := h
  rcases h2 with ⟨rfl, h0⟩ | ⟨g, cap, cur, rfl, hb, hg, hn, hm, hs, ht⟩
  · have : l = [] := List.eq_nil_of_length_eq_zero h0
    subst this
    exact Rd.nil w
  · refine ⟨_, cap, rfl, hn, hm, (fun h => by cases h), fun _ => ⟨g, 0, rfl, fun j hj => ?_⟩⟩
    have := hc g rfl j _ (bc_get l j hj)
    rw [addr0] at this
    rw [Nat.zero_add]
    exact this
theorem Own.nil (w : World) (base : Nat) : Own w base (.slice none 0 0) [] := World.ownsRow_nil w base _ 1
theorem Own.ext {w w' : World} {base : Nat} {v : Value} {l : List UInt8} (h : Own w base v l) (k : Ext w w') : Own w' base v l :=
  World.ownsRow.kept (row := none) h ⟨k.os, k.tape, k.output, Ext.size k, fun i hi _ => k.block i hi⟩ (by cases hv : v.ownBlock <;> simp)
theorem Own.more {w : World} {base base' : Nat} {v : Value} {l : List UInt8} (h : Own w base v l) (hb : base' ≤ base) : Own w base' v l := by
  obtain ⟨h1, h2⟩ := h
  refine ⟨h1, ?_⟩
  rcases h2 with h2 | ⟨g, cap, cur, hv, hg, r⟩
  · exact .inl h2
  · exact .inr ⟨g, cap, cur, hv, Nat.le_trans hb hg, r⟩
theorem Own.below_of {w w' : World} {base : Nat} {v : Value} {l : List UInt8} (h : Own w base v l) (hb : base ≤ w.heap.size) (k : w.grownBy w' v.ownBlock) : Below base w w' :=
  (Below.refl base w).grown k hb (fun g hg => (World.ownsRow.lt h g hg).1)

/-- What the program's table says of the types of bytes. -/
structure BT (P : Program) : Prop where
  sl : P.underlying 23 = some (.slice 5)
  el : P.underlying 5 = some (.int .u8)
  st : P.underlying 9 = some .string
  info : ∃ i, P.info? 5 = some i ∧ i.zero = some (.int .u8 0) ∧ i.size = 1 ∧ i.bytes = 1

section
variable {P : Program} (w : World)

theorem run_append_rd (hT : BT P) (ty : TypeId) {base : Nat} {v vx : Value} {l m : List UInt8} (hown : Own w base v l) (hr : Rd w vx m)
    (hlen : l.length + m.length ≤ 100000000) (hbase : base ≤ w.heap.size) :
    ∃ v' w', (Builtin.append_ #[23, 23] ty #[v, vx]).run P w = .ok v' w' ∧ Own w' base v' (l ++ m) ∧ Below base w w' := by
  obtain ⟨i, hi, hz, hs1, hb1⟩ := hT.info
  obtain ⟨A, cap, rfl, hle, hm, hA, hc⟩ := hr
  rcases A with _ | ad
  · have hm0 : m = [] := by
      rcases m with _ | ⟨x, m⟩
      · rfl
      · obtain ⟨b, o, h, _⟩ := hc (by simp)
        cases h
    subst hm0
    refine ⟨v, w, ?_, by simpa using hown, Below.refl _ _⟩
    rcases hown.2 with ⟨rfl, _⟩ | ⟨g, cap', cur, rfl, _, _, hnc, _⟩
    · simp [Builtin.append_, run_underlying hT.sl, sizeOf, typeInfo, hi, Builtin.lenOf, Builtin.firstCells]
    · simp [Builtin.append_, run_underlying hT.sl, sizeOf, typeInfo, hi, Builtin.lenOf, Builtin.firstCells, hnc, storeCells]
  · obtain ⟨v', w', hrun, h2, h3, _⟩ := run_append_own (P := P) w base 23 ty 5 i (.int .u8 0) 1 1 hT.sl hi hz hs1 hb1 rfl (by decide) v l.length (bc l) hown ad m.length cap (bc m)
      (by rw [bc_length, Nat.mul_one]) (fun j u hj => by
        have hjl : j < m.length := by
          rcases Nat.lt_or_ge j m.length with h | h
          · exact h
          · rw [List.getElem?_eq_none (by rw [bc_length]; exact h)] at hj; cases hj
        rw [bc_get m j hjl] at hj
        obtain ⟨b, o, h, hcell⟩ := hc (by intro h; subst h; simp at hjl)
        injection h with h
        subst h
        rw [addrk, hcell j hjl]
        exact hj) (bc_one m) (by unfold maxLen; omega) (by omega) hbase
    refine ⟨v', w', hrun, ?_, Own.below_of hown hbase h3⟩
    unfold Own
    rw [List.length_append, bc_append]
    exact h2

theorem run_append_st (hT : BT P) (ty : TypeId) {base : Nat} {v : Value} {l : List UInt8} (s : ByteArray) (hown : Own w base v l)
    (hlen : l.length + s.size ≤ 100000000) (hbase : base ≤ w.heap.size) :
    ∃ v' w', (Builtin.append_ #[23, 9] ty #[v, .string s]).run P w = .ok v' w' ∧ Own w' base v' (l ++ s.data.toList) ∧ Below base w w' := by
  obtain ⟨i, hi, hz, hs1, hb1⟩ := hT.info
  obtain ⟨v', w', hrun, h2, h3, _⟩ := Lib.run_append_own_string (P := P) w base 23 9 ty 5 i hT.sl hT.st hi hz hs1 hb1 v l.length (bc l) hown s (by unfold maxLen; omega) (by omega) hbase
  refine ⟨v', w', hrun, ?_, Own.below_of hown hbase h3⟩
  have hsz : s.data.toList.length = s.size := by rw [Array.length_toList]; rfl
  unfold Own
  rw [List.length_append, bc_append, hsz]
  exact h2

variable {w}
variable {ops : Array Oper} {rest : List Oper} {o : Oper} {a : Act} {Q : Exit → Act → World → Prop}

/-- 'append(out, xs...)' where the call owns out. -/
theorem wpl_append_rd (hT : BT P) {base : Nat} {v vx : Value} {l m : List UInt8} (hown : Own w base v l) (hr : Rd w vx m)
    (hgd : o.guard = none) (s x : Operand) (ho : o.op = .call { callee := .builtin .append, args := #[s, x], argTypes := #[23, 23] })
    (hs : a.eval s = v) (hx : a.eval x = vx) (hlen : l.length + m.length ≤ 100000000) (hbase : base ≤ w.heap.size)
    (h : ∀ v' w', Own w' base v' (l ++ m) → Below base w w' → wpList P ops Q rest (a.put o.dst v') w') : wpList P ops Q (o :: rest) a w := by
  refine wpList_plain hgd fun K hK => ?_
  obtain ⟨v', w', hr, h2, h3⟩ := run_append_rd (P := P) w hT o.type hown hr hlen hbase
  unfold Oper.wp execOp
  simp only [ho, resolve, invoke, builtin, Sem.run_bind, Sem.run_pure, Result.andThen_ok, List.map_toArray, List.map_cons, List.map_nil, hs, hx, hr]
  exact hK _ _ (h v' w' h2 h3)

/-- 'append(out, s...)', s a string. -/
theorem wpl_append_st (hT : BT P) {base : Nat} {v : Value} {l : List UInt8} (sx : ByteArray) (hown : Own w base v l)
    (hgd : o.guard = none) (s x : Operand) (ho : o.op = .call { callee := .builtin .append, args := #[s, x], argTypes := #[23, 9] })
    (hs : a.eval s = v) (hx : a.eval x = .string sx) (hlen : l.length + sx.size ≤ 100000000) (hbase : base ≤ w.heap.size)
    (h : ∀ v' w', Own w' base v' (l ++ sx.data.toList) → Below base w w' → wpList P ops Q rest (a.put o.dst v') w') : wpList P ops Q (o :: rest) a w := by
  refine wpList_plain hgd fun K hK => ?_
  obtain ⟨v', w', hr, h2, h3⟩ := run_append_st (P := P) w hT o.type sx hown hlen hbase
  unfold Oper.wp execOp
  simp only [ho, resolve, invoke, builtin, Sem.run_bind, Sem.run_pure, Result.andThen_ok, List.map_toArray, List.map_cons, List.map_nil, hs, hx, hr]
  exact hK _ _ (h v' w' h2 h3)

variable (w) in
theorem rd_new (cs : Array Value) (l : List UInt8) (hc : cs = (bc l).toArray) (n : Nat) (hn : n = l.length) (hl : l.length ≤ maxLen) :
    Rd (w.alloc (.cells cs 5)) (.slice (some ⟨w.heap.size, 0, none⟩) n n) l := by
  subst hc; subst hn
  refine ⟨_, l.length, rfl, Nat.le_refl _, hl, (fun h => by cases h), fun _ => ⟨_, 0, rfl, fun j hj => ?_⟩⟩
  rw [Nat.zero_add, cell_of_row _ _ j _ _ _ (heap_alloc_new w _)]
  have := bc_get l j hj
  simpa using this

variable (w) in
theorem own_new (cs : Array Value) (l : List UInt8) (hc : cs = (bc l).toArray) (n : Nat) (hn : n = l.length) (hl : l.length ≤ maxLen) {base : Nat} (hb : base ≤ w.heap.size) :
    Own (w.alloc (.cells cs 5)) base (.slice (some ⟨w.heap.size, 0, none⟩) n n) l := by
  subst hc; subst hn
  refine ⟨by rw [bc_length, Nat.mul_one], .inr ⟨w.heap.size, l.length, (bc l).toArray, rfl, hb, heap_alloc_new w _, Nat.le_refl _, hl, ?_, ?_⟩⟩
  · rw [Nat.mul_one, List.size_toArray, bc_length]
  · rw [Nat.mul_one, List.take_of_length_le (by simp [bc_length])]

/-- 'append(out, c)', where the call owns out. -/
theorem wpl_append_one (hT : BT P) {base : Nat} {v : Value} {l : List UInt8} (c : Int) (hown : Own w base v l) (hc0 : 0 ≤ c) (hc1 : c < 256)
    (hgd : o.guard = none) (s x : Operand) (ho : o.op = .call { callee := .builtin .append, args := #[s, x], argTypes := #[23, 23] })
    (hs : a.eval s = v) (hx : a.eval x = .slice (some ⟨w.heap.size, 0, none⟩) 1 1) (hlen : l.length + 1 ≤ 100000000) (hbase : base ≤ w.heap.size)
    (h : ∀ v' w', Own w' base v' (l ++ [UInt8.ofNat c.toNat]) → Below base w w' → wpList P ops Q rest (a.put o.dst v') w') : wpList P ops Q (o :: rest) a (w.alloc (.cells #[.int .u8 c] 5)) := by
  have hcell : (#[.int .u8 c] : Array Value) = (bc [UInt8.ofNat c.toNat]).toArray := by
    have : ((UInt8.ofNat c.toNat).toNat : Int) = c := by rw [UInt8.toNat_ofNat']; omega
    show _ = (#[Value.int .u8 ((UInt8.ofNat c.toNat).toNat : Int)] : Array Value)
    rw [this]
  refine wpl_append_rd (P := P) (w := w.alloc (.cells #[.int .u8 c] 5)) hT (hown.ext ((Ext.refl w).alloc _)) (rd_new w _ [UInt8.ofNat c.toNat] hcell 1 rfl (by unfold maxLen; simp)) hgd s x ho hs hx (by simpa using hlen)
    (Nat.le_trans hbase (by simp)) fun v' w' h1 h2 => h v' w' h1 ?_
  exact ((Below.refl base w).alloc hbase _).trans h2

/-- 'append([]byte{}, xs...)'. -/
theorem wpl_clone (hT : BT P) {vx : Value} {m : List UInt8} (hr : Rd w vx m)
    (hgd : o.guard = none) (s x : Operand) (ho : o.op = .call { callee := .builtin .append, args := #[s, x], argTypes := #[23, 23] })
    (hs : a.eval s = .slice (some ⟨w.heap.size, 0, none⟩) 0 0) (hx : a.eval x = vx) (hlen : m.length ≤ 100000000)
    (h : ∀ v' w', Own w' w.heap.size v' m → Ext w w' → wpList P ops Q rest (a.put o.dst v') w') : wpList P ops Q (o :: rest) a (w.alloc (.cells #[] 5)) := by
  refine wpl_append_rd (P := P) (w := w.alloc (.cells #[] 5)) hT (base := w.heap.size) (l := []) (own_new w #[] [] rfl 0 rfl (by unfold maxLen; simp) (Nat.le_refl _)) (hr.ext ((Ext.refl w).alloc _)) hgd s x ho hs hx (by simpa using hlen)
    (by simp) fun v' w' h1 h2 => h v' w' (by simpa using h1) ?_
  exact ((Ext.refl w).alloc _).below h2 (Nat.le_refl _)

/-- An operation that yields a value and leaves a world. -/
theorem wpl_val (hgd : o.guard = none) {v : Value} {w' : World} (hrun : (execOp a.eval o).run P w = .ok (.value v) w') (h : wpList P ops Q rest (a.put o.dst v) w') : wpList P ops Q (o :: rest) a w := by
  refine wpList_plain hgd fun K hK => ?_
  unfold Oper.wp
  rw [hrun]
  exact hK _ _ h

/-- What a cut 's[i:j]' of a slice of bytes gives. -/
theorem Rd.cut {w : World} {A : Option Addr} {n cap : Nat} {l : List UInt8} (h : Rd w (.slice A n cap) l) (i j : Nat) (hij : i ≤ j) (hj : j ≤ l.length) :
    Rd w (.slice (if cap = i then A else A.map (·.add (i * 1))) (j - i) (cap - i)) ((l.take j).drop i) := by
  obtain ⟨A', cap', hv, h1, h2, h3, h4⟩ := h
  injection hv with e1 e2 e3
  subst e1 e2 e3
  have hlen : ((l.take j).drop i).length = j - i := by rw [List.length_drop, List.length_take, Nat.min_eq_left hj]
  refine ⟨_, cap - i, by rw [hlen], by rw [hlen]; omega, by omega, fun hn => ?_, fun hl => ?_⟩
  · by_cases hc : cap = i
    · omega
    · rw [if_neg hc] at hn
      have : A = none := by
        rcases A with _ | ad
        · rfl
        · simp at hn
      have := h3 this
      omega
  · have hlt : i < j := by
      rcases Nat.lt_or_ge i j with hlt | hge
      · exact hlt
      · exact absurd (List.eq_nil_of_length_eq_zero (by rw [hlen]; omega)) hl
    obtain ⟨b, o, rfl, hc⟩ := h4 (by intro h0; subst h0; simp at hj; omega)
    refine ⟨b, o + i, ?_, fun m hm => ?_⟩
    · rw [if_neg (by omega), Nat.mul_one]
      exact congrArg some (addrk b o i)
    · rw [hlen] at hm
      have := hc (i + m) (by omega)
      rw [Nat.add_assoc, this]
      have e : (List.drop i (List.take j l)).getD m 0 = l.getD (i + m) 0 := by
        simp only [List.getD_eq_getElem?_getD, List.getElem?_drop, List.getElem?_take]
        rw [if_pos (by omega)]
      rw [e]

theorem sizeOf_u8 (hT : BT P) (w : World) : (sizeOf 5).run P w = .ok 1 w := by
  obtain ⟨i, hi, hz, hs1, hb1⟩ := hT.info
  simp [sizeOf, typeInfo, hi, hs1]

/-- 's[i:]'. -/
theorem wpl_slice_lo (hT : BT P) {v : Value} {l : List UInt8} (hr : Rd w v l) (i : Int) (h0 : 0 ≤ i) (h1 : i ≤ l.length)
    (hgd : o.guard = none) (x lo : Operand) (k : IntKind) (ho : o.op = .slice 23 x (some lo) none none) (hx : a.eval x = v) (hlo : a.eval lo = .int k i)
    (h : ∀ v', Rd w v' (l.drop i.toNat) → wpList P ops Q rest (a.put o.dst v') w) : wpList P ops Q (o :: rest) a w := by
  obtain ⟨A, cap, rfl, hle, hm, _⟩ := id hr
  have hc := Rd.cut hr i.toNat l.length (by omega) (Nat.le_refl _)
  rw [List.take_length] at hc
  refine wpl_val hgd (v := .slice (if cap = i.toNat then A else A.map (·.add (i.toNat * 1))) (l.length - i.toNat) (cap - i.toNat)) (w' := w) ?_ (h _ hc)
  unfold execOp
  have hb : i ≤ (l.length : Int) := h1
  simp [ho, hx, hlo, Instr.sliceAt, Instr.slice, run_underlying hT.sl, Instr.sliceBounds, run_sliceBound, h0, hb, sizeOf_u8 hT]

/-- 's[:j]'. -/
theorem wpl_slice_hi (hT : BT P) {v : Value} {l : List UInt8} (hr : Rd w v l) (j : Int) (h0 : 0 ≤ j) (h1 : j ≤ l.length)
    (hgd : o.guard = none) (x hi : Operand) (k : IntKind) (ho : o.op = .slice 23 x none (some hi) none) (hx : a.eval x = v) (hhi : a.eval hi = .int k j)
    (h : ∀ v', Rd w v' (l.take j.toNat) → wpList P ops Q rest (a.put o.dst v') w) : wpList P ops Q (o :: rest) a w := by
  obtain ⟨A, cap, rfl, hle, hm, _⟩ := id hr
  have hc := Rd.cut hr 0 j.toNat (by omega) (by omega)
  rw [List.drop_zero] at hc
  refine wpl_val hgd (v := .slice (if cap = 0 then A else A.map (·.add (0 * 1))) (j.toNat - 0) (cap - 0)) (w' := w) ?_ (h _ hc)
  unfold execOp
  have hb : j ≤ (cap : Int) := by omega
  simp [ho, hx, hhi, Instr.sliceAt, Instr.slice, run_underlying hT.sl, Instr.sliceBounds, run_sliceBound, h0, hb, sizeOf_u8 hT]

/-- 's[i:j]'. -/
theorem wpl_slice_lohi (hT : BT P) {v : Value} {l : List UInt8} (hr : Rd w v l) (i j : Int) (h0 : 0 ≤ i) (hij : i ≤ j) (h1 : j ≤ l.length)
    (hgd : o.guard = none) (x lo hi : Operand) (k k' : IntKind) (ho : o.op = .slice 23 x (some lo) (some hi) none) (hx : a.eval x = v) (hlo : a.eval lo = .int k i) (hhi : a.eval hi = .int k' j)
    (h : ∀ v', Rd w v' ((l.take j.toNat).drop i.toNat) → wpList P ops Q rest (a.put o.dst v') w) : wpList P ops Q (o :: rest) a w := by
  obtain ⟨A, cap, rfl, hle, hm, _⟩ := id hr
  have hc := Rd.cut hr i.toNat j.toNat (by omega) (by omega)
  refine wpl_val hgd (v := .slice (if cap = i.toNat then A else A.map (·.add (i.toNat * 1))) (j.toNat - i.toNat) (cap - i.toNat)) (w' := w) ?_ (h _ hc)
  unfold execOp
  have hb : j ≤ (cap : Int) := by omega
  have hj0 : 0 ≤ j := by omega
  have hb2 := run_sliceBound (P := P) w k i j.toNat .sliceB h0 (by omega)
  simp [ho, hx, hlo, hhi, Instr.sliceAt, Instr.slice, run_underlying hT.sl, Instr.sliceBounds, run_sliceBound, hb, hj0, hb2, sizeOf_u8 hT]

/-- A list of bytes as a string. -/
def strL (l : List UInt8) : ByteArray := ⟨l.toArray⟩
theorem strL_toList (l : List UInt8) : (strL l).data.toList = l := rfl
theorem strL_size (l : List UInt8) : (strL l).size = l.length := by simp [strL, ByteArray.size]
theorem strL_of (s : ByteArray) : strL s.data.toList = s := by cases s; simp [strL]
theorem size_toList (s : ByteArray) : s.data.toList.length = s.size := by rw [Array.length_toList]; rfl

variable (w) in
/-- 'string(b)'. -/
theorem run_str (hT : BT P) {v : Value} {l : List UInt8} (hr : Rd w v l) : (convert 23 9 v).run P w = .ok (.string (strL l)) w := by
  obtain ⟨A, cap, rfl, hle, hm, hA, hc⟩ := hr
  by_cases hl : l = []
  · subst hl
    rw [run_convert_bytes_string w _ _ _ _ _ _ hT.sl hT.el hT.st]
    rcases A with _ | ad
    · simp [Conv.bytesToString, strL, ByteArray.empty, ByteArray.emptyWithCapacity]
      rfl
    · have := run_bytesToString (P := P) w ad 0 cap [] (by simp [loadCells, loadCellsFrom])
      exact this
  · obtain ⟨b, o, rfl, hc2⟩ := hc hl
    rw [run_convert_bytes_arg (P := P) w 23 5 hT.sl hT.el b o l.length cap (l.map fun c => (c.toNat : Int)) (by simp) (fun i hi => by
      rw [hc2 i hi]
      simp [List.getD, List.getElem?_eq_getElem hi]) _ hT.st]
    congr 2
    unfold strOfNums strL
    congr 1
    congr 1
    rw [List.map_map]
    conv => rhs; rw [← List.map_id l]
    refine List.map_congr_left fun c _ => ?_
    simp

theorem wpl_str (hT : BT P) {v : Value} {l : List UInt8} (hr : Rd w v l)
    (hgd : o.guard = none) (x : Operand) (ho : o.op = .convert 23 9 x) (hx : a.eval x = v)
    (h : wpList P ops Q rest (a.put o.dst (.string (strL l))) w) : wpList P ops Q (o :: rest) a w := by
  refine wpl_val hgd (v := .string (strL l)) (w' := w) ?_ h
  unfold execOp
  simp [ho, hx, run_str w hT hr]
end
#print axioms wpl_str
end Go.Proofs.Ytdjnjhlgpflcjaa
