import Derived.Test.YtbodppfpmpmadaaGreatGrMC
/- What a packet's reader has by now: its result's cells, the reader, the packet that is being read. -/
namespace Go.Proofs.YtbodppfpmpmadaaGreat
open Go.RowKit

theorem byte_one (s : List UInt8 × Int) : ∃ (b : UInt8) (s' : List UInt8 × Int), rB 1 s = ([b], s') := by
  have hl := rB_length 1 s
  obtain ⟨x, s', hq⟩ : ∃ x s', rB 1 s = (x, s') := ⟨_, _, rfl⟩
  rw [hq] at hl ⊢
  match x, hl with
  | [b], _ => exact ⟨b, s', rfl⟩

/-- One byte that is read. -/
theorem take1_g (a w : World) (g : Nat) (s : List UInt8 × Int) (b : UInt8) (x : Int) (s' : List UInt8 × Int) (hb : x = (b.toNat : Int)) (h : Rdr a w g s) (hx : rB 1 s = ([b], s')) :
    Calls Tryz.prog 80 #[.pointer (some ⟨g, 0, none⟩), .int .i64 1] w fun e w' => ∃ gb c, e = .returned (.slice (some ⟨gb, 0, none⟩) 1 c) ∧ w'.cell? ⟨gb, 0, none⟩ = some (.int .u8 x) ∧ Rdr a w' g s' ∧ On g w w' := by
  subst hb
  refine (take_g a w g s 1 [b] s' h (by omega) hx).mono ?_
  rintro e w' ⟨v, rfl, ho, h2, h3⟩
  obtain ⟨gb, c, rfl, _, _, _, B⟩ := ho.cellsF (by simp)
  exact ⟨gb, c, rfl, B.at (j := 0) rfl, h2, h3⟩
/-- Bytes that are read, as a slice whose length is known. -/
theorem takeS_g (a w : World) (g : Nat) (s : List UInt8 × Int) (n : Nat) (x : List UInt8) (s' : List UInt8 × Int) (m : Int) (hm : m = (n : Int)) (h : Rdr a w g s) (hn : n ≤ 100000) (hx : rB n s = (x, s')) :
    Calls Tryz.prog 80 #[.pointer (some ⟨g, 0, none⟩), .int .i64 m] w fun e w' => ∃ A c, e = .returned (.slice A n c) ∧ Own w' w.heap.size (.slice A n c) x ∧ Rdr a w' g s' ∧ On g w w' := by
  subst hm
  refine (take_g a w g s n x s' h hn hx).mono ?_
  rintro e w' ⟨v, rfl, ho, h2, h3⟩
  have hl := rB_length n s
  rw [hx] at hl
  obtain ⟨A, c, rfl, _⟩ := ho.rd
  dsimp only at hl
  rw [hl] at ho ⊢
  exact ⟨A, c, rfl, ho, h2, h3⟩

/-- What there is by now: the result's cells in the first new block, the reader in the second one, the packet in block gv. -/
structure St (a w : World) (gv : Nat) (s : List UInt8 × Int) (Z cs : List Value) : Prop where
  b0 : BoxF w a.heap.size Z
  r : Rdr a w (a.heap.size + 1) s
  b : BoxF w gv cs
  lo : a.heap.size + 2 ≤ gv
structure St0 (a w : World) (s : List UInt8 × Int) (Z : List Value) : Prop where
  b0 : BoxF w a.heap.size Z
  r : Rdr a w (a.heap.size + 1) s
variable {a w w' : World} {gv : Nat} {s s' : List UInt8 × Int} {Z cs cs' : List Value}
theorem St0.onR (h : St0 a w s Z) (R : Rdr a w' (a.heap.size + 1) s') (O : On (a.heap.size + 1) w w') : St0 a w' s' Z := ⟨h.b0.on O (by omega), R⟩
theorem St0.grow (h : St0 a w s Z) (k : Ext w w') : St0 a w' s Z := ⟨h.b0.ext k, h.r.grow k⟩
theorem St0.ext (h : St0 a w s Z) : Ext a w := h.r.ext
theorem St.onR (h : St a w gv s Z cs) (R : Rdr a w' (a.heap.size + 1) s') (O : On (a.heap.size + 1) w w') : St a w' gv s' Z cs := ⟨h.b0.on O (by omega), R, h.b.on O (by have := h.lo; omega), h.lo⟩
theorem St.onV (h : St a w gv s Z cs) (B : BoxF w' gv cs') (O : On gv w w') : St a w' gv s Z cs' := ⟨h.b0.on O (by have := h.lo; omega), h.r.on O (by have := h.lo; omega) (by have := h.lo; omega), B, h.lo⟩
theorem St.grow (h : St a w gv s Z cs) (k : Ext w w') : St a w' gv s Z cs := ⟨h.b0.ext k, h.r.grow k, h.b.ext k, h.lo⟩
theorem St.ext (h : St a w gv s Z cs) : Ext a w := h.r.ext
theorem St.lt (h : St a w gv s Z cs) : gv < w.heap.size := h.b.lt
theorem St0.lt (h : St0 a w s Z) : a.heap.size + 2 ≤ w.heap.size := h.r.lt
/-- The packet comes to be. -/
theorem St0.new (h : St0 a w s Z) (k : Ext w w') (hg : w.heap.size ≤ gv) (B : BoxF w' gv cs) : St a w' gv s Z cs := ⟨h.b0.ext k, h.r.grow k, B, Nat.le_trans h.lt hg⟩
/-- Ahead of the first field. -/
theorem St0.start (w : World) (v : Value) (l : List UInt8) (hr : Rd w v l) (Z : List Value) (t u : TypeId) (C : Array Value) (hC : C = Z.toArray) : St0 w ((w.alloc (.cells C t)).alloc (.cells #[v, .int .i64 0] u)) (l, 0) Z := by
  subst hC
  have hx : Ext w (w.alloc (.cells Z.toArray t)) := (Ext.refl w).alloc _
  have R := Rdr.new (hr.ext hx) 0 u
  have hsz : (w.alloc (.cells Z.toArray t)).heap.size = w.heap.size + 1 := by simp
  rw [hsz] at R
  refine ⟨(BoxF.new w Z t).ext ((Ext.refl _).alloc _), ⟨by omega, hx.trans R.ext, R.f0, R.f1, R.c1, ?_⟩⟩
  obtain ⟨v0, h0, _⟩ := R.c0
  refine ⟨v0, h0, ?_⟩
  have hv : v0 = v := by
    have h1 : ((w.alloc (.cells Z.toArray t)).alloc (.cells #[v, .int .i64 0] u)).cell? ⟨w.heap.size + 1, 0, none⟩ = some v := by
      have := (Box.new (w.alloc (.cells Z.toArray t)) [v, .int .i64 0] u) 0 (by simp)
      rw [hsz] at this
      exact this
    rw [h1] at h0
    exact (Option.some.inj h0).symm
  rw [hv]
  exact hr

/-- Ahead of the first field, where the packet is there from the first. -/
theorem St.start (w : World) (v : Value) (l : List UInt8) (hr : Rd w v l) (Z : List Value) (t u : TypeId) (C : Array Value) (hC : C = Z.toArray) : St w (((w.alloc (.cells C t)).alloc (.cells #[v, .int .i64 0] u)).alloc (.cells C t)) (w.heap.size + 1 + 1) (l, 0) Z Z := by
  have h := St0.start w v l hr Z t u C hC
  subst hC
  have B := BoxF.new ((w.alloc (.cells Z.toArray t)).alloc (.cells #[v, .int .i64 0] u)) Z t
  have hsz : ((w.alloc (.cells Z.toArray t)).alloc (.cells #[v, .int .i64 0] u)).heap.size = w.heap.size + 1 + 1 := by simp
  rw [hsz] at B
  exact h.new ((Ext.refl _).alloc _) (by rw [hsz]; exact Nat.le_refl _) B
theorem Own.keepB {g base : Nat} {w w' : World} {v : Value} {l : List UInt8} (h : Own w base v l) (k : On g w w') (hne : v.ownBlock ≠ some g) : Own w' base v l :=
  World.ownsRow.kept h k (.inr hne)
theorem Own.ltB {base : Nat} {w : World} {v : Value} {l : List UInt8} (h : Own w base v l) {g : Nat} (hg : v.ownBlock = some g) : base ≤ g ∧ g < w.heap.size := World.ownsRow.lt h g hg
theorem OwnR.keepB {t : TypeId} {sz g base : Nat} {w w' : World} {v : Value} {rs : List (List Value)} (h : OwnR t sz w base v rs) (k : On g w w') (hne : v.ownBlock ≠ some g) : OwnR t sz w' base v rs :=
  ⟨World.ownsRow.kept h.1 k (.inr hne), h.2⟩
theorem OwnR.ltB {t : TypeId} {sz base : Nat} {w : World} {v : Value} {rs : List (List Value)} (h : OwnR t sz w base v rs) {g : Nat} (hg : v.ownBlock = some g) : base ≤ g ∧ g < w.heap.size := World.ownsRow.lt h.1 g hg

section
variable {P : Program} {ops : Array Oper} {rest : List Oper} {o : Oper} {a : Act} {w : World} {Q : Exit → Act → World → Prop}
/-- 'append(out, xs...)' where the call owns out; its value taken apart. -/
theorem wpl_append_rds (hT : BT P) {base : Nat} {v vx : Value} {l m : List UInt8} (hown : Own w base v l) (hr : Rd w vx m)
    (hgd : o.guard = none) (s x : Operand) (ho : o.op = .call { callee := .builtin .append, args := #[s, x], argTypes := #[22, 22] })
    (hs : a.eval s = v) (hx : a.eval x = vx) (hlen : l.length + m.length ≤ 100000000) (hbase : base ≤ w.heap.size)
    (h : ∀ A k c w', Own w' base (.slice A k c) (l ++ m) → Below base w w' → wpList P ops Q rest (a.put o.dst (.slice A k c)) w') : wpList P ops Q (o :: rest) a w :=
  wpl_append_rd hT hown hr hgd s x ho hs hx hlen hbase fun v' w' h1 h2 => by
    obtain ⟨A, k, c, rfl⟩ := h1.shape
    exact h A k c w' h1 h2
end
end Go.Proofs.YtbodppfpmpmadaaGreat
