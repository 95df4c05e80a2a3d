/- What turns but one block of the world; readers: an object of two cells, the bytes that are left and the first error. -/
import Derived.Test.YtdjnjhlgpflcjaaLoad
import Derived.Test.YtdjnjhlgpflcjaaRegB
namespace Go.Proofs.Ytdjnjhlgpflcjaa
open Go.RowKit

/-- Nothing of the world has turned but block g. -/
def On (g : Nat) (w w' : World) : Prop := w.grownBy w' (some g)
theorem On.refl (g : Nat) (w : World) : On g w w := ⟨rfl, rfl, rfl, Nat.le_refl _, fun _ _ _ => rfl⟩
theorem On.trans {g : Nat} {a b c : World} (h : On g a b) (k : On g b c) : On g a c :=
  ⟨k.os.trans h.os, k.tape.trans h.tape, k.output.trans h.output, Nat.le_trans h.size k.size, fun i hi hne => (k.block i (Nat.lt_of_lt_of_le hi h.size) hne).trans (h.block i hi hne)⟩
theorem On.ext {g : Nat} {a b c : World} (h : On g a b) (k : Ext b c) : On g a c := h.trans ⟨k.os, k.tape, k.output, Ext.size k, fun i hi _ => k.block i hi⟩
theorem On.of {g : Nat} {b c : World} (k : Ext b c) : On g b c := (On.refl g b).ext k
theorem On.set {g : Nat} {a b : World} (h : On g a b) (j : Nat) (u : Value) : On g a (b.setCell ⟨g, j, none⟩ u) :=
  h.trans ⟨rfl, rfl, rfl, by simp [World.setCell], fun k _ hk => Below.heap_setCell _ _ _ k (fun e => hk (by rw [e]))⟩
theorem On.size {g : Nat} {a b : World} (h : On g a b) : a.heap.size ≤ b.heap.size := World.grownBy.size h
theorem Ext.on {g : Nat} {a b c : World} (h : Ext a b) (k : On g b c) (hg : a.heap.size ≤ g) : Ext a c := Below.grown h k (Ext.size h) (fun i hi => by cases hi; exact hg)
/-- A block that is new behind the base is the world's own affair. -/
theorem On.toExt {g : Nat} {b c : World} (k : On g b c) (hg : b.heap.size ≤ g) : Ext b c := (Ext.refl b).on k hg
theorem On.cell {g : Nat} {b c : World} (k : On g b c) {p : Addr} {v : Value} (h : b.cell? p = some v) (hne : p.block ≠ g) : c.cell? p = some v :=
  (World.grownBy.cell_far k p (World.block_lt_of_cell? b _ h) (fun e => hne (by cases e; rfl))).trans h
theorem On.frozen {g : Nat} {b c : World} (k : On g b c) {p : Addr} (h : b.frozen? p = false) (hlt : p.block < b.heap.size) (hne : p.block ≠ g) : c.frozen? p = false :=
  (World.grownBy.frozen_far k p hlt (fun e => hne (by cases e; rfl))).trans h
theorem Own.on {g base : Nat} {w w' : World} {v : Value} {l : List UInt8} (h : Own w base v l) (k : On g w w') (hg : g < base) : Own w' base v l := by
  refine World.ownsRow.kept h k ?_
  right
  intro e
  have := (World.ownsRow.lt h g e).1
  omega
theorem Box.on {g b : Nat} {w w' : World} {cs : List Value} (h : Box w b cs) (k : On g w w') (hne : b ≠ g) : Box w' b cs := fun j hj => k.cell (h j hj) hne

/-- The reader in block g: the bytes that are left, the first error. All that it reads lay in the world a. -/
structure Rdr (a w : World) (g : Nat) (s : List UInt8 × Int) : Prop where
  lo : a.heap.size ≤ g
  ext : Ext a w
  f0 : w.frozen? ⟨g, 0, none⟩ = false
  f1 : w.frozen? ⟨g, 1, none⟩ = false
  c1 : w.cell? ⟨g, 1, none⟩ = some (.int .i64 s.2)
  c0 : ∃ v, w.cell? ⟨g, 0, none⟩ = some v ∧ Rd a v s.1

theorem Rdr.lt {a w : World} {g : Nat} {s : List UInt8 × Int} (h : Rdr a w g s) : g < w.heap.size := World.block_lt_of_cell? w _ h.c1
/-- The world grows behind it. -/
theorem Rdr.grow {a w w' : World} {g : Nat} {s : List UInt8 × Int} (h : Rdr a w g s) (k : Ext w w') : Rdr a w' g s :=
  ⟨h.lo, h.ext.trans k, (k.frozen h.lt).trans h.f0, (k.frozen h.lt).trans h.f1, k.cell h.c1, by obtain ⟨v, h0, hr⟩ := h.c0; exact ⟨v, k.cell h0, hr⟩⟩
/-- Another object turns. -/
theorem Rdr.on {a w w' : World} {g b : Nat} {s : List UInt8 × Int} (h : Rdr a w g s) (k : On b w w') (hne : g ≠ b) (hb : a.heap.size ≤ b) : Rdr a w' g s :=
  ⟨h.lo, h.ext.on k hb, k.frozen h.f0 h.lt hne, k.frozen h.f1 h.lt hne, k.cell h.c1 hne, by obtain ⟨v, h0, hr⟩ := h.c0; exact ⟨v, k.cell h0 hne, hr⟩⟩
/-- The bytes are set. -/
theorem Rdr.set0 {a w : World} {g : Nat} {s : List UInt8 × Int} (h : Rdr a w g s) {v : Value} {l : List UInt8} (hr : Rd a v l) : Rdr a (w.setCell ⟨g, 0, none⟩ v) g (l, s.2) := by
  obtain ⟨v0, h0, _⟩ := h.c0
  exact ⟨h.lo, h.ext.setCell h.lo v, by rw [World.frozen?_setCell]; exact h.f0, by rw [World.frozen?_setCell]; exact h.f1, (World.cell?_setCell_other _ _ _ _ (by simp)).trans h.c1, v, World.cell?_setCell_same _ _ _ h0, hr⟩
/-- The error is set. -/
theorem Rdr.set1 {a w : World} {g : Nat} {s : List UInt8 × Int} (h : Rdr a w g s) (e : Int) : Rdr a (w.setCell ⟨g, 1, none⟩ (.int .i64 e)) g (s.1, e) := by
  obtain ⟨v0, h0, hr⟩ := h.c0
  exact ⟨h.lo, h.ext.setCell h.lo _, by rw [World.frozen?_setCell]; exact h.f0, by rw [World.frozen?_setCell]; exact h.f1, World.cell?_setCell_same _ _ _ h.c1, v0, (World.cell?_setCell_other _ _ _ _ (by simp)).trans h0, hr⟩
/-- A new reader. -/
theorem Rdr.new {w : World} {v : Value} {l : List UInt8} (hr : Rd w v l) (e : Int) (t : TypeId) : Rdr w (w.alloc (.cells #[v, .int .i64 e] t)) w.heap.size (l, e) :=
  ⟨Nat.le_refl _, (Ext.refl w).alloc _, World.frozen?_alloc_new _ _ _ _, World.frozen?_alloc_new _ _ _ _, (Box.new w [v, .int .i64 e] t) 1 (by simp), v, (Box.new w [v, .int .i64 e] t) 0 (by simp), hr⟩

end Go.Proofs.Ytdjnjhlgpflcjaa
