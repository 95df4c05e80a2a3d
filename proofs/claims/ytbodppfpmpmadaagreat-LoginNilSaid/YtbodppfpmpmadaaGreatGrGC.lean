import Derived.Test.YtbodppfpmpmadaaGreatL12C
import Derived.Test.YtbodppfpmpmadaaGreatGrVC
/- Words for greetings that are read. (Printed by gen_grG.py.) -/
namespace Go.Proofs.YtbodppfpmpmadaaGreat
open Go.RowKit

theorem boxF_below {W W' : World} {g B : Nat} {cs : List Value} (h : BoxF W g cs) (k : Below B W W') (hg : g < B) : BoxF W' g cs :=
  ⟨h.box.below k hg, fun j hj => (k.frozen hg).trans (h.free j hj), Nat.lt_of_lt_of_le h.lt (Below.size k)⟩
theorem Rdr.below {a w w' : World} {g B : Nat} {s : List UInt8 × Int} (h : Rdr a w g s) (k : Below B w w') (hg : g < B) : Rdr a w' g s :=
  ⟨h.lo, h.ext.below k (Nat.le_trans h.lo (Nat.le_of_lt hg)), (k.frozen hg).trans h.f0, (k.frozen hg).trans h.f1, (k.cell hg).trans h.c1, by obtain ⟨v, h0, hr⟩ := h.c0; exact ⟨v, (k.cell hg).trans h0, hr⟩⟩
theorem St.below {a w w' : World} {gv B : Nat} {s : List UInt8 × Int} {Z cs : List Value} (h : St a w gv s Z cs) (k : Below B w w') (hg : gv < B) : St a w' gv s Z cs :=
  ⟨boxF_below h.b0 k (by have := h.lo; omega), h.r.below k (by have := h.lo; omega), boxF_below h.b k hg, h.lo⟩
def greC (g : GreV) (vn : Value) : List Value := [.string (strL g.ver), .int .u32 g.thr, vn, .int .u32 g.caps, .int .u8 g.ch, .int .u16 g.st, .string (strL g.pl)]
def RetGre (w : World) (r : GreV × Int) (e : Ending) (w' : World) : Prop :=
  ∃ vn, e = .returned (.tuple #[.agg (greC r.1 vn).toArray, .int .i64 r.2]) ∧ Rd w' vn r.1.nonce ∧ Ext w w'
end Go.Proofs.YtbodppfpmpmadaaGreat
