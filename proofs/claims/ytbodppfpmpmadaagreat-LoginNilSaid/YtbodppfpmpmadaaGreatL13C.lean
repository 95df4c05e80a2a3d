import Derived.Test.YtbodppfpmpmadaaGreatL12C
/- Words for packets that are read; ReadAnswer's law. (Printed by gen_grK.py.) -/
namespace Go.Proofs.YtbodppfpmpmadaaGreat
open Go.RowKit

/-- Bytes that lie in a block of their own, at or behind base. -/
def OwnQ (w : World) (base : Nat) (v : Value) (l : List UInt8) : Prop := Rd w v l ∧ v.ownBlock = some base
theorem OwnQ.of {w : World} {base : Nat} {v : Value} {l : List UInt8} (h : Rd w v l) (k : v.ownBlock = some base) : OwnQ w base v l := ⟨h, k⟩
theorem OwnQ.rd {w : World} {base : Nat} {v : Value} {l : List UInt8} (h : OwnQ w base v l) : Rd w v l := h.1
theorem OwnQ.ltB {w : World} {base g : Nat} {v : Value} {l : List UInt8} (h : OwnQ w base v l) (hg : v.ownBlock = some g) : base ≤ g ∧ True := ⟨by have := h.2.symm.trans hg; injection this with e; omega, trivial⟩
theorem OwnQ.ext {w w' : World} {base : Nat} {v : Value} {l : List UInt8} (h : OwnQ w base v l) (k : Ext w w') : OwnQ w' base v l := ⟨h.1.ext k, h.2⟩
theorem OwnQ.keepB {w w' : World} {g base : Nat} {v : Value} {l : List UInt8} (h : OwnQ w base v l) (k : On g w w') (hne : v.ownBlock ≠ some g) : OwnQ w' base v l := by
  obtain ⟨⟨A, cap, hv, h1, h2, h3, h4⟩, hb⟩ := h
  refine ⟨⟨A, cap, hv, h1, h2, h3, fun hl => ?_⟩, hb⟩
  obtain ⟨b, o, hA, hc⟩ := h4 hl
  refine ⟨b, o, hA, fun j hj => k.cell (hc j hj) ?_⟩
  subst hv hA
  intro e
  dsimp only at e
  subst e
  exact hne rfl
theorem rB_len (n : Nat) (s : List UInt8 × Int) : (rB n s).2.1.length ≤ s.1.length := by
  unfold rB
  split
  · split
    · exact Nat.le_refl _
    · simp only [List.length_drop]; omega
  · exact Nat.le_refl _
theorem rW_len (b : Bool) (s : List UInt8 × Int) : (rW b s).1.length ≤ s.1.length := by
  unfold rW
  split <;> exact Nat.le_refl _
theorem rX_len (n : Nat) (s : List UInt8 × Int) : (rX n s).2.1.length ≤ s.1.length := rB_len n s
theorem r0_len (n : Nat) (s : List UInt8 × Int) : (r0 n s).1.length ≤ s.1.length := Nat.le_trans (rW_len _ _) (rB_len n s)
theorem rZ_len (s : List UInt8 × Int) : (rZ s).2.1.length ≤ s.1.length := by
  unfold rZ
  split
  · split
    · simp only [List.length_drop]; omega
    · exact Nat.le_refl _
  · exact Nat.le_refl _

def ansC (a : AnsV) (vr va : Value) : List Value := [.int .u32 a.caps, .int .u32 a.most, .int .u8 a.ch, .string (strL a.user), vr, .string (strL a.db), .string (strL a.pl), va]
def RetAns (w : World) (r : AnsV × Int) (e : Ending) (w' : World) : Prop :=
  ∃ vr va, e = .returned (.tuple #[.agg (ansC r.1 vr va).toArray, .int .i64 r.2]) ∧ Rd w' vr r.1.resp ∧ Attrs w' va r.1.at_ ∧ Ext w w'
/-- .., and the response lies in a block of its own. -/
structure RetAnsF (w : World) (r : AnsV × Int) (e : Ending) (w' : World) : Prop where
  all : ∃ vr va, e = .returned (.tuple #[.agg (ansC r.1 vr va).toArray, .int .i64 r.2]) ∧ Rd w' vr r.1.resp ∧ Attrs w' va r.1.at_ ∧ Ext w w' ∧ ∀ h, vr.ownBlock = some h → w.heap.size ≤ h
end Go.Proofs.YtbodppfpmpmadaaGreat
/- ReadChange's law, in words. (Printed by gen_grN.py.) -/
namespace Go.Proofs.YtbodppfpmpmadaaGreat
open Go.RowKit

def chgC (a : ChgV) (vr va : Value) : List Value := [.string (strL a.user), vr, .string (strL a.db), .int .u16 a.ch, .string (strL a.pl), va]
def RetChg (w : World) (r : ChgV × Int) (e : Ending) (w' : World) : Prop :=
  ∃ vr va, e = .returned (.tuple #[.agg (chgC r.1 vr va).toArray, .int .i64 r.2]) ∧ Rd w' vr r.1.resp ∧ Attrs w' va r.1.at_ ∧ Ext w w'
end Go.Proofs.YtbodppfpmpmadaaGreat
