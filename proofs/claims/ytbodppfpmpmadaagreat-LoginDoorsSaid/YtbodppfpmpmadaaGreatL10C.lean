import Derived.Test.YtbodppfpmpmadaaGreatGrMC
import Derived.Lib.AppendZerosOnto
import Derived.Test.YtbodppfpmpmadaaGreatL5C
import Derived.Test.YtbodppfpmpmadaaGreatShaQC
namespace Go.Proofs.YtbodppfpmpmadaaGreat
open Go.RowKit

theorem byte_one (s : List UInt8 × Int) : ∃ (b : UInt8) (s' : List UInt8 × Int), rB 1 s = ([b], s') := by
  have hl := rB_length 1 s
  obtain ⟨x, s', hq⟩ : ∃ x s', rB 1 s = (x, s') := ⟨_, _, rfl⟩
  rw [hq] at hl ⊢
  match x, hl with
  | [b], _ => exact ⟨b, s', rfl⟩

theorem take1_g (a w : World) (g : Nat) (s : List UInt8 × Int) (b : UInt8) (x : Int) (s' : List UInt8 × Int) (hb : x = (b.toNat : Int)) (h : Rdr a w g s) (hx : rB 1 s = ([b], s')) :
    Calls Tryz.prog 80 #[.pointer (some ⟨g, 0, none⟩), .int .i64 1] w fun e w' => ∃ gb c, e = .returned (.slice (some ⟨gb, 0, none⟩) 1 c) ∧ w'.cell? ⟨gb, 0, none⟩ = some (.int .u8 x) ∧ Rdr a w' g s' ∧ On g w w' := by
  subst hb
  refine (take_g a w g s 1 [b] s' h (by omega) hx).mono ?_
  rintro e w' ⟨v, rfl, ho, h2, h3⟩
  obtain ⟨gb, c, rfl, _, _, _, B⟩ := ho.cellsF (by simp)
  exact ⟨gb, c, rfl, B.at (j := 0) rfl, h2, h3⟩
theorem takeS_g (a w : World) (g : Nat) (s : List UInt8 × Int) (n : Nat) (x : List UInt8) (s' : List UInt8 × Int) (m : Int) (hm : m = (n : Int)) (h : Rdr a w g s) (hn : n ≤ 100000) (hx : rB n s = (x, s')) :
    Calls Tryz.prog 80 #[.pointer (some ⟨g, 0, none⟩), .int .i64 m] w fun e w' => ∃ A c, e = .returned (.slice A n c) ∧ Own w' w.heap.size (.slice A n c) x ∧ Rdr a w' g s' ∧ On g w w' := by
  subst hm
  refine (take_g a w g s n x s' h hn hx).mono ?_
  rintro e w' ⟨v, rfl, ho, h2, h3⟩
  have hl := rB_length n s
  rw [hx] at hl
  obtain ⟨A, c, rfl, _⟩ := ho.rd
  dsimp only at hl
  rw [hl] at ho ⊢
  exact ⟨A, c, rfl, ho, h2, h3⟩

structure St (a w : World) (gv : Nat) (s : List UInt8 × Int) (Z cs : List Value) : Prop where
  b0 : BoxF w a.heap.size Z
  r : Rdr a w (a.heap.size + 1) s
  b : BoxF w gv cs
  lo : a.heap.size + 2 ≤ gv
structure St0 (a w : World) (s : List UInt8 × Int) (Z : List Value) : Prop where
  b0 : BoxF w a.heap.size Z
  r : Rdr a w (a.heap.size + 1) s
variable {a w w' : World} {gv : Nat} {s s' : List UInt8 × Int} {Z cs cs' : List Value}
theorem St0.onR (h : St0 a w s Z) (R : Rdr a w' (a.heap.size + 1) s') (O : On (a.heap.size + 1) w w') : St0 a w' s' Z := ⟨h.b0.on O (by omega), R⟩
theorem St0.grow (h : St0 a w s Z) (k : Ext w w') : St0 a w' s Z := ⟨h.b0.ext k, h.r.grow k⟩
theorem St0.ext (h : St0 a w s Z) : Ext a w := h.r.ext
theorem St.onR (h : St a w gv s Z cs) (R : Rdr a w' (a.heap.size + 1) s') (O : On (a.heap.size + 1) w w') : St a w' gv s' Z cs := ⟨h.b0.on O (by omega), R, h.b.on O (by have := h.lo; omega), h.lo⟩
theorem St.onV (h : St a w gv s Z cs) (B : BoxF w' gv cs') (O : On gv w w') : St a w' gv s Z cs' := ⟨h.b0.on O (by have := h.lo; omega), h.r.on O (by have := h.lo; omega) (by have := h.lo; omega), B, h.lo⟩
theorem St.grow (h : St a w gv s Z cs) (k : Ext w w') : St a w' gv s Z cs := ⟨h.b0.ext k, h.r.grow k, h.b.ext k, h.lo⟩
theorem St.ext (h : St a w gv s Z cs) : Ext a w := h.r.ext
theorem St.lt (h : St a w gv s Z cs) : gv < w.heap.size := h.b.lt
theorem St0.lt (h : St0 a w s Z) : a.heap.size + 2 ≤ w.heap.size := h.r.lt
theorem St0.new (h : St0 a w s Z) (k : Ext w w') (hg : w.heap.size ≤ gv) (B : BoxF w' gv cs) : St a w' gv s Z cs := ⟨h.b0.ext k, h.r.grow k, B, Nat.le_trans h.lt hg⟩
theorem St0.start (w : World) (v : Value) (l : List UInt8) (hr : Rd w v l) (Z : List Value) (t u : TypeId) (C : Array Value) (hC : C = Z.toArray) : St0 w ((w.alloc (.cells C t)).alloc (.cells #[v, .int .i64 0] u)) (l, 0) Z := by
  subst hC
  have hx : Ext w (w.alloc (.cells Z.toArray t)) := (Ext.refl w).alloc _
  have R := Rdr.new (hr.ext hx) 0 u
  have hsz : (w.alloc (.cells Z.toArray t)).heap.size = w.heap.size + 1 := by simp
  rw [hsz] at R
  refine ⟨(BoxF.new w Z t).ext ((Ext.refl _).alloc _), ⟨by omega, hx.trans R.ext, R.f0, R.f1, R.c1, ?_⟩⟩
  obtain ⟨v0, h0, _⟩ := R.c0
  refine ⟨v0, h0, ?_⟩
  have hv : v0 = v := by
    have h1 : ((w.alloc (.cells Z.toArray t)).alloc (.cells #[v, .int .i64 0] u)).cell? ⟨w.heap.size + 1, 0, none⟩ = some v := by
      have := (Box.new (w.alloc (.cells Z.toArray t)) [v, .int .i64 0] u) 0 (by simp)
      rw [hsz] at this
      exact this
    rw [h1] at h0
    exact (Option.some.inj h0).symm
  rw [hv]
  exact hr

theorem St.start (w : World) (v : Value) (l : List UInt8) (hr : Rd w v l) (Z : List Value) (t u : TypeId) (C : Array Value) (hC : C = Z.toArray) : St w (((w.alloc (.cells C t)).alloc (.cells #[v, .int .i64 0] u)).alloc (.cells C t)) (w.heap.size + 1 + 1) (l, 0) Z Z := by
  have h := St0.start w v l hr Z t u C hC
  subst hC
  have B := BoxF.new ((w.alloc (.cells Z.toArray t)).alloc (.cells #[v, .int .i64 0] u)) Z t
  have hsz : ((w.alloc (.cells Z.toArray t)).alloc (.cells #[v, .int .i64 0] u)).heap.size = w.heap.size + 1 + 1 := by simp
  rw [hsz] at B
  exact h.new ((Ext.refl _).alloc _) (by rw [hsz]; exact Nat.le_refl _) B
theorem Own.keepB {g base : Nat} {w w' : World} {v : Value} {l : List UInt8} (h : Own w base v l) (k : On g w w') (hne : v.ownBlock ≠ some g) : Own w' base v l :=
  World.ownsRow.kept h k (.inr hne)
theorem Own.ltB {base : Nat} {w : World} {v : Value} {l : List UInt8} (h : Own w base v l) {g : Nat} (hg : v.ownBlock = some g) : base ≤ g ∧ g < w.heap.size := World.ownsRow.lt h g hg
theorem OwnR.keepB {t : TypeId} {sz g base : Nat} {w w' : World} {v : Value} {rs : List (List Value)} (h : OwnR t sz w base v rs) (k : On g w w') (hne : v.ownBlock ≠ some g) : OwnR t sz w' base v rs :=
  ⟨World.ownsRow.kept h.1 k (.inr hne), h.2⟩
theorem OwnR.ltB {t : TypeId} {sz base : Nat} {w : World} {v : Value} {rs : List (List Value)} (h : OwnR t sz w base v rs) {g : Nat} (hg : v.ownBlock = some g) : base ≤ g ∧ g < w.heap.size := World.ownsRow.lt h.1 g hg

section
variable {P : Program} {ops : Array Oper} {rest : List Oper} {o : Oper} {a : Act} {w : World} {Q : Exit → Act → World → Prop}
end
end Go.Proofs.YtbodppfpmpmadaaGreat

namespace Go.Proofs.YtbodppfpmpmadaaGreat
open Go.RowKit

section
variable {P : Program} {w : World}
theorem zeroCells_bc (k : Nat) : (Builtin.zeroCells (Value.int .u8 0).cells k).toList = bc (List.replicate k 0) := by
  show ((Array.range (k * 1)).map fun i => (#[Value.int .u8 0] : Array Value)[i % 1]!).toList = _
  rw [Array.toList_map, Nat.mul_one]
  apply List.ext_getElem
  · simp [bc]
  · intro i h1 h2
    simp [bc, Nat.mod_one]
theorem run_append_room_zeros (t tn ty e : TypeId) (i : TypeInfo) (z : Value) (kq kn : IntKind) (ht : P.underlying t = some (.slice e)) (htn : P.underlying tn = some (.int kn)) (hi : P.info? e = some i) (hz : i.zero = some z)
    (g sLen sCap : Nat) (cur : Array Value) (hg : w.heap[g]? = some (.cells cur e (0, 0))) (k : Nat) (h0 : 0 < k) (hs : 0 < i.size) (zs : List Value) (hzs : (Builtin.zeroCells z.cells k).toList = zs) (h1 : ∀ v ∈ zs, v.oneCell' = true)
    (hroom : sLen + k ≤ sCap) (hfit : sLen * i.size + zs.length ≤ cur.size) (h63 : (k : Int) ≤ 9223372036854775807) (h48 : k * i.bytes ≤ 281474976710656) :
    (Builtin.append_ #[t, tn] ty #[.slice (some ⟨g, 0, none⟩) sLen sCap, .int kq k]).run P w =
      .ok (.slice (some ⟨g, 0, none⟩) (sLen + k) sCap) (w.setRow g (cur.toList.take (sLen * i.size) ++ zs ++ cur.toList.drop (sLen * i.size + zs.length)).toArray) := by
  subst hzs
  have hw : IntKind.i64.wrap (k : Int) = k := by rw [IntKind.wrap_i64]; omega
  have hst := run_storeCells_at P g (sLen * i.size) e _ 0 cur w hg (by simpa using hfit) h1
  simp only [Nat.add_zero] at hst
  have h48i : ¬ (281474976710656 < (k : Int) * (i.bytes : Int)) := by
    rw [← Int.natCast_mul]
    omega
  have hneg : ¬ ((k : Int) < 0) := by omega
  have hns : ¬ (k * i.size = 0) := Nat.mul_ne_zero (by omega) (by omega)
  simp [Builtin.append_, run_underlying ht, run_underlying htn, sizeOf, typeInfo, zeroValue, hi, hz, asInt, asIntOf, hw, hneg, hns, h48i, hroom, Addr.add_lit]
  rw [hst]
  simp

theorem run_append_zerosN (hT : BT P) (htn : P.underlying 3 = some (.int .i64)) (ty : TypeId) {base : Nat} {v : Value} {l : List UInt8} (hown : Own w base v l) (k : Nat) (h0 : 0 < k) (hk : l.length + k ≤ 100000000) (hbase : base ≤ w.heap.size) (kq : IntKind) :
    ∃ v' w', (Builtin.append_ #[22, 3] ty #[v, .int kq (k : Int)]).run P w = .ok v' w' ∧ Own w' base v' (l ++ List.replicate k 0) ∧ w.grownBy w' v.ownBlock := by
  obtain ⟨i, hi, hz, hs1, hb1⟩ := hT.info
  have hzc := zeroCells_bc k
  have hzl : (Builtin.zeroCells (Value.int .u8 0).cells k).size = k := by rw [← Array.length_toList, hzc, bc_length, List.length_replicate]
  have hlen : (bc (l ++ List.replicate k 0)).length = (l.length + k) * 1 := by rw [bc_length, List.length_append, List.length_replicate, Nat.mul_one]
  unfold Own
  rw [List.length_append, List.length_replicate]
  rcases hown.2 with ⟨rfl, hl0⟩ | ⟨g, cap, cur, rfl, hbg, hg, hnc, hcm, hcs, htake⟩
  · have hl : l = [] := List.eq_nil_of_length_eq_zero hl0
    subst hl
    have hr := Lib.run_append_nil_zeros (P := P) w 22 3 ty 5 i (.int .u8 0) kq .i64 hT.sl htn hi hz k h0 (by omega) (by simp at hk; omega) (by simp at hk; rw [hb1]; omega)
    have hge := grownCap_ge w k 0 5
    have hcm := grownCap_le_maxLen w k 0 5 (by simp at hk; unfold maxLen; omega)
    refine ⟨_, _, hr, ⟨hlen, .inr ⟨w.heap.size, _, _, by simp, hbase, _root_.Go.heap_alloc_new w.drew _, by simpa using hge, hcm, ?_, ?_⟩⟩, ⟨rfl, rfl, rfl, by simp, fun j hj _ => _root_.Go.heap_alloc_old w.drew _ hj⟩⟩
    · rw [Array.size_append, hzl, size_zeroCells]
      show k + (grownCap w k 0 5 - k) * 1 = _
      omega
    · rw [Array.toList_append, hzc]
      simp only [List.length_nil, Nat.zero_add, Nat.mul_one, List.nil_append]
      have e : k = (bc (List.replicate k 0)).length := by rw [bc_length, List.length_replicate]
      conv => lhs; arg 1; rw [e]
      exact List.take_left
  · by_cases hroom : l.length + k ≤ cap
    · have hr := run_append_room_zeros (P := P) (w := w) 22 3 ty 5 i (.int .u8 0) kq .i64 hT.sl htn hi hz g l.length cap cur hg k h0 (by omega) _ hzc (bc_one _) hroom (by rw [hs1, bc_length, List.length_replicate, hcs]; omega) (by omega) (by rw [hb1]; omega)
      refine ⟨_, _, hr, ⟨hlen, .inr ⟨g, cap, _, rfl, hbg, setRow_heap w g cur _ _ _ hg, hroom, hcm, ?_, ?_⟩⟩, ⟨rfl, rfl, rfl, by simp, fun k _ hk => setRow_other w g k _ (fun e => hk (by simp [Value.ownBlock, e]))⟩⟩
      · simp only [List.size_toArray, List.length_append, List.length_take, List.length_drop, Array.length_toList, bc_length, List.length_replicate, hs1]
        omega
      · rw [hs1, htake, bc_append]
        have e : (l.length + k) * 1 = (bc l ++ bc (List.replicate k 0)).length := by rw [List.length_append, bc_length, bc_length, List.length_replicate, Nat.mul_one]
        rw [e]
        exact List.take_left
    · have holds : ∀ j u, (bc l)[j]? = some u → w.drew.cell? ((⟨g, 0, none⟩ : Addr).add j) = some u := fun j u hj => World.ownsRow.cells (g := g) hown rfl j u hj
      have hold := run_firstCells_some (P := P) w.drew i.size l.length ⟨g, 0, none⟩ l.length cap (bc l) (by rw [bc_length, hs1, Nat.mul_one]) holds
      have hr := Lib.run_append_grow_zeros (P := P) w 22 3 ty 5 i (.int .u8 0) kq .i64 hT.sl htn hi hz (some ⟨g, 0, none⟩) l.length cap (bc l) hold k h0 (by omega) (by omega) (by omega) (by rw [hb1]; omega) (growslice_fits (by omega) (by rw [hb1]; omega))
      have hge := grownCap_ge w (l.length + k) cap 5
      have hcm := grownCap_le_maxLen w (l.length + k) cap 5 (by unfold maxLen; omega)
      refine ⟨_, _, hr, ⟨hlen, .inr ⟨w.heap.size, _, _, rfl, hbase, _root_.Go.heap_alloc_new w.drew _, hge, hcm, ?_, ?_⟩⟩, ⟨rfl, rfl, rfl, by simp, fun j hj _ => _root_.Go.heap_alloc_old w.drew _ hj⟩⟩
      · rw [Array.size_append, Array.size_append, hzl, size_zeroCells, List.size_toArray, bc_length]
        show l.length + k + (grownCap w (l.length + k) cap 5 - (l.length + k)) * 1 = _
        omega
      · rw [Array.toList_append, Array.toList_append, hzc, bc_append]
        have e : (l.length + k) * 1 = (bc l ++ bc (List.replicate k 0)).length := by rw [List.length_append, bc_length, bc_length, List.length_replicate, Nat.mul_one]
        rw [e]
        exact List.take_left
end
section
variable {P : Program} {ops : Array Oper} {rest : List Oper} {o : Oper} {a : Act} {w : World} {Q : Exit → Act → World → Prop}
theorem wpl_append_zeros (hT : BT P) (htn : P.underlying 3 = some (.int .i64)) {base : Nat} {v : Value} {l : List UInt8} (hown : Own w base v l) (k : Nat) (h0 : 0 < k)
    (hgd : o.guard = none) (s x : Operand) (ho : o.op = .call { callee := .builtin .append, args := #[s, x], argTypes := #[22, 3] })
    (hs : a.eval s = v) (kq : IntKind) (hx : a.eval x = .int kq (k : Int)) (hlen : l.length + k ≤ 100000000) (hbase : base ≤ w.heap.size)
    (h : ∀ v' w', Own w' base v' (l ++ List.replicate k 0) → Below base w w' → w.grownBy w' v.ownBlock → wpList P ops Q rest (a.put o.dst v') w') : wpList P ops Q (o :: rest) a w := by
  refine wpList_plain hgd fun K hK => ?_
  obtain ⟨v', w', hr, h2, h3⟩ := run_append_zerosN (P := P) (w := w) hT htn o.type hown k h0 hlen hbase kq
  unfold Oper.wp execOp
  simp only [ho, resolve, invoke, builtin, Sem.run_bind, Sem.run_pure, Result.andThen_ok, List.map_toArray, List.map_cons, List.map_nil, hs, hx, hr]
  exact hK _ _ (h v' w' h2 (Own.below_of hown hbase h3) h3)
end
end Go.Proofs.YtbodppfpmpmadaaGreat

namespace Go.Proofs.YtbodppfpmpmadaaGreat
open Go.RowKit

def OwnQ (w : World) (base : Nat) (v : Value) (l : List UInt8) : Prop := Rd w v l ∧ v.ownBlock = some base
theorem OwnQ.of {w : World} {base : Nat} {v : Value} {l : List UInt8} (h : Rd w v l) (k : v.ownBlock = some base) : OwnQ w base v l := ⟨h, k⟩
theorem OwnQ.rd {w : World} {base : Nat} {v : Value} {l : List UInt8} (h : OwnQ w base v l) : Rd w v l := h.1
theorem OwnQ.ltB {w : World} {base g : Nat} {v : Value} {l : List UInt8} (h : OwnQ w base v l) (hg : v.ownBlock = some g) : base ≤ g ∧ True := ⟨by have := h.2.symm.trans hg; injection this with e; omega, trivial⟩
theorem OwnQ.ext {w w' : World} {base : Nat} {v : Value} {l : List UInt8} (h : OwnQ w base v l) (k : Ext w w') : OwnQ w' base v l := ⟨h.1.ext k, h.2⟩
theorem OwnQ.keepB {w w' : World} {g base : Nat} {v : Value} {l : List UInt8} (h : OwnQ w base v l) (k : On g w w') (hne : v.ownBlock ≠ some g) : OwnQ w' base v l := by
  obtain ⟨⟨A, cap, hv, h1, h2, h3, h4⟩, hb⟩ := h
  refine ⟨⟨A, cap, hv, h1, h2, h3, fun hl => ?_⟩, hb⟩
  obtain ⟨b, o, hA, hc⟩ := h4 hl
  refine ⟨b, o, hA, fun j hj => k.cell (hc j hj) ?_⟩
  subst hv hA
  intro e
  dsimp only at e
  subst e
  exact hne rfl
theorem rB_len (n : Nat) (s : List UInt8 × Int) : (rB n s).2.1.length ≤ s.1.length := by
  unfold rB
  split
  · split
    · exact Nat.le_refl _
    · simp only [List.length_drop]; omega
  · exact Nat.le_refl _
theorem rW_len (b : Bool) (s : List UInt8 × Int) : (rW b s).1.length ≤ s.1.length := by
  unfold rW
  split <;> exact Nat.le_refl _
theorem rX_len (n : Nat) (s : List UInt8 × Int) : (rX n s).2.1.length ≤ s.1.length := rB_len n s
theorem r0_len (n : Nat) (s : List UInt8 × Int) : (r0 n s).1.length ≤ s.1.length := Nat.le_trans (rW_len _ _) (rB_len n s)
theorem rZ_len (s : List UInt8 × Int) : (rZ s).2.1.length ≤ s.1.length := by
  unfold rZ
  split
  · split
    · simp only [List.length_drop]; omega
    · exact Nat.le_refl _
  · exact Nat.le_refl _

def ansC (a : AnsV) (vr va : Value) : List Value := [.int .u32 a.caps, .int .u32 a.most, .int .u8 a.ch, .string (strL a.user), vr, .string (strL a.db), .string (strL a.pl), va]
structure RetAnsF (w : World) (r : AnsV × Int) (e : Ending) (w' : World) : Prop where
  all : ∃ vr va, e = .returned (.tuple #[.agg (ansC r.1 vr va).toArray, .int .i64 r.2]) ∧ Rd w' vr r.1.resp ∧ Attrs w' va r.1.at_ ∧ Ext w w' ∧ ∀ h, vr.ownBlock = some h → w.heap.size ≤ h
end Go.Proofs.YtbodppfpmpmadaaGreat

namespace Go.Proofs.YtbodppfpmpmadaaGreat
open Go.RowKit

def chgC (a : ChgV) (vr va : Value) : List Value := [.string (strL a.user), vr, .string (strL a.db), .int .u16 a.ch, .string (strL a.pl), va]
def RetChg (w : World) (r : ChgV × Int) (e : Ending) (w' : World) : Prop :=
  ∃ vr va, e = .returned (.tuple #[.agg (chgC r.1 vr va).toArray, .int .i64 r.2]) ∧ Rd w' vr r.1.resp ∧ Attrs w' va r.1.at_ ∧ Ext w w'
end Go.Proofs.YtbodppfpmpmadaaGreat

namespace Go.Proofs.YtbodppfpmpmadaaGreat
open Go.RowKit

theorem checkE_bad {l : List UInt8} (k : Nat) (h20 : l.length = 20) (hk : k < 20) (h : l.getD k 0 = 0 ∨ l.getD k 0 = 36) : checkE l = 2 := by
  unfold checkE
  rw [if_neg]
  rintro ⟨_, h0, h1⟩
  have hm : l.getD k 0 ∈ l := by rw [List.getD_eq_getElem?_getD, List.getElem?_eq_getElem (by omega)]; exact List.getElem_mem _
  rcases h with h | h <;> rw [h] at hm <;> simp [hm] at h0 h1
theorem checkE_good {l : List UInt8} (h20 : l.length = 20) (h : ∀ j, j < 20 → l.getD j 0 ≠ 0 ∧ l.getD j 0 ≠ 36) : checkE l = 0 := by
  unfold checkE
  have key : ∀ c ∈ l, c ≠ 0 ∧ c ≠ 36 := fun c hc => by
    obtain ⟨j, hj, rfl⟩ := List.getElem_of_mem hc
    have := h j (by omega)
    rwa [List.getD_eq_getElem?_getD, List.getElem?_eq_getElem hj] at this
  rw [if_pos]
  refine ⟨h20, ?_, ?_⟩
  · simp only [List.contains_eq_mem, decide_eq_false_iff_not]
    intro hm; exact (key 0 hm).1 rfl
  · simp only [List.contains_eq_mem, decide_eq_false_iff_not]
    intro hm; exact (key 36 hm).2 rfl

set_option maxRecDepth 100000 in
theorem check_r (w : World) (v : Value) (l : List UInt8) (x : Int) (hr : Rd w v l) (hx : checkE l = x) :
    Calls Tryz.prog 61 #[v] w fun e w' => e = .returned (.int .i64 x) ∧ w = w' := by
  have HR := Lib.hid hr
  obtain ⟨A, cap, rfl, hle, hm, _, _⟩ := id hr
  unfold maxLen at hm
  clear hr
  obtain ⟨N, hN⟩ : ∃ N, N = l.length := ⟨_, rfl⟩
  rw [← hN] at HR hle ⊢
  by_cases h20 : N = 20
  · subst h20
    have HN := Lib.hid hN.symm
    have HX := Lib.hid hx
    clear hN hx
    go_enter Tryz.func61, Tryz.ntmps61
    go_wp2_with fail
    go_loop [3] (fun i => ∃ k : Nat, k ≤ 20 ∧ i = .int .i64 k ∧ Hid (∀ j, j < k → l.getD j 0 ≠ 0 ∧ l.getD j 0 ≠ 36)) (fun i => 20 - (intOf i).toNat)
    case atStart => exact ⟨0, Nat.zero_le _, rfl, Lib.hid (fun j hj => absurd hj (by omega))⟩
    case round =>
      obtain ⟨k, hk, rfl, HG⟩ := hrel
      by_cases hkN : k < 20
      · have hb : (k : Int) < 20 := by omega
        obtain ⟨b, o, rfl, hn2, hcs⟩ := HR.out.at_ (by omega)
        have hck := hcs k hkN
        clear hcs hn2
        have hbad := checkE_bad k HN.out hkN
        have hgood : l.getD k 0 ≠ 0 → l.getD k 0 ≠ 36 → ∀ j, j < k + 1 → l.getD j 0 ≠ 0 ∧ l.getD j 0 ≠ 36 := fun h1 h2 j hj => by
          rcases Nat.lt_or_ge j k with h | h
          · exact HG.out j h
          · obtain rfl : j = k := by omega
            exact ⟨h1, h2⟩
        generalize l.getD k 0 = c at hck hbad hgood
        have HB := Lib.hid hbad
        have HO := Lib.hid hgood
        clear hbad hgood
        by_cases h0 : c = 0
        · subst h0
          obtain rfl : x = 2 := by rw [← HX.out]; exact HB.out (.inl rfl)
          go_wp2_with fail
          go_ret
          exact ⟨rfl, rfl⟩
        · by_cases h1 : c = 36
          · subst h1
            obtain rfl : x = 2 := by rw [← HX.out]; exact HB.out (.inr rfl)
            go_wp2_with fail
            go_ret
            exact ⟨rfl, rfl⟩
          · have h2 := HO.out h0 h1
            obtain ⟨y, hy⟩ : ∃ y : Int, y = (c.toNat : Int) := ⟨_, rfl⟩
            have e0 : (y == 0) = false := by
              rw [beq_eq_false_iff_ne]; intro h; apply h0; apply UInt8.toNat_inj.1; show c.toNat = 0; omega
            have e1 : (y == 36) = false := by
              rw [beq_eq_false_iff_ne]; intro h; apply h1; apply UInt8.toNat_inj.1; show c.toNat = 36; omega
            rw [← hy] at hck
            have H2 := Lib.hid h2
            clear hy h0 h1 h2
            go_wp2_with fail
            go_round
            case rel => exact ⟨k + 1, by omega, by go_num, H2⟩
            case measure => simp [intOf]; omega
      · obtain rfl : k = 20 := by omega
        obtain rfl : x = 0 := by rw [← HX.out]; exact checkE_good HN.out HG.out
        simp only [Int.cast_ofNat_Int]
        go_wp2_with fail
        go_ret
        exact ⟨rfl, rfl⟩
  · have hb : ((N : Int) != 20) = true := by simp; omega
    obtain rfl : x = 2 := by rw [← hx]; unfold checkE; rw [if_neg]; intro h; exact h20 (by omega)
    clear hx hN
    go_enter Tryz.func61, Tryz.ntmps61
    go_wp2_with fail
    go_ret
    exact ⟨rfl, rfl⟩

theorem joined_r (w : World) (va vb : Value) (a b : List UInt8) (ha : Rd w va a) (hb : Rd w vb b) (h1 : a.length ≤ 100000) (h2 : b.length ≤ 100000) :
    Calls Tryz.prog 207 #[va, vb] w fun e w' => ∃ v', e = .returned v' ∧ Own w' w.heap.size v' (a ++ b) ∧ Ext w w' := by
  have HA := Lib.hid ha
  have HB := Lib.hid hb
  clear ha hb
  go_enter Tryz.func207, Tryz.ntmps207
  go_wp2_with (first
    | ((with_reducible show AtS 7); refine wpl_clone bt HA.out rfl _ _ rfl rfl rfl (by omega) ?_; intro v1 w1 ho1 hx1)
    | ((with_reducible show AtS 9); refine wpl_append_rd bt ho1 (HB.out.ext hx1) rfl _ _ rfl rfl rfl (by omega) (Ext.size hx1) ?_; intro v2 w2 ho2 hb2)
    | fail)
  go_ret
  exact ⟨_, rfl, ho2, hx1.below hb2 (Nat.le_refl _)⟩

set_option maxRecDepth 100000 in
set_option maxHeartbeats 1000000 in
theorem both_r (w : World) (va vb : Value) (a b : List UInt8) (ha : Rd w va a) (hb : Rd w vb b) (hab : a.length ≤ b.length) (h1 : a.length ≤ 1000) :
    Calls Tryz.prog 195 #[va, vb] w fun e w' => ∃ v', e = .returned v' ∧ Own w' w.heap.size v' (xorL a b) ∧ Ext w w' := by
  have HA := Lib.hid ha
  have HB := Lib.hid hb
  obtain ⟨A, ca, rfl, hle, hm, _, _⟩ := id ha
  obtain ⟨B, cb, rfl, hle2, hm2, _, _⟩ := id hb
  unfold maxLen at hm hm2
  clear ha hb
  obtain ⟨N, hN⟩ : ∃ N, N = a.length := ⟨_, rfl⟩
  obtain ⟨M, hM⟩ : ∃ M, M = b.length := ⟨_, rfl⟩
  have hal := xorK_all a b hab
  rw [← hN] at HA hle hab h1 hal ⊢
  rw [← hM] at HB hle2 hab ⊢
  have HN := Lib.hid hN
  have HM := Lib.hid hM
  have HAL := Lib.hid hal
  clear hN hM hal
  go_enter Tryz.func195, Tryz.ntmps195
  go_wp2_with fail
  have OW0 : Own w w.heap.size (.slice none 0 0) (xorL (a.take 0) (b.take 0)) := Own.nil w _
  go_loopw [5, 6] (fun v i W => ∃ k : Nat, k ≤ N ∧ i = .int .i64 k ∧ Own W w.heap.size v (xorL (a.take k) (b.take k)) ∧ Ext w W) (fun _ i _ => N - (intOf i).toNat)
  case atStart => exact ⟨0, Nat.zero_le _, rfl, OW0, Ext.refl _⟩
  case round =>
    clear OW0
    obtain ⟨k, hk, rfl, OW, hx⟩ := hrel
    by_cases hkN : k < N
    · have hbk : (k : Int) < (N : Int) := by omega
      have hbm : (k : Int) < (M : Int) := by omega
      obtain ⟨ba, oa, rfl, hn1, hca⟩ := HA.out.at_ (by omega)
      obtain ⟨bb, ob, rfl, hn2, hcb⟩ := HB.out.at_ (by omega)
      have pa := hca k hkN
      have pb := hcb k (by omega)
      have ht := xorL_take a b k (by have := HN.out; omega) (by have := HM.out; omega)
      have hlen : (xorL (a.take k) (b.take k)).length = k := by rw [xorL_length, List.length_take, List.length_take]; have := HN.out; have := HM.out; omega
      have hq := u8_xor_nat (a.getD k 0).toNat (b.getD k 0).toNat (a.getD k 0).toNat_lt (b.getD k 0).toNat_lt
      rw [← UInt8.toNat_xor] at hq
      generalize a.getD k 0 = ya at pa ht hq
      generalize b.getD k 0 = yb at pb ht hq
      generalize ya ^^^ yb = z at ht hq
      obtain ⟨x, hxa⟩ : ∃ x : Int, x = (ya.toNat : Int) := ⟨_, rfl⟩
      obtain ⟨y, hyb⟩ : ∃ y : Int, y = (yb.toNat : Int) := ⟨_, rfl⟩
      rw [← hxa] at pa hq
      rw [← hyb] at pb hq
      have pa2 := hx.cell pa
      have pb2 := hx.cell pb
      have HT := Lib.hid ht
      have HL := Lib.hid hlen
      have OW1 := Lib.hid OW
      clear hn1 hn2 hca hcb ht hlen hxa hyb
      go_wp2_with fail
      go_region_held3 (fun W' => W'.cell? ⟨ba, oa + k, none⟩ = some (.int .u8 x) ∧ W'.cell? ⟨bb, ob + k, none⟩ = some (.int .u8 y) ∧ Ext w W')
        ((refine (fun h => ⟨Ext.cell h pa, Ext.cell h pb, h⟩) ?_; first | exact hx.drew | exact (hx.alloc _).drew | exact hx4 | fail))
        (first
          | ((with_reducible show (if Region.wanted (⟨some 30, _, _, _, _, _⟩ : Oper) _ = true then _ else _)); go_must (go_split_ands; refine step_append_rd bt (OW1.out.ext (((Ext.refl _).alloc _).drew)) ((rd_lit wr _ [z] (by rfl) (by simp) 1 _ (by rfl) (by rfl)).ext (Ext.refl _).drew) (by rfl) _ _ (by rfl) (by rfl) (by rfl) ?_ ?_ ?_; (simp [HL.out]; omega); (exact Ext.size (by assumption)); intro v4 w4 ho4 hb4; have hx4 : Ext w w4 := Ext.below (by assumption) hb4 (Nat.le_refl _)))
          | fail)
      all_goals
        go_split_ands
        clear hq
        go_wp2_with fail
        go_roundw
        case rel => exact ⟨k + 1, by omega, by go_num, by rw [HT.out]; exact ho4, by assumption⟩
        case measure => simp [intOf]; omega
    · obtain rfl : k = N := by omega
      have e : xorL (a.take k) (b.take k) = xorL a b := by
        have := HAL.out
        unfold xorK at this
        rw [← this, ← HN.out, Nat.sub_self, List.replicate_zero, List.append_nil]
      rw [e] at OW
      clear e
      go_wp2_with fail
      go_ret
      exact ⟨_, rfl, OW, hx⟩

theorem sum_r (w : World) (kind : Int) (v : Value) (l : List UInt8) (hk : kind = 1 ∨ kind = 2) (hr : Rd w v l) (hl : l.length ≤ 1000000) :
    Calls Tryz.prog 196 #[.int .i64 kind, v] w fun e w' => ∃ v', e = .returned v' ∧ Own w' w.heap.size v' (sumP kind l) ∧ Ext w w' := by
  have HR := Lib.hid hr
  clear hr
  rcases hk with rfl | rfl
  · go_enter Tryz.func196, Tryz.ntmps196
    go_wp2_with (go_at_call 205; refine (sum1_r _ _ l HR.out hl).mono ?_; rintro e w2 ⟨v2, rfl, ho2, hx2⟩)
    go_ret
    exact ⟨_, rfl, ho2, hx2⟩
  · go_enter Tryz.func196, Tryz.ntmps196
    go_wp2_with (go_at_call 206; refine (sum256_r _ _ l HR.out hl).mono ?_; rintro e w2 ⟨v2, rfl, ho2, hx2⟩)
    go_ret
    exact ⟨_, rfl, ho2, hx2⟩

theorem mixed_r (w : World) (kind : Int) (vs vn : Value) (s n : List UInt8) (hk : kind = 1 ∨ kind = 2) (hs : Rd w vs s) (hn : Rd w vn n) (h1 : n.length ≤ 10000) (h2 : s.length ≤ 10000) :
    Calls Tryz.prog 197 #[.int .i64 kind, vs, vn] w fun e w' => ∃ v', e = .returned v' ∧ Own w' w.heap.size v' (mixP kind n s) ∧ Ext w w' := by
  have HNN := Lib.hid hn
  have HS := Lib.hid hs
  clear hn hs
  rcases hk with rfl | rfl
  · rw [show mixP 1 n s = sumP 1 (n ++ s) by unfold mixP; rw [if_pos rfl]]
    go_enter Tryz.func197, Tryz.ntmps197
    go_wp2_with (first
      | (go_at_call 207; refine (joined_r _ _ _ n s HNN.out HS.out (by omega) (by omega)).mono ?_; rintro e w1 ⟨v1, rfl, ho1, hx1⟩)
      | (go_at_call 205; refine (sum1_r _ _ _ ho1.rd (by rw [List.length_append]; omega)).mono ?_; rintro e w2 ⟨v2, rfl, ho2, hx2⟩)
      | fail)
    go_ret
    exact ⟨_, rfl, ho2.more (Ext.size hx1), hx1.trans hx2⟩
  · rw [show mixP 2 n s = sumP 2 (s ++ n) by unfold mixP; rw [if_neg (by decide)]]
    go_enter Tryz.func197, Tryz.ntmps197
    go_wp2_with (first
      | (go_at_call 207; refine (joined_r _ _ _ s n HS.out HNN.out (by omega) (by omega)).mono ?_; rintro e w1 ⟨v1, rfl, ho1, hx1⟩)
      | (go_at_call 206; refine (sum256_r _ _ _ ho1.rd (by rw [List.length_append]; omega)).mono ?_; rintro e w2 ⟨v2, rfl, ho2, hx2⟩)
      | fail)
    go_ret
    exact ⟨_, rfl, ho2.more (Ext.size hx1), hx1.trans hx2⟩

set_option maxRecDepth 100000 in
set_option maxHeartbeats 1000000 in
theorem stored_r (w : World) (kind : Int) (s : ByteArray) (hs : s.size ≤ 1000000) :
    Calls Tryz.prog 194 #[.int .i64 kind, .string s] w fun e w' => ∃ v', e = .returned (.tuple #[v', .int .i64 (storedE kind)]) ∧ Own w' w.heap.size v' (storedP kind s.data.toList) ∧ Ext w w' := by
  by_cases hk : kind = 1 ∨ kind = 2
  · have eE : storedE kind = 0 := by unfold storedE; rw [if_pos hk]
    rw [eE]
    have HK := Lib.hid hk
    have hp : ∀ q : Bool, ((kind != 1) = true → (kind != 2) = false) := by
      intro _ h; rcases hk with rfl | rfl
      · simp at h
      · rfl
    obtain ⟨b1, hb1⟩ : ∃ b, (kind != 1) = b := ⟨_, rfl⟩
    have hb2 : b1 = true → (kind != 2) = false := fun h => hp true (hb1.trans h)
    clear hp hk eE
    by_cases he : s.data.toList = []
    · obtain rfl := str_empty he
      have eP : storedP kind ByteArray.empty.data.toList = [] := by simp [storedP]
      rw [eP]
      clear eP he
      cases b1
      · clear hb2
        go_enter Tryz.func194, Tryz.ntmps194
        go_wp2_with fail
        go_ret2
        exact ⟨_, rfl, Own.nil _ _, Ext.refl _⟩
      · have hb3 := hb2 rfl
        clear hb2
        go_enter Tryz.func194, Tryz.ntmps194
        go_wp2_with fail
        go_ret2
        exact ⟨_, rfl, Own.nil _ _, Ext.refl _⟩
    · have eP : storedP kind s.data.toList = sumP kind (sumP kind s.data.toList) := by unfold storedP; rw [if_pos ⟨HK.out, he⟩]
      rw [eP]
      have hne := str_ne he
      have hsz : s.data.toList.length = s.size := size_toList s
      have HSZ := Lib.hid hsz
      clear eP he hsz
      cases b1
      · clear hb2
        go_enter Tryz.func194, Tryz.ntmps194
        go_wp2_with (first
          | ((with_reducible show AtS 17); refine wpl_bytes bt s (by unfold maxLen; omega) rfl _ rfl rfl ?_; intro A1 m1 c1 w1 hr1 _ hx1; have tok1 : True := trivial)
          | (go_at_call 196; have _t := tok1; refine (sum_r _ kind _ _ HK.out hr1 (by rw [HSZ.out]; exact hs)).mono ?_; rintro e w2 ⟨v2, rfl, ho2, hx2⟩; clear tok1)
          | (go_at_call 196; refine (sum_r _ kind _ _ HK.out ho2.rd (by rw [sumP_len kind _ HK.out]; have := sizeK_le kind; omega)).mono ?_; rintro e w3 ⟨v3, rfl, ho3, hx3⟩)
          | fail)
        go_ret2
        have hx02 := hx1.trans hx2
        exact ⟨_, rfl, ho3.more (Ext.size hx02), hx02.trans hx3⟩
      · have hb3 := hb2 rfl
        clear hb2
        go_enter Tryz.func194, Tryz.ntmps194
        go_wp2_with (first
          | ((with_reducible show AtS 17); refine wpl_bytes bt s (by unfold maxLen; omega) rfl _ rfl rfl ?_; intro A1 m1 c1 w1 hr1 _ hx1; have tok1 : True := trivial)
          | (go_at_call 196; have _t := tok1; refine (sum_r _ kind _ _ HK.out hr1 (by rw [HSZ.out]; exact hs)).mono ?_; rintro e w2 ⟨v2, rfl, ho2, hx2⟩; clear tok1)
          | (go_at_call 196; refine (sum_r _ kind _ _ HK.out ho2.rd (by rw [sumP_len kind _ HK.out]; have := sizeK_le kind; omega)).mono ?_; rintro e w3 ⟨v3, rfl, ho3, hx3⟩)
          | fail)
        go_ret2
        have hx02 := hx1.trans hx2
        exact ⟨_, rfl, ho3.more (Ext.size hx02), hx02.trans hx3⟩
  · have eE : storedE kind = 2 := by unfold storedE; rw [if_neg hk]
    have eP : storedP kind s.data.toList = [] := by unfold storedP; rw [if_neg (fun h => hk h.1)]
    have hb1 : (kind != 1) = true := by simp; exact fun h => hk (.inl h)
    have hb2 : (kind != 2) = true := by simp; exact fun h => hk (.inr h)
    rw [eE, eP]
    clear eE eP hk
    go_enter Tryz.func194, Tryz.ntmps194
    go_wp2_with fail
    go_ret2
    exact ⟨_, rfl, Own.nil _ _, Ext.refl _⟩

set_option maxRecDepth 100000 in
set_option maxHeartbeats 1000000 in
theorem response_r (w : World) (kind : Int) (s : ByteArray) (vn : Value) (n : List UInt8) (hk : kind = 1 ∨ kind = 2) (hs : s.size ≤ 1000000) (hn : Rd w vn n) :
    Calls Tryz.prog 173 #[.int .i64 kind, .string s, vn] w fun e w' => ∃ v', e = .returned (.tuple #[v', .int .i64 (checkE n)]) ∧ Rd w' v' (respP kind s.data.toList n) ∧ Ext w w' := by
  have HK := Lib.hid hk
  have HNN := Lib.hid hn
  clear hk hn
  rcases checkE_or n with h | h
  · have hl := checkE_len h
    rw [h]
    by_cases he : s.data.toList = []
    · have eP : respP kind s.data.toList n = [] := by unfold respP; rw [if_neg (fun h => h.2 he)]
      rw [eP]
      obtain rfl := str_empty he
      have H := Lib.hid h
      clear h he eP hl
      go_enter Tryz.func173, Tryz.ntmps173
      go_wp2_with (go_at_call 61; refine (check_r _ _ n 0 HNN.out H.out).mono ?_; rintro e w1 ⟨rfl, rfl⟩)
      go_ret2
      exact ⟨_, rfl, Rd.nil _, Ext.refl _⟩
    · have eP : respP kind s.data.toList n = xorL (sumP kind s.data.toList) (mixP kind n (storedP kind s.data.toList)) := by unfold respP; rw [if_pos ⟨h, he⟩]
      rw [eP]
      have hne := str_ne he
      have hsz : s.data.toList.length = s.size := size_toList s
      have HSZ := Lib.hid hsz
      have H := Lib.hid h
      have eE : storedE kind = 0 := by unfold storedE; rw [if_pos HK.out]
      have HE := Lib.hid eE
      have HL := Lib.hid hl
      clear eP he hsz h eE hl
      have hs1 := sumP_len kind s.data.toList HK.out
      have hs2 := mixP_len kind n (storedP kind s.data.toList) HK.out
      have hs3 := sizeK_le kind
      have hs5 := storedP_le kind s.data.toList
      have HS1 := Lib.hid hs1
      have HS2 := Lib.hid hs2
      clear hs1 hs2
      go_enter Tryz.func173, Tryz.ntmps173
      go_wp2_with (first
        | (go_at_call 61; refine (check_r _ _ n 0 HNN.out H.out).mono ?_; rintro e w1 ⟨rfl, rfl⟩)
        | (go_at_call 194; refine (stored_r _ kind s hs).mono ?_; rintro e w1 ⟨v1, rfl, ho1, hx1⟩; rw [HE.out])
        | ((with_reducible show AtS 28); refine wpl_bytes bt s (by unfold maxLen; omega) rfl _ rfl rfl ?_; intro A2 m2 c2 w2 hr2 _ hx2)
        | (go_at_call 196; refine (sum_r _ kind _ _ HK.out hr2 (by rw [HSZ.out]; exact hs)).mono ?_; rintro e w3 ⟨v3, rfl, ho3, hx3⟩; have hx23 := hx2.trans hx3; have hx03 := hx1.trans hx23)
        | (go_at_call 197; refine (mixed_r _ kind _ _ _ n HK.out (ho1.rd.ext hx23) (HNN.out.ext hx03) (by have := HL.out; omega) (by omega)).mono ?_; rintro e w4 ⟨v4, rfl, ho4, hx4⟩)
        | (go_at_call 195; refine (both_r _ _ _ _ _ (ho3.rd.ext hx4) ho4.rd (by rw [HS1.out, HS2.out]; exact Nat.le_refl _) (by rw [HS1.out]; omega)).mono ?_; rintro e w5 ⟨v5, rfl, ho5, hx5⟩)
        | fail)
      go_ret2
      exact ⟨_, rfl, ho5.rd, (hx03.trans hx4).trans hx5⟩
  · have eP : respP kind s.data.toList n = [] := by unfold respP; rw [if_neg (fun h2 => by rw [h] at h2; exact absurd h2.1 (by decide))]
    rw [eP, h]
    have H := Lib.hid h
    clear h eP
    go_enter Tryz.func173, Tryz.ntmps173
    go_wp2_with (go_at_call 61; refine (check_r _ _ n 2 HNN.out H.out).mono ?_; rintro e w1 ⟨rfl, rfl⟩)
    go_ret2
    exact ⟨_, rfl, Rd.nil _, Ext.refl _⟩

theorem ntv_r (w : World) (s : ByteArray) (vn : Value) (n : List UInt8) (hs : s.size ≤ 1000000) (hn : Rd w vn n) :
    Calls Tryz.prog 129 #[.string s, vn] w fun e w' => ∃ v', e = .returned (.tuple #[v', .int .i64 (checkE n)]) ∧ Rd w' v' (respP 1 s.data.toList n) ∧ Ext w w' := by
  have HNN := Lib.hid hn
  clear hn
  go_enter Tryz.func129, Tryz.ntmps129
  go_wp2_with (go_at_call 173; refine (response_r _ 1 s _ n (.inl rfl) hs HNN.out).mono ?_; rintro e w1 ⟨v1, rfl, hr1, hx1⟩)
  go_ret2
  exact ⟨_, rfl, hr1, hx1⟩

theorem fast_r (w : World) (s : ByteArray) (vn : Value) (n : List UInt8) (hs : s.size ≤ 1000000) (hn : Rd w vn n) :
    Calls Tryz.prog 128 #[.string s, vn] w fun e w' => ∃ v', e = .returned (.tuple #[v', .int .i64 (checkE n)]) ∧ Rd w' v' (respP 2 s.data.toList n) ∧ Ext w w' := by
  have HNN := Lib.hid hn
  clear hn
  go_enter Tryz.func128, Tryz.ntmps128
  go_wp2_with (go_at_call 173; refine (response_r _ 2 s _ n (.inr rfl) hs HNN.out).mono ?_; rintro e w1 ⟨v1, rfl, hr1, hx1⟩)
  go_ret2
  exact ⟨_, rfl, hr1, hx1⟩

end Go.Proofs.YtbodppfpmpmadaaGreat

