import Derived.Test.YtbodppfpmpmadaaGreatGrMC
import Derived.Lib.AppendZerosOnto
import Derived.Deep.RegionHeld3
import Derived.Test.YtbodppfpmpmadaaGreatL7C
namespace Go.Proofs.YtbodppfpmpmadaaGreat
open Go.RowKit

theorem byte_one (s : List UInt8 × Int) : ∃ (b : UInt8) (s' : List UInt8 × Int), rB 1 s = ([b], s') := by
  have hl := rB_length 1 s
  obtain ⟨x, s', hq⟩ : ∃ x s', rB 1 s = (x, s') := ⟨_, _, rfl⟩
  rw [hq] at hl ⊢
  match x, hl with
  | [b], _ => exact ⟨b, s', rfl⟩

theorem take1_g (a w : World) (g : Nat) (s : List UInt8 × Int) (b : UInt8) (x : Int) (s' : List UInt8 × Int) (hb : x = (b.toNat : Int)) (h : Rdr a w g s) (hx : rB 1 s = ([b], s')) :
    Calls Tryz.prog 80 #[.pointer (some ⟨g, 0, none⟩), .int .i64 1] w fun e w' => ∃ gb c, e = .returned (.slice (some ⟨gb, 0, none⟩) 1 c) ∧ w'.cell? ⟨gb, 0, none⟩ = some (.int .u8 x) ∧ Rdr a w' g s' ∧ On g w w' := by
  subst hb
  refine (take_g a w g s 1 [b] s' h (by omega) hx).mono ?_
  rintro e w' ⟨v, rfl, ho, h2, h3⟩
  obtain ⟨gb, c, rfl, _, _, _, B⟩ := ho.cellsF (by simp)
  exact ⟨gb, c, rfl, B.at (j := 0) rfl, h2, h3⟩
theorem takeS_g (a w : World) (g : Nat) (s : List UInt8 × Int) (n : Nat) (x : List UInt8) (s' : List UInt8 × Int) (m : Int) (hm : m = (n : Int)) (h : Rdr a w g s) (hn : n ≤ 100000) (hx : rB n s = (x, s')) :
    Calls Tryz.prog 80 #[.pointer (some ⟨g, 0, none⟩), .int .i64 m] w fun e w' => ∃ A c, e = .returned (.slice A n c) ∧ Own w' w.heap.size (.slice A n c) x ∧ Rdr a w' g s' ∧ On g w w' := by
  subst hm
  refine (take_g a w g s n x s' h hn hx).mono ?_
  rintro e w' ⟨v, rfl, ho, h2, h3⟩
  have hl := rB_length n s
  rw [hx] at hl
  obtain ⟨A, c, rfl, _⟩ := ho.rd
  dsimp only at hl
  rw [hl] at ho ⊢
  exact ⟨A, c, rfl, ho, h2, h3⟩

structure St (a w : World) (gv : Nat) (s : List UInt8 × Int) (Z cs : List Value) : Prop where
  b0 : BoxF w a.heap.size Z
  r : Rdr a w (a.heap.size + 1) s
  b : BoxF w gv cs
  lo : a.heap.size + 2 ≤ gv
structure St0 (a w : World) (s : List UInt8 × Int) (Z : List Value) : Prop where
  b0 : BoxF w a.heap.size Z
  r : Rdr a w (a.heap.size + 1) s
variable {a w w' : World} {gv : Nat} {s s' : List UInt8 × Int} {Z cs cs' : List Value}
theorem St0.onR (h : St0 a w s Z) (R : Rdr a w' (a.heap.size + 1) s') (O : On (a.heap.size + 1) w w') : St0 a w' s' Z := ⟨h.b0.on O (by omega), R⟩
theorem St0.grow (h : St0 a w s Z) (k : Ext w w') : St0 a w' s Z := ⟨h.b0.ext k, h.r.grow k⟩
theorem St0.ext (h : St0 a w s Z) : Ext a w := h.r.ext
theorem St.onR (h : St a w gv s Z cs) (R : Rdr a w' (a.heap.size + 1) s') (O : On (a.heap.size + 1) w w') : St a w' gv s' Z cs := ⟨h.b0.on O (by omega), R, h.b.on O (by have := h.lo; omega), h.lo⟩
theorem St.onV (h : St a w gv s Z cs) (B : BoxF w' gv cs') (O : On gv w w') : St a w' gv s Z cs' := ⟨h.b0.on O (by have := h.lo; omega), h.r.on O (by have := h.lo; omega) (by have := h.lo; omega), B, h.lo⟩
theorem St.grow (h : St a w gv s Z cs) (k : Ext w w') : St a w' gv s Z cs := ⟨h.b0.ext k, h.r.grow k, h.b.ext k, h.lo⟩
theorem St.ext (h : St a w gv s Z cs) : Ext a w := h.r.ext
theorem St.lt (h : St a w gv s Z cs) : gv < w.heap.size := h.b.lt
theorem St0.lt (h : St0 a w s Z) : a.heap.size + 2 ≤ w.heap.size := h.r.lt
theorem St0.new (h : St0 a w s Z) (k : Ext w w') (hg : w.heap.size ≤ gv) (B : BoxF w' gv cs) : St a w' gv s Z cs := ⟨h.b0.ext k, h.r.grow k, B, Nat.le_trans h.lt hg⟩
theorem St0.start (w : World) (v : Value) (l : List UInt8) (hr : Rd w v l) (Z : List Value) (t u : TypeId) (C : Array Value) (hC : C = Z.toArray) : St0 w ((w.alloc (.cells C t)).alloc (.cells #[v, .int .i64 0] u)) (l, 0) Z := by
  subst hC
  have hx : Ext w (w.alloc (.cells Z.toArray t)) := (Ext.refl w).alloc _
  have R := Rdr.new (hr.ext hx) 0 u
  have hsz : (w.alloc (.cells Z.toArray t)).heap.size = w.heap.size + 1 := by simp
  rw [hsz] at R
  refine ⟨(BoxF.new w Z t).ext ((Ext.refl _).alloc _), ⟨by omega, hx.trans R.ext, R.f0, R.f1, R.c1, ?_⟩⟩
  obtain ⟨v0, h0, _⟩ := R.c0
  refine ⟨v0, h0, ?_⟩
  have hv : v0 = v := by
    have h1 : ((w.alloc (.cells Z.toArray t)).alloc (.cells #[v, .int .i64 0] u)).cell? ⟨w.heap.size + 1, 0, none⟩ = some v := by
      have := (Box.new (w.alloc (.cells Z.toArray t)) [v, .int .i64 0] u) 0 (by simp)
      rw [hsz] at this
      exact this
    rw [h1] at h0
    exact (Option.some.inj h0).symm
  rw [hv]
  exact hr

theorem St.start (w : World) (v : Value) (l : List UInt8) (hr : Rd w v l) (Z : List Value) (t u : TypeId) (C : Array Value) (hC : C = Z.toArray) : St w (((w.alloc (.cells C t)).alloc (.cells #[v, .int .i64 0] u)).alloc (.cells C t)) (w.heap.size + 1 + 1) (l, 0) Z Z := by
  have h := St0.start w v l hr Z t u C hC
  subst hC
  have B := BoxF.new ((w.alloc (.cells Z.toArray t)).alloc (.cells #[v, .int .i64 0] u)) Z t
  have hsz : ((w.alloc (.cells Z.toArray t)).alloc (.cells #[v, .int .i64 0] u)).heap.size = w.heap.size + 1 + 1 := by simp
  rw [hsz] at B
  exact h.new ((Ext.refl _).alloc _) (by rw [hsz]; exact Nat.le_refl _) B
theorem Own.keepB {g base : Nat} {w w' : World} {v : Value} {l : List UInt8} (h : Own w base v l) (k : On g w w') (hne : v.ownBlock ≠ some g) : Own w' base v l :=
  World.ownsRow.kept h k (.inr hne)
theorem Own.ltB {base : Nat} {w : World} {v : Value} {l : List UInt8} (h : Own w base v l) {g : Nat} (hg : v.ownBlock = some g) : base ≤ g ∧ g < w.heap.size := World.ownsRow.lt h g hg
theorem OwnR.keepB {t : TypeId} {sz g base : Nat} {w w' : World} {v : Value} {rs : List (List Value)} (h : OwnR t sz w base v rs) (k : On g w w') (hne : v.ownBlock ≠ some g) : OwnR t sz w' base v rs :=
  ⟨World.ownsRow.kept h.1 k (.inr hne), h.2⟩
theorem OwnR.ltB {t : TypeId} {sz base : Nat} {w : World} {v : Value} {rs : List (List Value)} (h : OwnR t sz w base v rs) {g : Nat} (hg : v.ownBlock = some g) : base ≤ g ∧ g < w.heap.size := World.ownsRow.lt h.1 g hg

section
variable {P : Program} {ops : Array Oper} {rest : List Oper} {o : Oper} {a : Act} {w : World} {Q : Exit → Act → World → Prop}
theorem wpl_append_rds (hT : BT P) {base : Nat} {v vx : Value} {l m : List UInt8} (hown : Own w base v l) (hr : Rd w vx m)
    (hgd : o.guard = none) (s x : Operand) (ho : o.op = .call { callee := .builtin .append, args := #[s, x], argTypes := #[22, 22] })
    (hs : a.eval s = v) (hx : a.eval x = vx) (hlen : l.length + m.length ≤ 100000000) (hbase : base ≤ w.heap.size)
    (h : ∀ A k c w', Own w' base (.slice A k c) (l ++ m) → Below base w w' → wpList P ops Q rest (a.put o.dst (.slice A k c)) w') : wpList P ops Q (o :: rest) a w :=
  wpl_append_rd hT hown hr hgd s x ho hs hx hlen hbase fun v' w' h1 h2 => by
    obtain ⟨A, k, c, rfl⟩ := h1.shape
    exact h A k c w' h1 h2
end
end Go.Proofs.YtbodppfpmpmadaaGreat

namespace Go.Proofs.YtbodppfpmpmadaaGreat
open Go.RowKit

section
variable {P : Program} {w : World}
theorem zeroCells_bc (k : Nat) : (Builtin.zeroCells (Value.int .u8 0).cells k).toList = bc (List.replicate k 0) := by
  show ((Array.range (k * 1)).map fun i => (#[Value.int .u8 0] : Array Value)[i % 1]!).toList = _
  rw [Array.toList_map, Nat.mul_one]
  apply List.ext_getElem
  · simp [bc]
  · intro i h1 h2
    simp [bc, Nat.mod_one]
theorem run_append_room_zeros (t tn ty e : TypeId) (i : TypeInfo) (z : Value) (kq kn : IntKind) (ht : P.underlying t = some (.slice e)) (htn : P.underlying tn = some (.int kn)) (hi : P.info? e = some i) (hz : i.zero = some z)
    (g sLen sCap : Nat) (cur : Array Value) (hg : w.heap[g]? = some (.cells cur e (0, 0))) (k : Nat) (h0 : 0 < k) (hs : 0 < i.size) (zs : List Value) (hzs : (Builtin.zeroCells z.cells k).toList = zs) (h1 : ∀ v ∈ zs, v.oneCell' = true)
    (hroom : sLen + k ≤ sCap) (hfit : sLen * i.size + zs.length ≤ cur.size) (h63 : (k : Int) ≤ 9223372036854775807) (h48 : k * i.bytes ≤ 281474976710656) :
    (Builtin.append_ #[t, tn] ty #[.slice (some ⟨g, 0, none⟩) sLen sCap, .int kq k]).run P w =
      .ok (.slice (some ⟨g, 0, none⟩) (sLen + k) sCap) (w.setRow g (cur.toList.take (sLen * i.size) ++ zs ++ cur.toList.drop (sLen * i.size + zs.length)).toArray) := by
  subst hzs
  have hw : IntKind.i64.wrap (k : Int) = k := by rw [IntKind.wrap_i64]; omega
  have hst := run_storeCells_at P g (sLen * i.size) e _ 0 cur w hg (by simpa using hfit) h1
  simp only [Nat.add_zero] at hst
  have h48i : ¬ (281474976710656 < (k : Int) * (i.bytes : Int)) := by
    rw [← Int.natCast_mul]
    omega
  have hneg : ¬ ((k : Int) < 0) := by omega
  have hns : ¬ (k * i.size = 0) := Nat.mul_ne_zero (by omega) (by omega)
  simp [Builtin.append_, run_underlying ht, run_underlying htn, sizeOf, typeInfo, zeroValue, hi, hz, asInt, asIntOf, hw, hneg, hns, h48i, hroom, Addr.add_lit]
  rw [hst]
  simp

theorem run_append_zerosN (hT : BT P) (htn : P.underlying 3 = some (.int .i64)) (ty : TypeId) {base : Nat} {v : Value} {l : List UInt8} (hown : Own w base v l) (k : Nat) (h0 : 0 < k) (hk : l.length + k ≤ 100000000) (hbase : base ≤ w.heap.size) (kq : IntKind) :
    ∃ v' w', (Builtin.append_ #[22, 3] ty #[v, .int kq (k : Int)]).run P w = .ok v' w' ∧ Own w' base v' (l ++ List.replicate k 0) ∧ w.grownBy w' v.ownBlock := by
  obtain ⟨i, hi, hz, hs1, hb1⟩ := hT.info
  have hzc := zeroCells_bc k
  have hzl : (Builtin.zeroCells (Value.int .u8 0).cells k).size = k := by rw [← Array.length_toList, hzc, bc_length, List.length_replicate]
  have hlen : (bc (l ++ List.replicate k 0)).length = (l.length + k) * 1 := by rw [bc_length, List.length_append, List.length_replicate, Nat.mul_one]
  unfold Own
  rw [List.length_append, List.length_replicate]
  rcases hown.2 with ⟨rfl, hl0⟩ | ⟨g, cap, cur, rfl, hbg, hg, hnc, hcm, hcs, htake⟩
  · have hl : l = [] := List.eq_nil_of_length_eq_zero hl0
    subst hl
    have hr := Lib.run_append_nil_zeros (P := P) w 22 3 ty 5 i (.int .u8 0) kq .i64 hT.sl htn hi hz k h0 (by omega) (by simp at hk; omega) (by simp at hk; rw [hb1]; omega)
    have hge := grownCap_ge w k 0 5
    have hcm := grownCap_le_maxLen w k 0 5 (by simp at hk; unfold maxLen; omega)
    refine ⟨_, _, hr, ⟨hlen, .inr ⟨w.heap.size, _, _, by simp, hbase, _root_.Go.heap_alloc_new w.drew _, by simpa using hge, hcm, ?_, ?_⟩⟩, ⟨rfl, rfl, rfl, by simp, fun j hj _ => _root_.Go.heap_alloc_old w.drew _ hj⟩⟩
    · rw [Array.size_append, hzl, size_zeroCells]
      show k + (grownCap w k 0 5 - k) * 1 = _
      omega
    · rw [Array.toList_append, hzc]
      simp only [List.length_nil, Nat.zero_add, Nat.mul_one, List.nil_append]
      have e : k = (bc (List.replicate k 0)).length := by rw [bc_length, List.length_replicate]
      conv => lhs; arg 1; rw [e]
      exact List.take_left
  · by_cases hroom : l.length + k ≤ cap
    · have hr := run_append_room_zeros (P := P) (w := w) 22 3 ty 5 i (.int .u8 0) kq .i64 hT.sl htn hi hz g l.length cap cur hg k h0 (by omega) _ hzc (bc_one _) hroom (by rw [hs1, bc_length, List.length_replicate, hcs]; omega) (by omega) (by rw [hb1]; omega)
      refine ⟨_, _, hr, ⟨hlen, .inr ⟨g, cap, _, rfl, hbg, setRow_heap w g cur _ _ _ hg, hroom, hcm, ?_, ?_⟩⟩, ⟨rfl, rfl, rfl, by simp, fun k _ hk => setRow_other w g k _ (fun e => hk (by simp [Value.ownBlock, e]))⟩⟩
      · simp only [List.size_toArray, List.length_append, List.length_take, List.length_drop, Array.length_toList, bc_length, List.length_replicate, hs1]
        omega
      · rw [hs1, htake, bc_append]
        have e : (l.length + k) * 1 = (bc l ++ bc (List.replicate k 0)).length := by rw [List.length_append, bc_length, bc_length, List.length_replicate, Nat.mul_one]
        rw [e]
        exact List.take_left
    · have holds : ∀ j u, (bc l)[j]? = some u → w.drew.cell? ((⟨g, 0, none⟩ : Addr).add j) = some u := fun j u hj => World.ownsRow.cells (g := g) hown rfl j u hj
      have hold := run_firstCells_some (P := P) w.drew i.size l.length ⟨g, 0, none⟩ l.length cap (bc l) (by rw [bc_length, hs1, Nat.mul_one]) holds
      have hr := Lib.run_append_grow_zeros (P := P) w 22 3 ty 5 i (.int .u8 0) kq .i64 hT.sl htn hi hz (some ⟨g, 0, none⟩) l.length cap (bc l) hold k h0 (by omega) (by omega) (by omega) (by rw [hb1]; omega) (growslice_fits (by omega) (by rw [hb1]; omega))
      have hge := grownCap_ge w (l.length + k) cap 5
      have hcm := grownCap_le_maxLen w (l.length + k) cap 5 (by unfold maxLen; omega)
      refine ⟨_, _, hr, ⟨hlen, .inr ⟨w.heap.size, _, _, rfl, hbase, _root_.Go.heap_alloc_new w.drew _, hge, hcm, ?_, ?_⟩⟩, ⟨rfl, rfl, rfl, by simp, fun j hj _ => _root_.Go.heap_alloc_old w.drew _ hj⟩⟩
      · rw [Array.size_append, Array.size_append, hzl, size_zeroCells, List.size_toArray, bc_length]
        show l.length + k + (grownCap w (l.length + k) cap 5 - (l.length + k)) * 1 = _
        omega
      · rw [Array.toList_append, Array.toList_append, hzc, bc_append]
        have e : (l.length + k) * 1 = (bc l ++ bc (List.replicate k 0)).length := by rw [List.length_append, bc_length, bc_length, List.length_replicate, Nat.mul_one]
        rw [e]
        exact List.take_left
end
section
variable {P : Program} {ops : Array Oper} {rest : List Oper} {o : Oper} {a : Act} {w : World} {Q : Exit → Act → World → Prop}
theorem wpl_append_zeros (hT : BT P) (htn : P.underlying 3 = some (.int .i64)) {base : Nat} {v : Value} {l : List UInt8} (hown : Own w base v l) (k : Nat) (h0 : 0 < k)
    (hgd : o.guard = none) (s x : Operand) (ho : o.op = .call { callee := .builtin .append, args := #[s, x], argTypes := #[22, 3] })
    (hs : a.eval s = v) (kq : IntKind) (hx : a.eval x = .int kq (k : Int)) (hlen : l.length + k ≤ 100000000) (hbase : base ≤ w.heap.size)
    (h : ∀ v' w', Own w' base v' (l ++ List.replicate k 0) → Below base w w' → w.grownBy w' v.ownBlock → wpList P ops Q rest (a.put o.dst v') w') : wpList P ops Q (o :: rest) a w := by
  refine wpList_plain hgd fun K hK => ?_
  obtain ⟨v', w', hr, h2, h3⟩ := run_append_zerosN (P := P) (w := w) hT htn o.type hown k h0 hlen hbase kq
  unfold Oper.wp execOp
  simp only [ho, resolve, invoke, builtin, Sem.run_bind, Sem.run_pure, Result.andThen_ok, List.map_toArray, List.map_cons, List.map_nil, hs, hx, hr]
  exact hK _ _ (h v' w' h2 (Own.below_of hown hbase h3) h3)
end
end Go.Proofs.YtbodppfpmpmadaaGreat

namespace Go.Proofs.YtbodppfpmpmadaaGreat
open Go.RowKit

theorem cloneN_c (w : World) : Calls Tryz.prog 97 #[.slice none 0 0] w fun e w' => e = .returned (.slice none 0 0) ∧ w = w' := by
  have hn := fun wx => Lib.run_eql_slice_nil (P := Tryz.prog) wx 22 5 none 0 0 0 0 Tryz.underlying22
  go_enter Tryz.func97, Tryz.ntmps97
  go_wp2_with fail
  go_ret
  exact ⟨rfl, rfl⟩
theorem Box.one' {W0 W : World} {g j : Nat} {cs : List Value} {v : Value} (h : Box W0 g cs) (hv : cs[j]? = some v) (e : Ext W0 W) : W.cell? ⟨g, j, none⟩ = some v := by
  obtain ⟨hj, hv⟩ := List.getElem?_eq_some_iff.1 hv
  have h1 := (h.ext e) j hj
  simp [List.getD, hj, hv] at h1
  exact h1
theorem Box.hold2 {W0 W : World} {g i j : Nat} {cs : List Value} {u v : Value} (h : Box W0 g cs) (hu : cs[i]? = some u) (hv : cs[j]? = some v) (e : Ext W0 W) : W.cell? ⟨g, i, none⟩ = some u ∧ W.cell? ⟨g, j, none⟩ = some v ∧ Ext W0 W := ⟨h.one' hu e, h.one' hv e, e⟩
theorem Box.holdA {W0 W : World} {g i : Nat} {cs : List Value} {u : Value} (h : Box W0 g cs) (hu : cs[i]? = some u) (e : Ext W0 W) : W.cell? ⟨g, i, none⟩ = some u ∧ Ext W0 W := ⟨h.one' hu e, e⟩
theorem rd_byte (w : World) (x : Int) (h : 0 ≤ x ∧ x < 256) (g : Nat) (hg : g = w.heap.size) : Rd (w.alloc (.cells #[.int .u8 x] 5)) (.slice (some ⟨g, 0, none⟩) 1 1) [UInt8.ofNat x.toNat] :=
  rd_lit w _ [UInt8.ofNat x.toNat] (by
    show #[Value.int .u8 x] = #[Value.int .u8 ((UInt8.ofNat x.toNat).toNat : Int)]
    rw [UInt8.toNat_ofNat']
    congr 3
    omega) (by simp) 1 g rfl hg

set_option linter.unusedSimpArgs false in
set_option maxRecDepth 100000 in
set_option maxHeartbeats 4000000 in
theorem appendSwitch_g (w : World) (pl n : List UInt8) (vn : Value) (hn : Rd w vn n) (h : switchOk (pl, n)) (hp : pl.length ≤ 10000) :
    Calls Tryz.prog 90 #[.slice none 0 0, .agg #[.string (strL pl), vn]] w (RetBE w (switchB (pl, n)) 0) := by
  have HN := Lib.hid hn
  obtain ⟨An, cn, rfl, hcn, _, _, _⟩ := id hn
  have HZ := Lib.hid h.1
  have HPL := Lib.hid hp
  have h2 := h.2.1
  dsimp only at h2
  have HNL := Lib.hid (show n.length ≤ 20 by omega)
  have hb1 : plainP [pl] = true := by simp only [plainP, List.all_cons, List.all_nil, HZ.out]; rfl
  have HB1 := Lib.hid hb1
  have hck : checkE n = 0 := by
    have h3 := h.2.2
    unfold nonceOk at h3
    simp only [Bool.and_eq_true, Bool.not_eq_true'] at h3
    unfold checkE
    rw [if_pos ⟨h2, h3.1, h3.2⟩]
  have HCK := Lib.hid hck
  clear hn h hp h2 hb1 hck hcn
  go_enter Tryz.func90, Tryz.ntmps90
  go_wp2_with fail
  generalize hW0 : w.alloc _ = wS
  have hb : Box wS w.heap.size [.string (strL pl), .slice An n.length cn] := by rw [← hW0]; exact Box.new w _ _
  have hx0 : Ext w wS := by rw [← hW0]; exact (Ext.refl w).alloc _
  have hsz : w.heap.size + 1 = wS.heap.size := by rw [← hW0]; simp
  have HSZ := Lib.hid hsz
  clear hW0 hsz
  have c0 := hb.one' (j := 0) rfl (Ext.refl wS)
  have c1 := hb.one' (j := 1) rfl (Ext.refl wS)
  have HX0 := Lib.hid hx0
  clear hx0
  go_wp2_with (first
    | (go_at_call 143; refine (plain_g _ _ [pl] true (texts_new _ _ _ (by rfl) _ _ _ HSZ.out (by rfl) (by simp)) HB1.out).mono ?_; rintro e wT ⟨rfl, hq⟩; have hx1 : Ext wS wT := hq ▸ (Ext.refl wS).alloc _; clear hq c0 c1; have c1 := hb.one' (j := 1) rfl hx1)
    | (go_at_call 39; refine (check_c _ _ n 0 (HN.out.ext (HX0.out.trans hx1)) HCK.out).mono ?_; rintro e wy ⟨rfl, rfl⟩)
    | fail)
  clear c1
  replace hb := hb.ext hx1
  have HX := Lib.hid (HX0.out.trans hx1)
  clear hx1 HX0 HSZ
  have hE := Ext.refl wT
  go_region_held3 (fun W' => W'.cell? ⟨w.heap.size, 0, none⟩ = some (.string (strL pl)) ∧ W'.cell? ⟨w.heap.size, 1, none⟩ = some (.slice An n.length cn) ∧ Ext wT W') ((refine hb.hold2 (i := 0) (j := 1) rfl rfl ?_; repeat' (first | exact hE | (with_reducible refine Ext.drew ?_) | (with_reducible refine Ext.alloc ?_ _))))
    (first
      | (go_at_call 97; go_must (refine (cloneN_c _).mono ?_; rintro e wx ⟨rfl, rfl⟩))
      | ((with_reducible show (if Region.wanted (⟨some 20, _, _, _, _, _⟩ : Oper) _ = true then _ else _)); go_must (refine step_append_rdg (m := [254]) bt (Own.nil _ wT.heap.size) ?_ (by rfl) _ _ (by rfl) (by rfl) (by rfl) (by have h1 := HPL.out; have h2 := HNL.out; simp only [List.length_append, List.length_cons, List.length_nil] <;> omega) (Ext.size (w := wT) (by repeat' (first | exact hE | (with_reducible refine Ext.drew ?_) | (with_reducible refine Ext.alloc ?_ _)))) ?_; ((first | exact rd_lit _ _ [254] (by rfl) (by simp) 1 _ (by rfl) (by first | rfl | (simp; done)) | exact Rd.ext (rd_lit _ _ [254] (by rfl) (by simp) 1 _ (by rfl) (by first | rfl | (simp; done))) ((Ext.refl _).alloc _) | exact Rd.ext (rd_lit _ _ [254] (by rfl) (by simp) 1 _ (by rfl) (by first | rfl | (simp; done))) (((Ext.refl _).alloc _).alloc _) | exact Rd.ext (rd_lit _ _ [254] (by rfl) (by simp) 1 _ (by rfl) (by first | rfl | (simp; done))) (Ext.refl _).drew | exact Rd.ext (rd_lit _ _ [254] (by rfl) (by simp) 1 _ (by rfl) (by first | rfl | (simp; done))) ((Ext.refl _).alloc _).drew | exact Rd.ext (rd_lit _ _ [254] (by rfl) (by simp) 1 _ (by rfl) (by first | rfl | (simp; done))) (((Ext.refl _).alloc _).alloc _).drew)); intro v2 w2 ho2 hb2 hg2; replace hE : Ext wT w2 := Ext.below (by repeat' (first | exact hE | (with_reducible refine Ext.drew ?_) | (with_reducible refine Ext.alloc ?_ _))) hb2 (Nat.le_refl _)))
      | (go_at_call 96; go_must (refine (endedA_g _ _ ([] ++ [254]) pl (ho2.ext (by repeat' (first | exact (Ext.refl _) | (with_reducible refine Ext.drew ?_) | (with_reducible refine Ext.alloc ?_ _)))).rd (by have h1 := HPL.out; omega) (by simp) HZ.out).mono ?_; rintro e w3 ⟨v3, rfl, hof3, hx3⟩; have ho3 := hof3.more (base' := wT.heap.size) (Ext.size (w := wT) (by repeat' (first | exact hE | (with_reducible refine Ext.drew ?_) | (with_reducible refine Ext.alloc ?_ _)))); replace hE : Ext wT w3 := Ext.trans (by repeat' (first | exact hE | (with_reducible refine Ext.drew ?_) | (with_reducible refine Ext.alloc ?_ _))) hx3))
      | ((with_reducible show (if Region.wanted (⟨some 26, _, _, _, _, _⟩ : Oper) _ = true then _ else _)); go_must (refine step_append_rdg (m := n) bt (ho3.ext (by repeat' (first | exact (Ext.refl _) | (with_reducible refine Ext.drew ?_) | (with_reducible refine Ext.alloc ?_ _)))) ?_ (by rfl) _ _ (by rfl) (by rfl) (by rfl) (by have h1 := HPL.out; have h2 := HNL.out; simp only [List.length_append, List.length_cons, List.length_nil] <;> omega) (Ext.size (w := wT) (by repeat' (first | exact hE | (with_reducible refine Ext.drew ?_) | (with_reducible refine Ext.alloc ?_ _)))) ?_; (exact (HN.out.ext (HX.out.trans (by repeat' (first | exact hE | (with_reducible refine Ext.drew ?_) | (with_reducible refine Ext.alloc ?_ _)))))); intro v4 w4 ho4 hb4 hg4; replace hE : Ext wT w4 := Ext.below (by repeat' (first | exact hE | (with_reducible refine Ext.drew ?_) | (with_reducible refine Ext.alloc ?_ _))) hb4 (Nat.le_refl _)))
      | ((with_reducible show (if Region.wanted (⟨some 28, _, _, _, _, _⟩ : Oper) _ = true then _ else _)); go_must (refine step_append_rdg (m := [0]) bt (ho4.ext (by repeat' (first | exact (Ext.refl _) | (with_reducible refine Ext.drew ?_) | (with_reducible refine Ext.alloc ?_ _)))) ?_ (by rfl) _ _ (by rfl) (by rfl) (by rfl) (by have h1 := HPL.out; have h2 := HNL.out; simp only [List.length_append, List.length_cons, List.length_nil] <;> omega) (Ext.size (w := wT) (by repeat' (first | exact hE | (with_reducible refine Ext.drew ?_) | (with_reducible refine Ext.alloc ?_ _)))) ?_; ((first | exact rd_lit _ _ [0] (by rfl) (by simp) 1 _ (by rfl) (by first | rfl | (simp; done)) | exact Rd.ext (rd_lit _ _ [0] (by rfl) (by simp) 1 _ (by rfl) (by first | rfl | (simp; done))) ((Ext.refl _).alloc _) | exact Rd.ext (rd_lit _ _ [0] (by rfl) (by simp) 1 _ (by rfl) (by first | rfl | (simp; done))) (((Ext.refl _).alloc _).alloc _) | exact Rd.ext (rd_lit _ _ [0] (by rfl) (by simp) 1 _ (by rfl) (by first | rfl | (simp; done))) (Ext.refl _).drew | exact Rd.ext (rd_lit _ _ [0] (by rfl) (by simp) 1 _ (by rfl) (by first | rfl | (simp; done))) ((Ext.refl _).alloc _).drew | exact Rd.ext (rd_lit _ _ [0] (by rfl) (by simp) 1 _ (by rfl) (by first | rfl | (simp; done))) (((Ext.refl _).alloc _).alloc _).drew | (refine rd_far ?_ hg4 (fun e => by have h9 := hof3.ltB e.symm; have z0 := World.grownBy.size hg2; have z1 := Ext.size hx3; (try simp at h9 z0 z1) <;> omega); (first | exact rd_lit _ _ [0] (by rfl) (by simp) 1 _ (by rfl) (by first | rfl | (simp; done)) | exact Rd.ext (rd_lit _ _ [0] (by rfl) (by simp) 1 _ (by rfl) (by first | rfl | (simp; done))) ((Ext.refl _).alloc _) | exact Rd.ext (rd_lit _ _ [0] (by rfl) (by simp) 1 _ (by rfl) (by first | rfl | (simp; done))) (((Ext.refl _).alloc _).alloc _) | exact Rd.ext (rd_lit _ _ [0] (by rfl) (by simp) 1 _ (by rfl) (by first | rfl | (simp; done))) (Ext.refl _).drew | exact Rd.ext (rd_lit _ _ [0] (by rfl) (by simp) 1 _ (by rfl) (by first | rfl | (simp; done))) ((Ext.refl _).alloc _).drew | exact Rd.ext (rd_lit _ _ [0] (by rfl) (by simp) 1 _ (by rfl) (by first | rfl | (simp; done))) (((Ext.refl _).alloc _).alloc _).drew | (refine Rd.ext ?_ hx3; (first | exact rd_lit _ _ [0] (by rfl) (by simp) 1 _ (by rfl) (by first | rfl | (simp; done)) | exact Rd.ext (rd_lit _ _ [0] (by rfl) (by simp) 1 _ (by rfl) (by first | rfl | (simp; done))) ((Ext.refl _).alloc _) | exact Rd.ext (rd_lit _ _ [0] (by rfl) (by simp) 1 _ (by rfl) (by first | rfl | (simp; done))) (((Ext.refl _).alloc _).alloc _) | exact Rd.ext (rd_lit _ _ [0] (by rfl) (by simp) 1 _ (by rfl) (by first | rfl | (simp; done))) (Ext.refl _).drew | exact Rd.ext (rd_lit _ _ [0] (by rfl) (by simp) 1 _ (by rfl) (by first | rfl | (simp; done))) ((Ext.refl _).alloc _).drew | exact Rd.ext (rd_lit _ _ [0] (by rfl) (by simp) 1 _ (by rfl) (by first | rfl | (simp; done))) (((Ext.refl _).alloc _).alloc _).drew | (refine rd_far ?_ hg2 (by simp [Value.ownBlock]); (first | exact rd_lit _ _ [0] (by rfl) (by simp) 1 _ (by rfl) (by first | rfl | (simp; done)) | exact Rd.ext (rd_lit _ _ [0] (by rfl) (by simp) 1 _ (by rfl) (by first | rfl | (simp; done))) ((Ext.refl _).alloc _) | exact Rd.ext (rd_lit _ _ [0] (by rfl) (by simp) 1 _ (by rfl) (by first | rfl | (simp; done))) (((Ext.refl _).alloc _).alloc _) | exact Rd.ext (rd_lit _ _ [0] (by rfl) (by simp) 1 _ (by rfl) (by first | rfl | (simp; done))) (Ext.refl _).drew | exact Rd.ext (rd_lit _ _ [0] (by rfl) (by simp) 1 _ (by rfl) (by first | rfl | (simp; done))) ((Ext.refl _).alloc _).drew | exact Rd.ext (rd_lit _ _ [0] (by rfl) (by simp) 1 _ (by rfl) (by first | rfl | (simp; done))) (((Ext.refl _).alloc _).alloc _).drew)))))))); intro v5 w5 ho5 hb5 hg5; replace hE : Ext wT w5 := Ext.below (by repeat' (first | exact hE | (with_reducible refine Ext.drew ?_) | (with_reducible refine Ext.alloc ?_ _))) hb5 (Nat.le_refl _)))
      | fail)
  all_goals
    have HE := Lib.hid (HX.out.trans hE)
    have e4 : [] ++ [254] ++ (pl ++ [0]) ++ n ++ [0] = switchB (pl, n) := by simp [switchB]
    rw [e4] at ho5
    have HO := Lib.hid ho5
    clear e4
    go_wp2_with fail
    go_ret2
    exact ⟨_, rfl, HO.out.more (Ext.size HX.out), HE.out⟩
end Go.Proofs.YtbodppfpmpmadaaGreat

namespace Go.Proofs.YtbodppfpmpmadaaGreat
open Go.RowKit

def fnLook (g : Nat) : Value := .func (.func 87) #[.pointer (some ⟨g, 0, none⟩)] #[]
set_option maxHeartbeats 1000000 in
theorem dchange_known (w : World) (g : Nat) (cs : List Value) (pl n : List UInt8) (A : Option Addr) (k cp : Nat) (B : BoxF w g cs) (hl : cs.length = 19) (h3 : cs[3]? = some (.slice A k cp)) (h14 : cs[14]? = some (.string (strL pl))) (h17 : cs[17]? = some (.bool true))
    (hn : ∀ w', On g w w' → Rd w' (.slice A k cp) n) (hok : switchOk (pl, n)) (hp : pl.length ≤ 10000) :
    Calls Tryz.prog 45 #[.pointer (some ⟨g, 0, none⟩)] w fun e w' => ∃ v, e = .returned v ∧
      ListsN w' w.heap.size v [switchB (pl, n)] ∧ BoxF w' g (cs.set 11 (fnLook g)) ∧ On g w w' := by
  have HL := Lib.hid hl
  have HN := Lib.hid hn
  have HOK := Lib.hid hok
  have HP := Lib.hid hp
  have H3 := Lib.hid h3
  have H14 := Lib.hid h14
  have H17 := Lib.hid h17
  have hgl := B.lt
  obtain ⟨F, hF⟩ : ∃ F, F = switchB (pl, n) := ⟨_, rfl⟩
  have HF := Lib.hid hF
  have HB := Lib.hid B
  clear B hl hn hok hp h3 h14 h17 hF
  go_enter Tryz.func45, Tryz.ntmps45
  go_upto_region 1 with fail
  generalize hW0 : w.alloc _ = w0
  have hx0 : Ext w w0 := by rw [← hW0]; exact (Ext.refl w).alloc _
  have hh : w0.cell? ⟨w.heap.size, 0, none⟩ = some (.pointer (some ⟨g, 0, none⟩)) := by rw [← hW0]; exact Box.new w [_] _ 0 (by simp)
  have hs0 : w.heap.size < w0.heap.size := by rw [← hW0]; simp
  clear hW0
  have HX0 := Lib.hid hx0
  have B0 := HB.out.ext hx0
  have c3 := B0.at H3.out
  clear hx0
  go_wp2_with (first
    | ((with_reducible show AtS 3); refine wpl_alloc rfl _ rfl [.string ⟨#[]⟩, .slice none 0 0] (by kernel_rfl) ?_; intro w1 Bs hx1)
    | ((with_reducible show AtW 103); refine wpl_store_box rfl _ _ _ rfl _ [.string _, .slice A k cp] rfl rfl Bs rfl (by kernel_rfl) (by rfl) ?_; intro w2 Bs2 Os; have e2 : Ext w0 w2 := hx1.on Os (Nat.le_refl _); have B2 := B0.ext e2; have hh2 := Ext.cell e2 hh; clear Bs hx1 Os B0 hh c3)
    | ((with_reducible show AtW 30); refine wpl_store_cell rfl _ _ _ rfl g 11 (fnLook g) rfl rfl rfl rfl (by kernel_rfl) B2 (by have := HL.out; omega) ?_; intro w3 B3 O3; have Bs3 := Bs2.on O3 (by omega); have hh3 := On.cell O3 hh2 (by show w.heap.size ≠ g; omega); have c17 := B3.at (j := 17) (by rw [List.getElem?_set_ne (by decide)]; exact H17.out); have c14 := B3.at (j := 14) (by rw [List.getElem?_set_ne (by decide)]; exact H14.out); clear hh2 B2 Bs2)
    | ((with_reducible show AtW 9); refine wpl_store_cell rfl _ _ _ rfl w0.heap.size 0 (.string (strL pl)) rfl rfl rfl rfl (by kernel_rfl) Bs3 (by simp) ?_; intro w4 Bs4 O4; clear hh3 c17 c14)
    | ((with_reducible show AtS 32); refine wpl_load_box rfl _ _ rfl _ rfl Bs4 Tryz.underlying103 rfl (by kernel_rfl) ?_)
    | (go_at_call 90; have hO4 : On g w w4 := On.onNew (((On.of HX0.out).ext e2).trans O3) O4 (Ext.size HX0.out); refine (appendSwitch_g _ pl n _ (HN.out _ hO4) HOK.out HP.out).mono ?_; rintro e w5 ⟨v5, rfl, ho5, hx5⟩; rw [← HF.out] at ho5; obtain ⟨A5, c5, hv5, _⟩ := id ho5.rd; subst hv5)
    | fail)
  go_ret
  refine ⟨_, rfl, ?_, ?_, (hO4.ext hx5).ext ((Ext.refl _).alloc _)⟩
  · rw [← HF.out]
    exact lists_one (u := _) (Nat.le_trans (On.size hO4) (Ext.size hx5)) (Box.new w5 [_] _ 0 (by simp)) ((ho5.more (On.size hO4)).ext ((Ext.refl _).alloc _))
  · exact ((B3.on O4 (by omega)).ext hx5).ext ((Ext.refl _).alloc _)
def fnNobody (h : Nat) : Value := .func (.func 88) #[] #[.pointer (some ⟨h, 0, none⟩)]
set_option maxHeartbeats 1000000 in
theorem dchange_unknown (w : World) (g : Nat) (cs : List Value) (n : List UInt8) (A : Option Addr) (k cp : Nat) (B : BoxF w g cs) (hl : cs.length = 19) (h3 : cs[3]? = some (.slice A k cp)) (h17 : cs[17]? = some (.bool false))
    (hn : ∀ w', On g w w' → Rd w' (.slice A k cp) n) (hok : switchOk (natL, n)) :
    Calls Tryz.prog 45 #[.pointer (some ⟨g, 0, none⟩)] w fun e w' => ∃ v h, e = .returned v ∧ w'.cell? ⟨h, 0, none⟩ = some (.pointer (some ⟨g, 0, none⟩)) ∧ w.heap.size ≤ h ∧
      ListsN w' w.heap.size v [switchB (natL, n)] ∧ BoxF w' g (cs.set 11 (fnNobody h)) ∧ On g w w' := by
  have HL := Lib.hid hl
  have HN := Lib.hid hn
  have HOK := Lib.hid hok
  have H3 := Lib.hid h3
  have H17 := Lib.hid h17
  have hgl := B.lt
  obtain ⟨F, hF⟩ : ∃ F, F = switchB (natL, n) := ⟨_, rfl⟩
  have HF := Lib.hid hF
  have HB := Lib.hid B
  clear B hl hn hok h3 h17 hF
  go_enter Tryz.func45, Tryz.ntmps45
  go_upto_region 1 with fail
  generalize hW0 : w.alloc _ = w0
  have hx0 : Ext w w0 := by rw [← hW0]; exact (Ext.refl w).alloc _
  have hh : w0.cell? ⟨w.heap.size, 0, none⟩ = some (.pointer (some ⟨g, 0, none⟩)) := by rw [← hW0]; exact Box.new w [_] _ 0 (by simp)
  have hs0 : w.heap.size < w0.heap.size := by rw [← hW0]; simp
  clear hW0
  have HX0 := Lib.hid hx0
  have B0 := HB.out.ext hx0
  have c3 := B0.at H3.out
  clear hx0
  go_wp2_with (first
    | ((with_reducible show AtS 3); refine wpl_alloc rfl _ rfl [.string ⟨#[]⟩, .slice none 0 0] (by kernel_rfl) ?_; intro w1 Bs hx1)
    | ((with_reducible show AtW 103); refine wpl_store_box rfl _ _ _ rfl _ [.string _, .slice A k cp] rfl rfl Bs rfl (by kernel_rfl) (by rfl) ?_; intro w2 Bs2 Os; have e2 : Ext w0 w2 := hx1.on Os (Nat.le_refl _); have B2 := B0.ext e2; have hh2 := Ext.cell e2 hh; clear Bs hx1 Os B0 hh c3)
    | ((with_reducible show AtW 30); have _t := B2; refine wpl_store_cell rfl _ _ _ rfl g 11 (fnLook g) rfl rfl rfl rfl (by kernel_rfl) B2 (by have := HL.out; omega) ?_; intro w3 B3 O3; have Bs3 := Bs2.on O3 (by omega); have hh3 := On.cell O3 hh2 (by show w.heap.size ≠ g; omega); have c17 := B3.at (j := 17) (by rw [List.getElem?_set_ne (by decide)]; exact H17.out); clear hh2 B2 Bs2)
    | ((with_reducible show AtW 30); have _t := B3; refine wpl_store_cell rfl _ _ _ rfl g 11 (fnNobody w.heap.size) rfl rfl rfl rfl (by kernel_rfl) B3 (by rw [List.length_set]; have := HL.out; omega) ?_; intro w4 B4 O4; rw [List.set_set] at B4; have Bs4 := Bs3.on O4 (by omega); have hh4 := On.cell O4 hh3 (by show w.heap.size ≠ g; omega); clear hh3 B3 Bs3 c17)
    | ((with_reducible show AtS 32); refine wpl_load_box rfl _ _ rfl _ rfl Bs4 Tryz.underlying103 rfl (by kernel_rfl) ?_)
    | (go_at_call 90; have hO4 : On g w w4 := (((On.of HX0.out).ext e2).trans O3).trans O4; refine (appendSwitch_g _ natL n _ (HN.out _ hO4) HOK.out (by decide)).mono ?_; rintro e w5 ⟨v5, rfl, ho5, hx5⟩; rw [← HF.out] at ho5; obtain ⟨A5, c5, hv5, _⟩ := id ho5.rd; subst hv5)
    | fail)
  go_ret
  refine ⟨_, w.heap.size, rfl, Ext.cell (hx5.trans ((Ext.refl _).alloc _)) hh4, Nat.le_refl _, ?_, ?_, (hO4.ext hx5).ext ((Ext.refl _).alloc _)⟩
  · rw [← HF.out]
    exact lists_one (u := _) (Nat.le_trans (On.size hO4) (Ext.size hx5)) (Box.new w5 [_] _ 0 (by simp)) ((ho5.more (On.size hO4)).ext ((Ext.refl _).alloc _))
  · exact (B4.ext hx5).ext ((Ext.refl _).alloc _)
end Go.Proofs.YtbodppfpmpmadaaGreat

namespace Go.Proofs.YtbodppfpmpmadaaGreat
open Go.RowKit

set_option maxHeartbeats 2000000 in
theorem look_nat (w : World) (g : Nat) (cs : List Value) (c : Int) (pw l n : List UInt8) (vb : Value) (A : Option Addr) (k cp : Nat) (B : BoxF w g cs) (hl : cs.length = 19) (h3 : cs[3]? = some (.slice A k cp)) (h10 : cs[10]? = some (.int .u32 c)) (h13 : cs[13]? = some (.string (strL pw))) (h14 : cs[14]? = some (.string (strL natL)))
    (hn : Rd w (.slice A k cp) n) (hr : Rd w vb l) (hp : pw.length ≤ 1000000) :
    Calls Tryz.prog 87 #[.pointer (some ⟨g, 0, none⟩), vb] w fun e w' => ∃ v, e = .returned v ∧
      ListsN w' w.heap.size v [if l == respP 1 pw n then okL c else refusedL] ∧ BoxF w' g (cs.set 9 (.int .i64 (if l == respP 1 pw n then 2 else 3))) ∧ On g w w' := by
  have HB := Lib.hid B
  have HL := Lib.hid hl
  have H10 := Lib.hid h10
  have H14 := Lib.hid h14
  have HR := Lib.hid hr
  have HN := Lib.hid hn
  have HP := Lib.hid hp
  obtain ⟨Ab, cb, rfl, _⟩ := hr
  have c3 := B.at h3
  have c13 := B.at h13
  have c14 := B.at h14
  obtain ⟨q, hq⟩ : ∃ q, q = (l == respP 1 pw n) := ⟨_, rfl⟩
  rw [← hq]
  have HQ := Lib.hid (show (l == respPl natL pw n) = q by rw [hq]; rfl)
  have g4 : ((strL natL).toList == [109, 121, 115, 113, 108, 95, 110, 97, 116, 105, 118, 101, 95, 112, 97, 115, 115, 119, 111, 114, 100]) = true := by rw [strL_tl]; rfl
  clear B hl h3 h10 h13 h14 hn hp hq
  have HG := Lib.hid g4
  obtain ⟨t, ht⟩ : ∃ t, t = strL natL := ⟨_, rfl⟩
  rw [← ht] at c14 g4
  have HT := Lib.hid ht
  clear ht
  go_enter Tryz.func87, Tryz.ntmps87
  go_wp2_with fail
  have hY := Ext.refl w
  go_region_held3 (fun W' => W'.cell? ⟨g, 3, none⟩ = some (.slice A k cp) ∧ W'.cell? ⟨g, 13, none⟩ = some (.string (strL pw)) ∧ W'.cell? ⟨g, 14, none⟩ = some (.string t) ∧ Ext w W')
    ((refine (fun h => ⟨Ext.cell h c3, Ext.cell h c13, Ext.cell h c14, h⟩) ?_; repeat' (first | with_reducible exact hY | (with_reducible refine Ext.drew ?_) | (with_reducible refine Ext.alloc ?_ _))))
    (first
      | (go_at_call 123; go_must (rw [HT.out]; refine (dresponse_c _ natL pw _ n HP.out (HN.out.ext (Ext.refl _).drew)).mono ?_; rintro e w1 ⟨v1, rfl, hr1, hx1⟩; replace hY : Ext w w1 := (Ext.refl _).drew.trans hx1))
      | (go_at_call 139; go_must (refine (equalS_c _ _ _ l _ (HR.out.ext hY) hr1).mono ?_; rintro e w2 ⟨rfl, hx2⟩; rw [HQ.out]; replace hY := hY.trans hx2))
      | fail)
  all_goals
    have HY := Lib.hid hY
    have HB2 := Lib.hid (HB.out.ext hY)
    have d14 := Ext.cell hY c14
    clear c3 c13 c14 hY hr1 hx1 hx2
    cases q with
    | true =>
      go_wp2_with (first
        | (go_at_call 140; refine (in_nil_c _ g cs c HB2.out HL.out H10.out).mono ?_; rintro e w3 ⟨v3, rfl, hl3, B3, O3⟩)
        | fail)
      go_ret
      exact ⟨_, rfl, hl3.more (Ext.size HY.out), B3, (On.of HY.out).trans O3⟩
    | false =>
      go_wp2_with (first
        | (go_at_call 89; refine (refused_c _).mono ?_; rintro e w3 ⟨v3, rfl, hl3, hx3⟩; have B3 := HB2.out.ext hx3)
        | (go_at_call 41; refine (dfail_c _ g cs _ B3 HL.out).mono ?_; rintro e w4 ⟨rfl, B4, O4⟩)
        | fail)
      go_ret
      exact ⟨_, rfl, (hl3.on O4 HB2.out.lt).more (Ext.size HY.out), B4, ((On.of HY.out).ext hx3).trans O4⟩
end Go.Proofs.YtbodppfpmpmadaaGreat

namespace Go.Proofs.YtbodppfpmpmadaaGreat
open Go.RowKit

def setAll (cs : List Value) (o : Nat) : List Value → List Value
  | [] => cs
  | v :: r => setAll (cs.set o v) (o + 1) r
theorem setAll_length : ∀ (vs cs : List Value) (o : Nat), (setAll cs o vs).length = cs.length
  | [], _, _ => rfl
  | v :: r, cs, o => by rw [setAll, setAll_length r, List.length_set]
theorem BoxF.setsAt : ∀ (vs : List Value) {W : World} {g : Nat} {cs : List Value} (_ : BoxF W g cs) (o : Nat), BoxF (W.setCells g o vs) g (setAll cs o vs)
  | [], _, _, _, h, _ => h
  | v :: r, _, _, _, h, o => BoxF.setsAt r (h.set o v) (o + 1)
theorem BoxF.thereAt {W : World} {g : Nat} {cs : List Value} (h : BoxF W g cs) (o n : Nat) (hn : o + n ≤ cs.length) : W.there g o n := fun j hj =>
  ⟨by rw [h.box (o + j) (by omega)]; rfl, h.free (o + j) (by omega)⟩
section
variable {P : Program} {ops : Array Oper} {rest : List Oper} {o : Oper} {a : Act} {w : World} {Q : Exit → Act → World → Prop}
theorem wpl_store_at (hgd : o.guard = none) (ty : TypeId) (x y : Operand) (ho : o.op = .store ty x y) (g k : Nat) (ds : List Value) (hx : a.eval x = .pointer (some ⟨g, k, none⟩)) (hy : a.eval y = .agg ds.toArray)
    {cs : List Value} (B : BoxF w g cs) (hl : k + ds.length ≤ cs.length) (hi : (P.info? ty).map (·.size) = some ds.length) (h1 : ds.all (·.oneCell') = true)
    (h : ∀ w', BoxF w' g (setAll cs k ds) → On g w w' → wpList P ops Q rest (a.put o.dst undef) w') : wpList P ops Q (o :: rest) a w :=
  wpList_store_mid hgd ty x y ho g k ds.toArray hx hy (by have := B.thereAt k ds.length hl; simpa using this) (by simpa using hi) (by simpa using h1) (h _ (by simpa using BoxF.setsAt ds B k) (by simpa using On.sets w k ds))
end
end Go.Proofs.YtbodppfpmpmadaaGreat

namespace Go.Proofs.YtbodppfpmpmadaaGreat
open Go.RowKit

def whoC (cs : List Value) (u : UserV) (kn : Bool) (sc : List UInt8) : List Value :=
  ((setAll cs 12 (userC u)).set 17 (.bool kn)).set 18 (.string (strL (if sc.isEmpty then u.sc else sc)))
theorem who_15 (cs : List Value) (a b c d e : Value) (hl : cs.length = 19) : (setAll cs 12 [a, b, c, d, e])[15]? = some d := by
  simp [setAll, hl]
set_option maxHeartbeats 1000000 in
theorem who_c (w : World) (g b : Nat) (cs : List Value) (nm : ByteArray) (sc u1 u2 u3 u4 : List UInt8) (ad kn : Bool) (B : BoxF w g cs) (hl : cs.length = 19) (h0 : cs[0]? = some (.map (some b)))
    (hlk : (Instr.lookup 24 (.map (some b)) (.string nm) true).run Tryz.prog w = .ok (.tuple #[.agg #[.string (strL u1), .string (strL u2), .string (strL u3), .string (strL u4), .bool ad], .bool kn]) w) :
    Calls Tryz.prog 44 #[.pointer (some ⟨g, 0, none⟩), .string nm, .string (strL sc)] w fun e w' => e = .returned (.tuple #[]) ∧ BoxF w' g (whoC cs ⟨u1, u2, u3, u4, ad⟩ kn sc) ∧ On g w w' := by
  have HB := Lib.hid B
  have HL := Lib.hid hl
  have c0 := B.at h0
  obtain ⟨q, hq⟩ : ∃ q, sc.isEmpty = q := ⟨_, rfl⟩
  have e4 : (strL sc).toList.isEmpty = q := by rw [strL_tl]; exact hq
  unfold whoC
  rw [hq]
  clear B hl h0 hq
  cases q
  all_goals
    go_enter Tryz.func44, Tryz.ntmps44
    go_wp2_with (first
      | ((with_reducible show AtW 32); refine wpl_store_at rfl _ _ _ rfl g 12 [.string (strL u1), .string (strL u2), .string (strL u3), .string (strL u4), .bool ad] rfl rfl HB.out (by have := HL.out; simp; omega) (by kernel_rfl) (by rfl) ?_; intro w1 B1 O1; clear c0 hlk)
      | ((with_reducible show AtW 4); refine wpl_store_cell rfl _ _ _ rfl g 17 (.bool kn) rfl rfl rfl rfl (by kernel_rfl) B1 (by rw [setAll_length]; have := HL.out; omega) ?_; intro w2 B2 O2)
      | ((with_reducible show AtW 9); have _t := B1; refine wpl_store_cell rfl _ _ _ rfl g 18 (.string (strL sc)) rfl rfl rfl rfl (by kernel_rfl) B2 (by rw [List.length_set, setAll_length]; have := HL.out; omega) ?_; intro w3 B3 O3; clear B1; have c15 := B3.at (j := 15) (v := .string (strL u4)) (by rw [List.getElem?_set_ne (by decide), List.getElem?_set_ne (by decide)]; exact who_15 cs _ _ _ _ _ HL.out))
      | ((with_reducible show AtW 9); refine wpl_store_cell rfl _ _ _ rfl g 18 (.string (strL u4)) rfl rfl rfl rfl (by kernel_rfl) B3 (by rw [List.length_set, List.length_set, setAll_length]; have := HL.out; omega) ?_; intro w4 B4 O4; rw [List.set_set] at B4)
      | fail)
  · refine bodyPost_end (results_none rfl _ _ _) rfl ?_
    exact ⟨rfl, B3, (O1.trans O2).trans O3⟩
  · refine bodyPost_end (results_none rfl _ _ _) rfl ?_
    exact ⟨rfl, B4, ((O1.trans O2).trans O3).trans O4⟩
end Go.Proofs.YtbodppfpmpmadaaGreat

namespace Go.Proofs.YtbodppfpmpmadaaGreat
open Go.RowKit

def user0 : List Value := [.string ⟨#[]⟩, .string ⟨#[]⟩, .string ⟨#[]⟩, .string ⟨#[]⟩, .bool false]
set_option maxHeartbeats 1000000 in
theorem duser_c (w : World) (g : Nat) (cs : List Value) (st : Int) (n p l s : List UInt8) (ad : Bool) (B : BoxF w g cs) (h9 : cs[9]? = some (.int .i64 st)) (hu : (cs.drop 12).take 5 = [.string (strL n), .string (strL p), .string (strL l), .string (strL s), .bool ad]) :
    Calls Tryz.prog 12 #[.pointer (some ⟨g, 0, none⟩)] w fun e w' => e = .returned (.agg (if st = 2 then [.string (strL n), .string (strL p), .string (strL l), .string (strL s), .bool ad] else user0).toArray) ∧ Ext w w' := by
  have HB := Lib.hid B
  have HU := Lib.hid hu
  have c9 := B.at h9
  clear B h9 hu
  by_cases hq : st = 2
  · subst hq
    rw [if_pos rfl]
    go_enter Tryz.func12, Tryz.ntmps12
    go_wp2_with (first
      | ((with_reducible show AtS 2); refine wpl_alloc rfl _ rfl user0 (by kernel_rfl) ?_; intro w1 B1 hx1; have d9 := Ext.cell hx1 c9; clear c9)
      | (go_at_call 47; refine (ddone_c _ g 2 d9).mono ?_; rintro e wx ⟨rfl, rfl⟩)
      | ((with_reducible show AtS 10); refine wpl_load_p rfl _ _ rfl g 12 rfl [.string (strL n), .string (strL p), .string (strL l), .string (strL s), .bool ad] _ ((HB.out.ext hx1).box.part 5 HU.out) Tryz.underlying32 rfl (by kernel_rfl) ?_)
      | ((with_reducible show AtW 32); refine wpl_store_box rfl _ _ _ rfl _ [.string (strL n), .string (strL p), .string (strL l), .string (strL s), .bool ad] rfl rfl B1 rfl (by kernel_rfl) (by rfl) ?_; intro w2 B2 O2)
      | fail)
    try simp only [Exit.inBlock, Exit.then]
    refine ret_box1 rfl rfl rfl B2 Tryz.underlying32 rfl (by kernel_rfl) ?_
    exact ⟨rfl, hx1.on O2 (Nat.le_refl _)⟩
  · rw [if_neg hq]
    have HQ := Lib.hid (show (st == 2) = false by simp [hq])
    clear hq
    go_enter Tryz.func12, Tryz.ntmps12
    go_wp2_with (first
      | ((with_reducible show AtS 2); refine wpl_alloc rfl _ rfl user0 (by kernel_rfl) ?_; intro w1 B1 hx1; have d9 := Ext.cell hx1 c9; clear c9)
      | (go_at_call 47; refine (ddone_c _ g st d9).mono ?_; rintro e wx ⟨rfl, rfl⟩; rw [HQ.out])
      | ((with_reducible show AtW 32); refine wpl_store_box rfl _ _ _ rfl _ user0 rfl rfl B1 rfl (by kernel_rfl) (by rfl) ?_; intro w2 B2 O2)
      | fail)
    try simp only [Exit.inBlock, Exit.then]
    refine ret_box1 rfl rfl rfl B2 Tryz.underlying32 rfl (by kernel_rfl) ?_
    exact ⟨rfl, hx1.on O2 (Nat.le_refl _)⟩
end Go.Proofs.YtbodppfpmpmadaaGreat

