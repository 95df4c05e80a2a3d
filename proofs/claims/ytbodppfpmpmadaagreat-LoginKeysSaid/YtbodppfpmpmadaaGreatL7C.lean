import Derived.Test.YtbodppfpmpmadaaGreatL2C
import Derived.Laws.OwnMore
import Derived.Test.YtbodppfpmpmadaaGreatL6C
import Derived.Deep.QuietTactic
import Derived.BigQuiet
import Derived.Deep.RegionHeld3
namespace Go.Proofs.YtbodppfpmpmadaaGreat
open Go.RowKit

def Recs (w : World) (sz : Nat) (v : Value) (rs : List (List Value)) : Prop :=
  ∃ (A : Option Addr) (cap : Nat), v = .slice A rs.length cap ∧ rs.length ≤ cap ∧ cap ≤ maxLen ∧
    (rs ≠ [] → ∃ b o, A = some ⟨b, o, none⟩ ∧ ∀ j, j < rs.length → w.rangeAt b (o + j * sz) (rs.getD j []))
theorem World.rangeAt.ext {w w' : World} {b o : Nat} {cs : List Value} (h : w.rangeAt b o cs) (k : Ext w w') : w'.rangeAt b o cs := fun j v hv => k.cell (h j v hv)
theorem World.rangeAt.on {g : Nat} {w w' : World} {b o : Nat} {cs : List Value} (h : w.rangeAt b o cs) (k : On g w w') (hne : b ≠ g) : w'.rangeAt b o cs := fun j v hv => k.cell (h j v hv) hne
theorem Recs.ext {w w' : World} {sz : Nat} {v : Value} {rs : List (List Value)} (h : Recs w sz v rs) (k : Ext w w') : Recs w' sz v rs := by
  obtain ⟨A, cap, h1, h2, h3, h4⟩ := h
  refine ⟨A, cap, h1, h2, h3, fun hn => ?_⟩
  obtain ⟨b, o, hA, hc⟩ := h4 hn
  exact ⟨b, o, hA, fun j hj => World.rangeAt.ext (hc j hj) k⟩
theorem Recs.at_ {w : World} {sz : Nat} {A : Option Addr} {n cap : Nat} {rs : List (List Value)} (h : Recs w sz (.slice A n cap) rs) (hn : 0 < n) : ∃ b o, A = some ⟨b, o, none⟩ ∧ n = rs.length ∧ ∀ j, j < n → w.rangeAt b (o + j * sz) (rs.getD j []) := by
  obtain ⟨A', cap', hv, _, _, h4⟩ := h
  injection hv with e1 e2 e3
  subst e1 e2
  obtain ⟨b, o, rfl, hc⟩ := h4 (by intro e; subst e; simp at hn)
  exact ⟨b, o, rfl, rfl, hc⟩
theorem Recs.nil (w : World) (sz : Nat) : Recs w sz (.slice none 0 0) [] := ⟨none, 0, rfl, Nat.le_refl _, by unfold maxLen; omega, fun h => absurd rfl h⟩
theorem Recs.shape {w : World} {sz : Nat} {v : Value} {rs : List (List Value)} (h : Recs w sz v rs) : ∃ A c, v = .slice A rs.length c ∧ rs.length ≤ c ∧ c ≤ maxLen := by obtain ⟨A, c, rfl, h1, h2, _⟩ := h; exact ⟨_, _, rfl, h1, h2⟩

def OwnR (t : TypeId) (sz : Nat) (w : World) (base : Nat) (v : Value) (rs : List (List Value)) : Prop := w.ownsRow base t sz v rs.length rs.flatten ∧ ∀ r ∈ rs, r.length = sz
theorem OwnR.nil (t : TypeId) (sz : Nat) (w : World) (base : Nat) : OwnR t sz w base (.slice none 0 0) [] := ⟨World.ownsRow_nil w base t sz, fun r h => by simp at h⟩
theorem OwnR.ext {t : TypeId} {sz : Nat} {w w' : World} {base : Nat} {v : Value} {rs : List (List Value)} (h : OwnR t sz w base v rs) (k : Ext w w') : OwnR t sz w' base v rs :=
  ⟨World.ownsRow.kept (row := none) h.1 ⟨k.os, k.tape, k.output, Ext.size k, fun i hi _ => k.block i hi⟩ (by cases hv : v.ownBlock <;> simp), h.2⟩
theorem OwnR.on {t : TypeId} {sz : Nat} {g : Nat} {w w' : World} {base : Nat} {v : Value} {rs : List (List Value)} (h : OwnR t sz w base v rs) (k : On g w w') (hg : g < base) : OwnR t sz w' base v rs := by
  refine ⟨World.ownsRow.kept h.1 k (.inr ?_), h.2⟩
  intro e
  have := (World.ownsRow.lt h.1 g e).1
  omega
theorem OwnR.more {t : TypeId} {sz : Nat} {w : World} {base base' : Nat} {v : Value} {rs : List (List Value)} (h : OwnR t sz w base v rs) (hb : base' ≤ base) : OwnR t sz w base' v rs := by
  obtain ⟨⟨h1, h2⟩, h3⟩ := h
  refine ⟨⟨h1, ?_⟩, h3⟩
  rcases h2 with h2 | ⟨g, cap, cur, hv, hg, r⟩
  · exact .inl h2
  · exact .inr ⟨g, cap, cur, hv, Nat.le_trans hb hg, r⟩
theorem flatten_at {sz : Nat} : ∀ (rs : List (List Value)), (∀ r ∈ rs, r.length = sz) → ∀ j, j < rs.length → ∀ i u, (rs.getD j [])[i]? = some u → rs.flatten[j * sz + i]? = some u
  | [], _, j, hj, _, _, _ => absurd hj (by simp)
  | r :: rs, h, 0, _, i, u, hu => by
    have hi : i < r.length := by
      rcases Nat.lt_or_ge i r.length with h | h
      · exact h
      · rw [List.getD_cons_zero, List.getElem?_eq_none h] at hu; cases hu
    rw [List.getD_cons_zero] at hu
    rw [Nat.zero_mul, Nat.zero_add, List.flatten_cons, List.getElem?_append_left hi, hu]
  | r :: rs, h, j + 1, hj, i, u, hu => by
    have hr := h r (by simp)
    have ih := flatten_at rs (fun x hx => h x (by simp [hx])) j (by simpa using hj) i u (by simpa using hu)
    rw [List.flatten_cons, List.getElem?_append_right (by rw [hr, Nat.succ_mul]; omega), hr, show (j + 1) * sz + i - sz = j * sz + i by rw [Nat.succ_mul]; omega]
    exact ih
theorem OwnR.recs {t : TypeId} {sz : Nat} {w : World} {base : Nat} {v : Value} {rs : List (List Value)} (h : OwnR t sz w base v rs) : Recs w sz v rs := by
  have hc := fun g hg => World.ownsRow.cells h.1 (g := g) hg
  rcases h.1.2 with ⟨rfl, h0⟩ | ⟨g, cap, cur, rfl, hb, hg, hn, hm, hs, ht⟩
  · have : rs = [] := List.eq_nil_of_length_eq_zero h0
    subst this
    exact Recs.nil w sz
  · refine ⟨_, cap, rfl, hn, hm, fun _ => ⟨g, 0, rfl, fun j hj i u hu => ?_⟩⟩
    have := hc g rfl (j * sz + i) u (flatten_at rs h.2 j hj i u hu)
    rw [addr0] at this
    rw [Nat.zero_add]
    exact this

section
variable {P : Program} {ops : Array Oper} {rest : List Oper} {o : Oper} {a : Act} {w : World} {Q : Exit → Act → World → Prop}
theorem wpl_append_rec {t sl : TypeId} {sz bytes : Nat} {z : Value} (hsl : P.underlying sl = some (.slice t)) (hinfo : (P.info? t).map (fun i => (i.zero, i.size, i.bytes)) = some (some z, sz, bytes)) (hzs : z.cells.size = sz) (hsz : 0 < sz) (hby : bytes ≤ 100)
    {base : Nat} {v : Value} {rs : List (List Value)} (hown : OwnR t sz w base v rs) (row : List Value) (hrow : row.length = sz) (h1 : row.all (·.oneCell') = true)
    (hgd : o.guard = none) (s x : Operand) (ho : o.op = .call { callee := .builtin .append, args := #[s, x], argTypes := #[sl, sl] })
    (hs : a.eval s = v) (C : Array Value) (hC : C = row.toArray) (hx : a.eval x = .slice (some ⟨w.heap.size, 0, none⟩) 1 1) (hlen : rs.length + 1 ≤ 1000000000) (hbase : base ≤ w.heap.size)
    (h : ∀ v' w', OwnR t sz w' base v' (rs ++ [row]) → Below base w w' → wpList P ops Q rest (a.put o.dst v') w') : wpList P ops Q (o :: rest) a (w.alloc (.cells C t)) := by
  subst hC
  refine wpList_plain hgd fun K hK => ?_
  obtain ⟨i, hi, hz, hs1, hb1⟩ := info_parts hinfo
  have hown' := (hown.ext ((Ext.refl w).alloc (.cells row.toArray t))).1
  obtain ⟨v', w', hrun, h2, h3, _⟩ := run_append_own (P := P) (w.alloc (.cells row.toArray t)) base sl o.type t i z sz bytes hsl hi hz hs1 hb1 hzs hsz v rs.length rs.flatten hown' ⟨w.heap.size, 0, none⟩ 1 1 row
    (by rw [hrow, Nat.one_mul]) (fun j u hj => by
      have hjl : j < row.length := by
        rcases Nat.lt_or_ge j row.length with h | h
        · exact h
        · rw [List.getElem?_eq_none h] at hj; cases hj
      rw [addr0, (Box.new w row t) j hjl, List.getD_eq_getElem?_getD, hj]
      rfl) (fun u hu => by rw [List.all_eq_true] at h1; exact h1 u hu) (by unfold maxLen; omega) (by
        have : (rs.length + 1) * bytes ≤ 1000000000 * 100 := Nat.mul_le_mul hlen hby
        omega) (Nat.le_trans hbase (by simp))
  have hb := (Below.refl base (w.alloc (.cells row.toArray t))).grown h3 (Nat.le_trans hbase (by simp)) (fun g hg => (World.ownsRow.lt hown' g hg).1)
  have hb' : Below base w w' := ((Below.refl base w).alloc hbase _).trans hb
  unfold Oper.wp execOp
  simp only [ho, resolve, invoke, builtin, Sem.run_bind, Sem.run_pure, Result.andThen_ok, List.map_toArray, List.map_cons, List.map_nil, hs, hx, hrun]
  refine hK _ _ (h v' w' ⟨?_, ?_⟩ hb')
  · rw [List.length_append, List.flatten_append, List.flatten_cons, List.flatten_nil, List.append_nil]
    exact h2
  · intro r hr
    rcases List.mem_append.1 hr with h | h
    · exact hown.2 r h
    · simp at h; rw [h]; exact hrow

theorem wpl_load_rec (hgd : o.guard = none) (ty : TypeId) (x : Operand) (ho : o.op = .load ty x) (b off : Nat) (hx : a.eval x = .pointer (some ⟨b, off, none⟩)) {cs : List Value} {d : TypeDesc} (R : w.rangeAt b off cs)
    (hu : P.underlying ty = some d) (hd : d.isRow = true) (hi : (P.info? ty).map (·.size) = some cs.length)
    (h : wpList P ops Q rest (a.put o.dst (.agg cs.toArray)) w) : wpList P ops Q (o :: rest) a w :=
  wpList_load_mid hgd ty x ho b off hx cs d R hu hd hi h
end
end Go.Proofs.YtbodppfpmpmadaaGreat

namespace Go.Proofs.YtbodppfpmpmadaaGreat
open Go.RowKit

def okL (c : Int) : List UInt8 := okHead false 0 0 2 0 ++ okTail c 2 [] []
theorem lists_of {w : World} {base : Nat} {v : Value} {us : List Value} {ls : List (List UInt8)} (h : OwnR 22 1 w base v (us.map fun u => [u])) (hl : us.length = ls.length) (hr : ∀ j, j < ls.length → Own w base (us.getD j undef) (ls.getD j [])) : ListsN w base v ls := by
  have hlt := fun g hg => World.ownsRow.lt h.1 g hg
  obtain ⟨A, cap, hv, h1, h2, h3⟩ := h.recs
  rw [List.length_map, hl] at hv h1 h3
  refine ⟨A, cap, hv, h1, h2, fun hn => ?_⟩
  obtain ⟨b, o, hA, hc⟩ := h3 (by intro e; exact hn (List.eq_nil_of_length_eq_zero (by rw [← hl]; have := congrArg List.length e; simpa using this)))
  refine ⟨b, o, hA, (hlt b (by rw [hv, hA]; rfl)).1, fun j hj => ⟨us.getD j undef, ?_, hr j hj⟩⟩
  have := hc j hj 0 (us.getD j undef) (by
    have hj2 : j < us.length := by omega
    simp [List.getD_eq_getElem?_getD, List.getElem?_map, List.getElem?_eq_getElem hj2])
  rw [Nat.mul_one, Nat.add_zero] at this
  exact this
set_option maxHeartbeats 1000000 in
theorem in_nil_c (w : World) (g : Nat) (cs : List Value) (c : Int) (B : BoxF w g cs) (hl : cs.length = 19) (hc : cs[10]? = some (.int .u32 c)) :
    Calls Tryz.prog 140 #[.pointer (some ⟨g, 0, none⟩), .slice none 0 0] w fun e w' => ∃ v, e = .returned v ∧ ListsN w' w.heap.size v [okL c] ∧ BoxF w' g (cs.set 9 (.int .i64 2)) ∧ On g w w' := by
  have HB := Lib.hid B
  have HL := Lib.hid hl
  have HC := Lib.hid (show (cs.set 9 (.int .i64 2))[10]? = some (.int .u32 c) by rw [List.getElem?_set_ne (by decide)]; exact hc)
  obtain ⟨F, hF⟩ : ∃ F, F = okL c := ⟨_, rfl⟩
  have HF := Lib.hid hF
  clear B hl hc hF
  go_enter Tryz.func140, Tryz.ntmps140
  go_wp2_with (first
    | ((with_reducible show wpList _ _ _ (⟨none, Op.store _ _ _, _, _, _, _⟩ :: _) _ _); refine wpl_store_cell rfl _ _ _ rfl g 9 (.int .i64 2) rfl rfl rfl rfl (by kernel_rfl) HB.out (by have := HL.out; omega) ?_; intro w1 B1 O1; have c10 := B1.at (j := 10) HC.out)
    | (go_at_call 177; refine (appendOk_good _ _ _ [] [] c 0 0 2 0 ByteArray.empty false (Rd.nil _) (Rd.nil _) (by simp) (by decide) (by simp) (by omega) (by omega) (by omega) (by omega) (.inl rfl)).mono ?_; rintro e w2 ⟨v2, rfl, ho2, hx2⟩; replace ho2 : Own w2 w1.heap.size v2 F := (by rw [HF.out]; exact ho2); obtain ⟨A2, c2, hv2, _⟩ := id ho2.rd; subst hv2)
    | ((with_reducible show AtS 22); go_loud (refine wpl_append_rec (sz := 1) (z := .slice none 0 0) (bytes := 24) Tryz.underlying41 (by kernel_rfl) (by kernel_rfl) (by omega) (by omega) (OwnR.nil 22 1 _ w2.heap.size) [.slice A2 F.length c2] rfl (by kernel_rfl) rfl _ _ rfl rfl _ rfl rfl (by simp) (Nat.le_refl _) ?_; intro v3 w3 ho3 hb3))
    | fail)
  go_ret
  rw [← HF.out]
  refine ⟨_, rfl, lists_of (us := [.slice A2 F.length c2]) (ho3.more (Nat.le_trans O1.size (Ext.size hx2))) rfl (fun j hj => ?_), (B1.ext hx2).ext hb3, (O1.ext hx2).ext hb3⟩
  have e : j = 0 := by simpa using hj
  subst e
  exact (ho2.more O1.size).ext hb3
end Go.Proofs.YtbodppfpmpmadaaGreat

namespace Go.Proofs.YtbodppfpmpmadaaGreat
open Go.RowKit

theorem strL_add0 (a : List UInt8) : (strL a ++ { data := #[0] } : ByteArray).toList = a ++ [0] := by
  rw [ByteArray.toList_eq, ByteArray.data_append]
  rw [Array.toList_append, strL_toList]
set_option maxHeartbeats 1000000 in
theorem full_c (w : World) (g : Nat) (cs : List Value) (c : Int) (pw l : List UInt8) (vb : Value) (B : BoxF w g cs) (hl : cs.length = 19) (hc : cs[10]? = some (.int .u32 c)) (hpw : cs[13]? = some (.string (strL pw))) (hr : Rd w vb l) (hp : pw.length ≤ 1000000) :
    Calls Tryz.prog 142 #[.pointer (some ⟨g, 0, none⟩), vb] w fun e w' => ∃ v, e = .returned v ∧
      ListsN w' w.heap.size v [if l == pw ++ [0] then okL c else refusedL] ∧ BoxF w' g (cs.set 9 (.int .i64 (if l == pw ++ [0] then 2 else 3))) ∧ On g w w' := by
  have HB := Lib.hid B
  have HL := Lib.hid hl
  have HC := Lib.hid hc
  obtain ⟨t, ht⟩ : ∃ t, t = strL pw := ⟨_, rfl⟩
  have hts : t.size ≤ 1000000 := by rw [ht, strL_size]; exact hp
  rw [← ht] at hpw
  have c13 := B.at (j := 13) hpw
  obtain ⟨q, hq⟩ : ∃ q, q = (l == pw ++ [0]) := ⟨_, rfl⟩
  have HQ := Lib.hid (show ((strL l).toList == (t ++ { data := #[0] }).toList) = q by rw [hq, ht, strL_tl, strL_add0])
  rw [← hq]
  have HR := Lib.hid hr
  obtain ⟨A, cap, rfl, _⟩ := hr
  clear B hl hc hpw ht hp hq
  go_enter Tryz.func142, Tryz.ntmps142
  go_wp2_with fail
  have t0 := run_str w bt HR.out
  have t1 := run_str w.drew bt (HR.out.ext (Ext.refl _).drew)
  (try dsimp only [Act.put])
  first | go_region | fail
  rw [HQ.out]
  clear t0 t1
  have hx0 : Ext w w.drew := (Ext.refl w).drew
  have HB1 := Lib.hid (HB.out.ext hx0)
  have HX0 := Lib.hid hx0
  generalize w.drew = w0 at hx0 HB1 HX0 ⊢
  clear hx0 c13
  cases q with
  | true =>
    go_wp2_with (first
      | (go_at_call 140; refine (in_nil_c _ g cs c HB1.out HL.out HC.out).mono ?_; rintro e w1 ⟨v1, rfl, hl1, B1, O1⟩)
      | fail)
    go_ret
    exact ⟨_, rfl, hl1.more (Ext.size HX0.out), B1, (On.of HX0.out).trans O1⟩
  | false =>
    go_wp2_with (first
      | (go_at_call 89; refine (refused_c _).mono ?_; rintro e w1 ⟨v1, rfl, hl1, hx1⟩; have B1 := HB1.out.ext hx1)
      | (go_at_call 41; refine (dfail_c _ g cs _ B1 HL.out).mono ?_; rintro e w2 ⟨rfl, B2, O2⟩)
      | fail)
    go_ret
    exact ⟨_, rfl, (hl1.on O2 HB1.out.lt).more (Ext.size HX0.out), B2, ((On.of HX0.out).ext hx1).trans O2⟩
end Go.Proofs.YtbodppfpmpmadaaGreat

namespace Go.Proofs.YtbodppfpmpmadaaGreat
open Go.RowKit

set_option maxHeartbeats 1000000 in
theorem change1_c (w : World) (g h : Nat) (cs : List Value) (vb : Value) (B : BoxF w g cs) (hl : cs.length = 19) (hh : w.cell? ⟨h, 0, none⟩ = some (.pointer (some ⟨g, 0, none⟩))) (hne : h ≠ g) :
    Calls Tryz.prog 88 #[vb, .pointer (some ⟨h, 0, none⟩)] w fun e w' => ∃ v, e = .returned v ∧
      ListsN w' w.heap.size v [refusedL] ∧ BoxF w' g (cs.set 9 (.int .i64 3)) ∧ On g w w' := by
  have HB := Lib.hid B
  have HL := Lib.hid hl
  have HH := Lib.hid hh
  have HN := Lib.hid hne
  clear B hl hne
  go_enter Tryz.func88, Tryz.ntmps88
  go_wp2_with fail
  have p0 : w.drew.cell? ⟨h, 0, none⟩ = some (.pointer (some ⟨g, 0, none⟩)) := Ext.cell (Ext.refl _).drew hh
  go_region_held3 (fun W' => W'.cell? ⟨h, 0, none⟩ = some (.pointer (some ⟨g, 0, none⟩)))
    ((first | with_reducible exact p0 | with_reducible exact hh | with_reducible exact p1 | with_reducible exact p2 | fail))
    (first
      | (go_at_call 89; go_must (refine (refused_c _).mono ?_; rintro e w1 ⟨v1, rfl, hl1, hx1⟩; have hx0 := (Ext.refl w).drew.trans hx1; have p1 := Ext.cell hx0 HH.out; have B1 := HB.out.ext hx0))
      | (go_at_call 41; go_must (refine (dfail_c _ g cs _ B1 HL.out).mono ?_; rintro e w2 ⟨rfl, B2, O2⟩; have p2 := On.cell O2 p1 HN.out))
      | fail)
  all_goals
    go_wp2_with fail
    go_ret
    exact ⟨_, rfl, hl1.on O2 HB.out.lt, B2, (On.of hx0).trans O2⟩
end Go.Proofs.YtbodppfpmpmadaaGreat

namespace Go.Proofs.YtbodppfpmpmadaaGreat
open Go.RowKit

theorem readF_err {l : List UInt8} {n x r : Int} (h : readF l n = (x, r)) : r = 0 → n ≤ l.length ∧ 1 ≤ n := by
  unfold readF at h
  split at h
  · rintro rfl; simp at h
  · split at h
    · rintro rfl; simp at h
    · intro _; omega

section
variable {P : Program} {ops : Array Oper} {rest : List Oper} {o : Oper} {a : Act} {w : World} {Q : Exit → Act → World → Prop}
theorem wpl_cut_lo (hT : BT P) {b : World} {v : Value} {l : List UInt8} (hr : Rd b v l) (i : Int) (h0 : 0 ≤ i) (h1 : i ≤ l.length)
    (hgd : o.guard = none) (x lo : Operand) (k : IntKind) (ho : o.op = .slice 22 x (some lo) none none) (hx : a.eval x = v) (hlo : a.eval lo = .int k i)
    (h : ∀ A' m c', Rd b (.slice A' m c') (l.drop i.toNat) → wpList P ops Q rest (a.put o.dst (.slice A' m c')) w) : wpList P ops Q (o :: rest) a w := by
  obtain ⟨A, cap, rfl, hle, hm, _⟩ := id hr
  have hc := Rd.cut hr i.toNat l.length (by omega) (Nat.le_refl _)
  rw [List.take_length] at hc
  refine wpl_val hgd (v := .slice (if cap = i.toNat then A else A.map (·.add (i.toNat * 1))) (l.length - i.toNat) (cap - i.toNat)) (w' := w) ?_ (h _ _ _ hc)
  unfold execOp
  simp [ho, hx, hlo, Instr.sliceAt, Instr.slice, run_underlying hT.sl, Instr.sliceBounds, run_sliceBound, h0, h1, sizeOf_u8 hT]
end

set_option maxRecDepth 100000 in
set_option maxHeartbeats 1000000 in
theorem step_good (a w : World) (g : Nat) (l : List UInt8) (n : Nat) (h : Rdr a w g (l, 0)) (hn : n ≤ l.length) :
    Calls Tryz.prog 204 #[.pointer (some ⟨g, 0, none⟩), .int .i64 (n : Int), .int .i64 0] w (RetR a w g (.tuple #[]) (l.drop n, 0)) := by
  obtain ⟨v, h0, hr⟩ := h.c0
  have f0 := h.f0
  have HR := Lib.hid hr
  have H := Lib.hid h
  clear h hr
  go_enter Tryz.func204, Tryz.ntmps204
  go_wp2_with ((with_reducible show AtS 18); refine wpl_cut_lo bt HR.out (n : Int) (by omega) (by simpa using hn) rfl _ _ _ rfl rfl rfl ?_; intro A' m' c' hr')
  refine bodyPost_end (results_none rfl _ _ _) rfl ?_
  exact ⟨rfl, by simpa using H.out.set0 hr', (On.refl g w).set 0 _⟩

set_option maxRecDepth 100000 in
set_option maxHeartbeats 1000000 in
theorem step_bad (a w : World) (g : Nat) (l : List UInt8) (n e : Int) (h : Rdr a w g (l, 0)) (he : e ≠ 0) :
    Calls Tryz.prog 204 #[.pointer (some ⟨g, 0, none⟩), .int .i64 n, .int .i64 e] w (RetR a w g (.tuple #[]) (l, e)) := by
  have c1 := h.c1
  have f1 := h.f1
  have H := Lib.hid h
  have hb : (e == 0) = false := by simpa using he
  clear h he
  go_enter Tryz.func204, Tryz.ntmps204
  go_wp2_with fail
  refine bodyPost_ret (results_none rfl _ _ _) rfl ?_
  exact ⟨rfl, H.out.set1 e, (On.refl g w).set 1 _⟩

set_option maxRecDepth 100000 in
set_option maxHeartbeats 1000000 in
theorem fixed_m (a w : World) (g : Nat) (s : List UInt8 × Int) (n x : Int) (s' : List UInt8 × Int) (h : Rdr a w g s) (hn : 1 ≤ n ∧ n ≤ 8) (hx : rF n s = (x, s')) :
    Calls Tryz.prog 188 #[.pointer (some ⟨g, 0, none⟩), .int .i64 n] w (RetR a w g (.int .u64 x) s') := by
  obtain ⟨l, e⟩ := s
  obtain ⟨v, c0, hr⟩ := h.c0
  have c1 := h.c1
  have f0 := h.f0
  have f1 := h.f1
  have HR := Lib.hid hr
  have H := Lib.hid h
  clear h hr
  by_cases he : e = 0
  · subst he
    obtain ⟨x1, r1, hq⟩ : ∃ x1 r1, readF l n = (x1, r1) := ⟨_, _, rfl⟩
    have HQ := Lib.hid hq
    by_cases h1 : r1 = 0
    · have h2 := readF_err hq h1
      subst h1
      simp only [rF, hq, ↓reduceIte, Prod.mk.injEq] at hx
      obtain ⟨rfl, rfl⟩ := hx
      obtain ⟨m, rfl⟩ : ∃ m : Nat, n = m := ⟨n.toNat, by omega⟩
      have hm : m ≤ l.length := by omega
      clear hq h2 hn
      go_enter Tryz.func188, Tryz.ntmps188
      go_wp2_with (first
        | (go_at_call 136; refine (readFixed_at_len _ _ l m _ _ (HR.out.ext H.out.ext) HQ.out).mono ?_; rintro e w1 ⟨rfl, rfl⟩)
        | (go_at_call 204; refine (step_good a _ g l m H.out hm).mono ?_; rintro e w1 ⟨rfl, h1, k1⟩))
      go_ret
      exact ⟨rfl, h1, k1⟩
    · simp only [rF, hq, ↓reduceIte, h1, Prod.mk.injEq] at hx
      obtain ⟨rfl, rfl⟩ := hx
      clear hq
      go_enter Tryz.func188, Tryz.ntmps188
      go_wp2_with (first
        | (go_at_call 136; refine (readFixed_at_len _ _ l n _ _ (HR.out.ext H.out.ext) HQ.out).mono ?_; rintro e w1 ⟨rfl, rfl⟩)
        | (go_at_call 204; refine (step_bad a _ g l _ _ H.out h1).mono ?_; rintro e w1 ⟨rfl, h1, k1⟩))
      go_ret
      exact ⟨rfl, h1, k1⟩
  · have hb : (e == 0) = false := by simpa using he
    simp only [rF, he, ↓reduceIte, Prod.mk.injEq] at hx
    obtain ⟨rfl, rfl⟩ := hx
    go_enter Tryz.func188, Tryz.ntmps188
    go_wp2_with fail
    go_ret
    exact ⟨rfl, H.out, On.refl g w⟩

theorem readI_le {l : List UInt8} {x : Int} {n : Nat} (h : readI l = (x, n, 0)) : n ≤ l.length := (readI_ok h).2.1
theorem readT_le {l x : List UInt8} {n : Nat} (h : readT l = (x, n, 0)) : n ≤ l.length := by
  obtain ⟨y, m, r, hq⟩ : ∃ y m r, readI l = (y, m, r) := ⟨_, _, _, rfl⟩
  unfold readT at h
  rw [hq] at h
  dsimp only at h
  split at h
  · rename_i h0
    subst h0
    have := readI_ok hq
    split at h
    · simp at h
    · simp only [Prod.mk.injEq] at h
      omega
  · rename_i h0
    simp only [Prod.mk.injEq] at h
    exact absurd h.2.2 h0
theorem readT_at_len (w : World) (v : Value) (l x : List UInt8) (n : Nat) (r : Int) (hr : Rd w v l) (h : readT l = (x, n, r)) :
    Calls Tryz.prog 175 #[v] w fun e w' => e = .returned (.tuple #[.string (strL x), .int .i64 n, .int .i64 r]) ∧ w = w' := by
  have := readText_len w v l hr
  rw [h] at this
  exact this

set_option maxRecDepth 100000 in
set_option maxHeartbeats 1000000 in
theorem counted_m (a w : World) (g : Nat) (s : List UInt8 × Int) (x : Int) (s' : List UInt8 × Int) (h : Rdr a w g s) (hx : rI s = (x, s')) :
    Calls Tryz.prog 187 #[.pointer (some ⟨g, 0, none⟩)] w (RetR a w g (.int .u64 x) s') := by
  obtain ⟨l, e⟩ := s
  obtain ⟨v, c0, hr⟩ := h.c0
  have c1 := h.c1
  have f0 := h.f0
  have f1 := h.f1
  have HR := Lib.hid hr
  have H := Lib.hid h
  clear h hr
  by_cases he : e = 0
  · subst he
    obtain ⟨x1, n1, r1, hq⟩ : ∃ x1 n1 r1, readI l = (x1, n1, r1) := ⟨_, _, _, rfl⟩
    have HQ := Lib.hid hq
    by_cases h1 : r1 = 0
    · subst h1
      have hm : n1 ≤ l.length := readI_le hq
      simp only [rI, hq, ↓reduceIte, Prod.mk.injEq] at hx
      obtain ⟨rfl, rfl⟩ := hx
      clear hq
      go_enter Tryz.func187, Tryz.ntmps187
      go_wp2_with (first
        | (go_at_call 198; refine (readInt_at_len _ _ l _ _ _ (HR.out.ext H.out.ext) HQ.out).mono ?_; rintro e w1 ⟨rfl, rfl⟩)
        | (go_at_call 204; refine (step_good a _ g l n1 H.out hm).mono ?_; rintro e w1 ⟨rfl, h1, k1⟩))
      go_ret
      exact ⟨rfl, h1, k1⟩
    · simp only [rI, hq, ↓reduceIte, h1, Prod.mk.injEq] at hx
      obtain ⟨rfl, rfl⟩ := hx
      clear hq
      go_enter Tryz.func187, Tryz.ntmps187
      go_wp2_with (first
        | (go_at_call 198; refine (readInt_at_len _ _ l _ _ _ (HR.out.ext H.out.ext) HQ.out).mono ?_; rintro e w1 ⟨rfl, rfl⟩)
        | (go_at_call 204; refine (step_bad a _ g l _ _ H.out h1).mono ?_; rintro e w1 ⟨rfl, h1, k1⟩))
      go_ret
      exact ⟨rfl, h1, k1⟩
  · have hb : (e == 0) = false := by simpa using he
    simp only [rI, he, ↓reduceIte, Prod.mk.injEq] at hx
    obtain ⟨rfl, rfl⟩ := hx
    go_enter Tryz.func187, Tryz.ntmps187
    go_wp2_with fail
    go_ret
    exact ⟨rfl, H.out, On.refl g w⟩

set_option maxRecDepth 100000 in
set_option maxHeartbeats 1000000 in
theorem text_m (a w : World) (g : Nat) (s : List UInt8 × Int) (x : List UInt8) (s' : List UInt8 × Int) (h : Rdr a w g s) (hx : rT s = (x, s')) :
    Calls Tryz.prog 192 #[.pointer (some ⟨g, 0, none⟩)] w (RetR a w g (.string (strL x)) s') := by
  obtain ⟨l, e⟩ := s
  obtain ⟨v, c0, hr⟩ := h.c0
  have c1 := h.c1
  have f0 := h.f0
  have f1 := h.f1
  have HR := Lib.hid hr
  have H := Lib.hid h
  clear h hr
  by_cases he : e = 0
  · subst he
    obtain ⟨x1, n1, r1, hq⟩ : ∃ x1 n1 r1, readT l = (x1, n1, r1) := ⟨_, _, _, rfl⟩
    have HQ := Lib.hid hq
    by_cases h1 : r1 = 0
    · subst h1
      have hm : n1 ≤ l.length := readT_le hq
      simp only [rT, hq, ↓reduceIte, Prod.mk.injEq] at hx
      obtain ⟨rfl, rfl⟩ := hx
      clear hq
      go_enter Tryz.func192, Tryz.ntmps192
      go_wp2_with (first
        | (go_at_call 175; refine (readT_at_len _ _ l _ _ _ (HR.out.ext H.out.ext) HQ.out).mono ?_; rintro e w1 ⟨rfl, rfl⟩)
        | (go_at_call 204; refine (step_good a _ g l n1 H.out hm).mono ?_; rintro e w1 ⟨rfl, h1, k1⟩))
      go_ret
      exact ⟨rfl, h1, k1⟩
    · simp only [rT, hq, ↓reduceIte, h1, Prod.mk.injEq] at hx
      obtain ⟨rfl, rfl⟩ := hx
      clear hq
      go_enter Tryz.func192, Tryz.ntmps192
      go_wp2_with (first
        | (go_at_call 175; refine (readT_at_len _ _ l _ _ _ (HR.out.ext H.out.ext) HQ.out).mono ?_; rintro e w1 ⟨rfl, rfl⟩)
        | (go_at_call 204; refine (step_bad a _ g l _ _ H.out h1).mono ?_; rintro e w1 ⟨rfl, h1, k1⟩))
      go_ret
      exact ⟨rfl, h1, k1⟩
  · have hb : (e == 0) = false := by simpa using he
    simp only [rT, he, ↓reduceIte, Prod.mk.injEq] at hx
    obtain ⟨rfl, rfl⟩ := hx
    go_enter Tryz.func192, Tryz.ntmps192
    go_wp2_with fail
    go_ret
    exact ⟨rfl, H.out, On.refl g w⟩

set_option maxRecDepth 100000 in
set_option maxHeartbeats 1000000 in
theorem rest_m (a w : World) (g : Nat) (s : List UInt8 × Int) (h : Rdr a w g s) (hl : s.1.length ≤ 8000000) :
    Calls Tryz.prog 190 #[.pointer (some ⟨g, 0, none⟩)] w fun e w' => ∃ v, e = .returned v ∧ Own w' w.heap.size v s.1 ∧ Rdr a w' g ([], s.2) ∧ On g w w' := by
  obtain ⟨l, e⟩ := s
  obtain ⟨v, c0, hr⟩ := h.c0
  have c1 := h.c1
  have f0 := h.f0
  have f1 := h.f1
  have HR := Lib.hid hr
  have H := Lib.hid h
  clear h hr
  go_enter Tryz.func190, Tryz.ntmps190
  go_wp2_with (go_at_call 97; refine (clone_c _ _ l (HR.out.ext H.out.ext) (by simp at hl; omega)).mono ?_; rintro e w1 ⟨v1, rfl, ho, hx⟩; have c0' := hx.cell c0; have f0' := (hx.frozen H.out.lt).trans f0)
  go_ret
  exact ⟨_, rfl, (ho.on ((On.refl g _).set 0 _) H.out.lt), (H.out.grow hx).set0 (Rd.nil a), (On.of hx).set 0 _⟩

set_option maxRecDepth 100000 in
set_option maxHeartbeats 1000000 in
theorem over_m (a w : World) (g : Nat) (s s' : List UInt8 × Int) (h : Rdr a w g s) (hx : rO s = s') :
    Calls Tryz.prog 193 #[.pointer (some ⟨g, 0, none⟩)] w (RetR a w g (.int .i64 s'.2) s') := by
  obtain ⟨l, e⟩ := s
  obtain ⟨v, c0, hr⟩ := h.c0
  have c1 := h.c1
  have f0 := h.f0
  have f1 := h.f1
  have HR := Lib.hid hr
  have H := Lib.hid h
  clear h hr
  obtain ⟨A, cap, rfl, hle, hm, hA, hc⟩ := HR.out
  unfold maxLen at hm
  clear hA hc
  by_cases he : e = 0
  · subst he
    by_cases hl : 0 < l.length
    · have : s' = (l, 5) := by rw [← hx]; simp [rO, rW, hl]
      subst this
      clear hx
      go_enter Tryz.func193, Tryz.ntmps193
      go_wp2_with fail
      go_ret
      exact ⟨by simp, H.out.set1 5, (On.refl g w).set 1 _⟩
    · have : s' = (l, 0) := by rw [← hx]; simp [rO, rW, hl]
      subst this
      clear hx
      go_enter Tryz.func193, Tryz.ntmps193
      go_wp2_with fail
      go_ret
      exact ⟨rfl, H.out, On.refl g w⟩
  · have hb : (e == 0) = false := by simpa using he
    have : s' = (l, e) := by rw [← hx]; simp [rO, rW, he]
    subst this
    clear hx
    go_enter Tryz.func193, Tryz.ntmps193
    go_wp2_with fail
    go_ret
    exact ⟨rfl, H.out, On.refl g w⟩

end Go.Proofs.YtbodppfpmpmadaaGreat

namespace Go.Proofs.YtbodppfpmpmadaaGreat
open Go.RowKit

theorem Rd.on {g : Nat} {w w' : World} {v : Value} {l : List UInt8} (h : Rd w v l) (k : On g w w') (hne : v.ownBlock ≠ some g) : Rd w' v l := by
  obtain ⟨A, cap, rfl, h1, h2, h3, h4⟩ := h
  refine ⟨A, cap, rfl, h1, h2, h3, fun hl => ?_⟩
  obtain ⟨b, o, rfl, hc⟩ := h4 hl
  refine ⟨b, o, rfl, fun j hj => k.cell (hc j hj) (fun e => hne (by simp [Value.ownBlock, ← e]))⟩

def isOf (m : List UInt8) (x : Int) : Bool := decide (0 ≤ Lib.indexByte m (x % 256).toNat.toUInt8)
def rMust (m : List UInt8) (s : List UInt8 × Int) : List UInt8 × Int := rW (!isOf m (rF 1 s).1) (rF 1 s).2

set_option maxRecDepth 100000 in
set_option maxHeartbeats 1000000 in
theorem must_m (a w : World) (g : Nat) (s : List UInt8 × Int) (vm : Value) (m : List UInt8) (h : Rdr a w g s) (hm : Rd w vm m) (hne : vm.ownBlock ≠ some g) (s' : List UInt8 × Int) (hx : rMust m s = s') :
    Calls Tryz.prog 186 #[.pointer (some ⟨g, 0, none⟩), vm] w (RetR a w g (.tuple #[]) s') := by
  have HM := Lib.hid hm
  have H := Lib.hid h
  clear h hm
  obtain ⟨x, l1, e1, hq⟩ : ∃ x l1 e1, rF 1 s = (x, (l1, e1)) := ⟨_, _, _, rfl⟩
  have HQ := Lib.hid hq
  unfold rMust at hx
  rw [hq] at hx
  clear hq
  obtain ⟨q, hi⟩ : ∃ q, Lib.indexByte m (x % 256).toNat.toUInt8 = q := ⟨_, rfl⟩
  unfold isOf at hx
  rw [hi] at hx
  have HI := Lib.hid hi
  clear hi
  by_cases he : e1 = 0
  · subst he
    by_cases hq : 0 ≤ q
    · have hs : s' = (l1, 0) := by rw [← hx]; simp [rW, hq]
      subst hs
      have hd : decide (q < 0) = false := by simpa using hq
      clear hx
      go_enter Tryz.func186, Tryz.ntmps186
      go_wp2_with (first
        | (go_at_call 188; refine (fixed_m a _ g s 1 x _ H.out (by omega) HQ.out).mono ?_; rintro e w1 ⟨rfl, R1, O1⟩; have c1 := R1.c1)
        | (go_at_call 78; refine (idx_b _ _ m _ (HM.out.on O1 hne)).mono ?_; rintro e w2 ⟨rfl, rfl⟩; rw [HI.out]))
      refine bodyPost_end (results_none rfl _ _ _) rfl ?_
      exact ⟨rfl, R1, O1⟩
    · have hs : s' = (l1, 5) := by rw [← hx]; simp [rW, hq]
      subst hs
      have hd : decide (q < 0) = true := by simpa using hq
      clear hx
      go_enter Tryz.func186, Tryz.ntmps186
      go_wp2_with (first
        | (go_at_call 188; refine (fixed_m a _ g s 1 x _ H.out (by omega) HQ.out).mono ?_; rintro e w1 ⟨rfl, R1, O1⟩; have c1 := R1.c1; have f1 := R1.f1)
        | (go_at_call 78; refine (idx_b _ _ m _ (HM.out.on O1 hne)).mono ?_; rintro e w2 ⟨rfl, rfl⟩; rw [HI.out]))
      refine bodyPost_end (results_none rfl _ _ _) rfl ?_
      exact ⟨rfl, R1.set1 5, O1.set 1 _⟩
  · have hs : s' = (l1, e1) := by rw [← hx]; simp [rW, he]
    subst hs
    have hb : (e1 == 0) = false := by simpa using he
    clear hx
    go_enter Tryz.func186, Tryz.ntmps186
    go_wp2_with (go_at_call 188; refine (fixed_m a _ g s 1 x _ H.out (by omega) HQ.out).mono ?_; rintro e w1 ⟨rfl, R1, O1⟩; have c1 := R1.c1)
    refine bodyPost_end (results_none rfl _ _ _) rfl ?_
    exact ⟨rfl, R1, O1⟩

section
variable {P : Program} {ops : Array Oper} {rest : List Oper} {o : Oper} {a : Act} {w : World} {Q : Exit → Act → World → Prop}
theorem bc_made (n : Nat) : (madeCells (Value.int .u8 0).cells (n * 1)).toList = bc (List.replicate n 0) := by
  show (madeCells #[Value.int .u8 0] (n * 1)).toList = _
  rw [toList_madeCells_one]
  simp [bc]

theorem wpl_makeN (hT : BT P) (n : Nat) (hn : n ≤ 100000000)
    (hgd : o.guard = none) (x c : Operand) (kl kc : IntKind) (ho : o.op = .makeSlice 22 x c) (hx : a.eval x = .int kl (n : Int)) (hc : a.eval c = .int kc (n : Int))
    (h : ∀ v' w', Own w' w.heap.size v' (List.replicate n 0) → Ext w w' → wpList P ops Q rest (a.put o.dst v') w') : wpList P ops Q (o :: rest) a w := by
  obtain ⟨i, hi, hz, hs1, hb1⟩ := hT.info
  obtain ⟨w', hrun, h1, h2⟩ := run_make_full (P := P) w w.heap.size 22 5 i (.int .u8 0) 1 hT.sl hi hz hs1 kl kc n (by rw [hb1]; omega) (by unfold maxLen; omega) (Nat.le_refl _)
  refine wpl_val hgd (v := .slice (some ⟨w.heap.size, 0, none⟩) n n) (w' := w') ?_ (h _ _ ?_ ((Below.refl _ w).grown h2 (Nat.le_refl _) (fun k hk => by cases hk)))
  · unfold execOp
    simp only [ho, hx, hc, Sem.run_bind, Sem.run_pure, Result.andThen_ok, hrun]
  · rw [bc_made] at h1
    unfold Own
    rw [List.length_replicate]
    exact h1

theorem wpl_cut_hi (hT : BT P) {b : World} {v : Value} {l : List UInt8} (hr : Rd b v l) (j : Int) (h0 : 0 ≤ j) (h1 : j ≤ l.length)
    (hgd : o.guard = none) (x hi : Operand) (k : IntKind) (ho : o.op = .slice 22 x none (some hi) none) (hx : a.eval x = v) (hhi : a.eval hi = .int k j)
    (h : ∀ A' m c', Rd b (.slice A' m c') (l.take j.toNat) → wpList P ops Q rest (a.put o.dst (.slice A' m c')) w) : wpList P ops Q (o :: rest) a w := by
  obtain ⟨A, cap, rfl, hle, hm, _⟩ := id hr
  have hc := Rd.cut hr 0 j.toNat (by omega) (by omega)
  rw [List.drop_zero] at hc
  refine wpl_val hgd (v := .slice (if cap = 0 then A else A.map (·.add (0 * 1))) (j.toNat - 0) (cap - 0)) (w' := w) ?_ (h _ _ _ hc)
  unfold execOp
  have hb : j ≤ (cap : Int) := by omega
  simp [ho, hx, hhi, Instr.sliceAt, Instr.slice, run_underlying hT.sl, Instr.sliceBounds, run_sliceBound, h0, hb, sizeOf_u8 hT]
end

def rB (n : Nat) (s : List UInt8 × Int) : List UInt8 × (List UInt8 × Int) := if s.2 = 0 then (if s.1.length < n then (List.replicate n 0, (s.1, 4)) else (s.1.take n, (s.1.drop n, 0))) else (List.replicate n 0, s)
theorem rB_length (n : Nat) (s : List UInt8 × Int) : (rB n s).1.length = n := by
  unfold rB
  split
  · split
    · simp
    · simp; omega
  · simp
def RetO (a w : World) (g : Nat) (l : List UInt8) (s : List UInt8 × Int) (e : Ending) (w' : World) : Prop := ∃ v, e = .returned v ∧ Own w' w.heap.size v l ∧ Rdr a w' g s ∧ On g w w'

set_option maxRecDepth 100000 in
set_option maxHeartbeats 1000000 in
theorem wrong_m (a w : World) (g : Nat) (s s' : List UInt8 × Int) (b : Bool) (h : Rdr a w g s) (hx : rW b s = s') :
    Calls Tryz.prog 107 #[.pointer (some ⟨g, 0, none⟩), .bool b] w (RetR a w g (.tuple #[]) s') := by
  obtain ⟨l, e⟩ := s
  obtain ⟨v, c0, hr⟩ := h.c0
  have c1 := h.c1
  have f0 := h.f0
  have f1 := h.f1
  try dsimp only at hr c1
  have HR := Lib.hid hr
  have H := Lib.hid h
  clear h hr
  by_cases he : e = 0
  · subst he
    cases b with
    | true =>
      have hs : s' = (l, 5) := by rw [← hx]; simp [rW]
      subst hs
      clear hx
      go_enter Tryz.func107, Tryz.ntmps107
      go_wp2_with fail
      refine bodyPost_end (results_none rfl _ _ _) rfl ?_
      exact ⟨rfl, H.out.set1 5, (On.refl g w).set 1 _⟩
    | false =>
      have hs : s' = (l, 0) := by rw [← hx]; simp [rW]
      subst hs
      clear hx
      go_enter Tryz.func107, Tryz.ntmps107
      go_wp2_with fail
      refine bodyPost_end (results_none rfl _ _ _) rfl ?_
      exact ⟨rfl, H.out, On.refl g w⟩
  · have hs : s' = (l, e) := by rw [← hx]; simp [rW, he]
    subst hs
    have hb : (e == 0) = false := by simpa using he
    clear hx
    go_enter Tryz.func107, Tryz.ntmps107
    go_wp2_with fail
    refine bodyPost_end (results_none rfl _ _ _) rfl ?_
    exact ⟨rfl, H.out, On.refl g w⟩

set_option maxRecDepth 100000 in
set_option maxHeartbeats 1000000 in
theorem bytes_m (a w : World) (g : Nat) (s : List UInt8 × Int) (n : Nat) (x : List UInt8) (s' : List UInt8 × Int) (h : Rdr a w g s) (hn : n ≤ 100000) (hx : rB n s = (x, s')) :
    Calls Tryz.prog 109 #[.pointer (some ⟨g, 0, none⟩), .int .i64 (n : Int)] w (RetO a w g x s') := by
  obtain ⟨l, e⟩ := s
  obtain ⟨v, c0, hr⟩ := h.c0
  have c1 := h.c1
  have f0 := h.f0
  have f1 := h.f1
  try dsimp only at hr c1
  have HR := Lib.hid hr
  have H := Lib.hid h
  clear h hr
  obtain ⟨A, cap, rfl, hle, hm, hA, hc⟩ := id HR.out
  unfold maxLen at hm
  clear hA hc
  by_cases he : e = 0
  · subst he
    by_cases hl : l.length < n
    · simp only [rB, ↓reduceIte, hl, Prod.mk.injEq] at hx
      obtain ⟨rfl, rfl⟩ := hx
      have c1' := World.cell?_setCell_same w ⟨g, 1, none⟩ (.int .i64 4) c1
      go_enter Tryz.func109, Tryz.ntmps109
      go_wp2_with ((with_reducible show AtS 29); refine wpl_makeN bt n (by omega) rfl _ _ _ _ rfl rfl rfl ?_; intro v1 w1 ho hx1)
      go_ret
      refine ⟨_, rfl, ho.more (by simp), (H.out.set1 4).grow hx1, ((On.refl g w).set 1 _).ext hx1⟩
    · simp only [rB, ↓reduceIte, hl, Prod.mk.injEq] at hx
      obtain ⟨rfl, rfl⟩ := hx
      have c0a : (w.alloc (.cells #[] 5)).cell? ⟨g, 0, none⟩ = some (.slice A l.length cap) := ((Ext.refl w).alloc _).cell c0
      go_enter Tryz.func109, Tryz.ntmps109
      go_wp2_with (first
        | ((with_reducible show AtS 36); refine wpl_cut_hi bt HR.out (n : Int) (by omega) (by omega) rfl _ _ _ rfl rfl rfl ?_; intro A1 m1 cap1 hr1)
        | ((with_reducible show AtS 37); refine wpl_append_rd bt (own_nil w w.heap.size w.heap.size rfl (Nat.le_refl _)) ((hr1.ext H.out.ext).ext ((Ext.refl _).alloc _)) rfl _ _ rfl rfl rfl (by simp; omega) (by simp) ?_; intro v1 w1 ho hb1; have hx1 := ((Ext.refl w).alloc _).below hb1 (Nat.le_refl _); have c0' := hx1.cell c0; have f0' := (hx1.frozen H.out.lt).trans f0)
        | ((with_reducible show AtS 44); refine wpl_cut_lo bt HR.out (n : Int) (by omega) (by omega) rfl _ _ _ rfl rfl rfl ?_; intro A2 m2 cap2 hr2))
      go_ret
      refine ⟨_, rfl, ?_, by simpa using (H.out.grow hx1).set0 hr2, (On.of hx1).set 0 _⟩
      have := ho.on ((On.refl g _).set 0 (.slice A2 m2 cap2)) H.out.lt
      simpa using this
  · have hb : (e == 0) = false := by simpa using he
    simp only [rB, he, ↓reduceIte, Prod.mk.injEq] at hx
    obtain ⟨rfl, rfl⟩ := hx
    go_enter Tryz.func109, Tryz.ntmps109
    go_wp2_with ((with_reducible show AtS 29); refine wpl_makeN bt n (by omega) rfl _ _ _ _ rfl rfl rfl ?_; intro v1 w1 ho hx1)
    go_ret
    exact ⟨_, rfl, ho, H.out.grow hx1, On.of hx1⟩

end Go.Proofs.YtbodppfpmpmadaaGreat

