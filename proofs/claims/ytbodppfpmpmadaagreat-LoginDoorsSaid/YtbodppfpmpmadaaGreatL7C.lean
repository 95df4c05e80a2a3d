import Derived.Test.YtbodppfpmpmadaaGreatL6C
import Derived.Test.YtbodppfpmpmadaaGreatRepBC
import Derived.Deep.QuietTactic
import Derived.BigQuiet
import Derived.Deep.RegionHeld3
import Derived.Laws.OwnMore
import Derived.Test.YtbodppfpmpmadaaGreatL3C
import Derived.Test.YtbodppfpmpmadaaGreatL5C
import Derived.Test.YtbodppfpmpmadaaGreatL1C
namespace Go.Proofs.YtbodppfpmpmadaaGreat
open Go.RowKit

def okL (c : Int) : List UInt8 := okHead false 0 0 2 0 ++ okTail c 2 [] []
theorem lists_of {w : World} {base : Nat} {v : Value} {us : List Value} {ls : List (List UInt8)} (h : OwnR 22 1 w base v (us.map fun u => [u])) (hl : us.length = ls.length) (hr : ∀ j, j < ls.length → Own w base (us.getD j undef) (ls.getD j [])) : ListsN w base v ls := by
  have hlt := fun g hg => World.ownsRow.lt h.1 g hg
  obtain ⟨A, cap, hv, h1, h2, h3⟩ := h.recs
  rw [List.length_map, hl] at hv h1 h3
  refine ⟨A, cap, hv, h1, h2, fun hn => ?_⟩
  obtain ⟨b, o, hA, hc⟩ := h3 (by intro e; exact hn (List.eq_nil_of_length_eq_zero (by rw [← hl]; have := congrArg List.length e; simpa using this)))
  refine ⟨b, o, hA, (hlt b (by rw [hv, hA]; rfl)).1, fun j hj => ⟨us.getD j undef, ?_, hr j hj⟩⟩
  have := hc j hj 0 (us.getD j undef) (by
    have hj2 : j < us.length := by omega
    simp [List.getD_eq_getElem?_getD, List.getElem?_map, List.getElem?_eq_getElem hj2])
  rw [Nat.mul_one, Nat.add_zero] at this
  exact this
set_option maxHeartbeats 1000000 in
theorem in_nil_c (w : World) (g : Nat) (cs : List Value) (c : Int) (B : BoxF w g cs) (hl : cs.length = 19) (hc : cs[10]? = some (.int .u32 c)) :
    Calls Tryz.prog 140 #[.pointer (some ⟨g, 0, none⟩), .slice none 0 0] w fun e w' => ∃ v, e = .returned v ∧ ListsN w' w.heap.size v [okL c] ∧ BoxF w' g (cs.set 9 (.int .i64 2)) ∧ On g w w' := by
  have HB := Lib.hid B
  have HL := Lib.hid hl
  have HC := Lib.hid (show (cs.set 9 (.int .i64 2))[10]? = some (.int .u32 c) by rw [List.getElem?_set_ne (by decide)]; exact hc)
  obtain ⟨F, hF⟩ : ∃ F, F = okL c := ⟨_, rfl⟩
  have HF := Lib.hid hF
  clear B hl hc hF
  go_enter Tryz.func140, Tryz.ntmps140
  go_wp2_with (first
    | ((with_reducible show wpList _ _ _ (⟨none, Op.store _ _ _, _, _, _, _⟩ :: _) _ _); refine wpl_store_cell rfl _ _ _ rfl g 9 (.int .i64 2) rfl rfl rfl rfl (by kernel_rfl) HB.out (by have := HL.out; omega) ?_; intro w1 B1 O1; have c10 := B1.at (j := 10) HC.out)
    | (go_at_call 177; refine (appendOk_good _ _ _ [] [] c 0 0 2 0 ByteArray.empty false (Rd.nil _) (Rd.nil _) (by simp) (by decide) (by simp) (by omega) (by omega) (by omega) (by omega) (.inl rfl)).mono ?_; rintro e w2 ⟨v2, rfl, ho2, hx2⟩; replace ho2 : Own w2 w1.heap.size v2 F := (by rw [HF.out]; exact ho2); obtain ⟨A2, c2, hv2, _⟩ := id ho2.rd; subst hv2)
    | ((with_reducible show AtS 22); go_loud (refine wpl_append_rec (sz := 1) (z := .slice none 0 0) (bytes := 24) Tryz.underlying41 (by kernel_rfl) (by kernel_rfl) (by omega) (by omega) (OwnR.nil 22 1 _ w2.heap.size) [.slice A2 F.length c2] rfl (by kernel_rfl) rfl _ _ rfl rfl _ rfl rfl (by simp) (Nat.le_refl _) ?_; intro v3 w3 ho3 hb3))
    | fail)
  go_ret
  rw [← HF.out]
  refine ⟨_, rfl, lists_of (us := [.slice A2 F.length c2]) (ho3.more (Nat.le_trans O1.size (Ext.size hx2))) rfl (fun j hj => ?_), (B1.ext hx2).ext hb3, (O1.ext hx2).ext hb3⟩
  have e : j = 0 := by simpa using hj
  subst e
  exact (ho2.more O1.size).ext hb3
end Go.Proofs.YtbodppfpmpmadaaGreat

namespace Go.Proofs.YtbodppfpmpmadaaGreat
open Go.RowKit

theorem strL_add0 (a : List UInt8) : (strL a ++ { data := #[0] } : ByteArray).toList = a ++ [0] := by
  rw [ByteArray.toList_eq, ByteArray.data_append]
  rw [Array.toList_append, strL_toList]
set_option maxHeartbeats 1000000 in
theorem full_c (w : World) (g : Nat) (cs : List Value) (c : Int) (pw l : List UInt8) (vb : Value) (B : BoxF w g cs) (hl : cs.length = 19) (hc : cs[10]? = some (.int .u32 c)) (hpw : cs[13]? = some (.string (strL pw))) (hr : Rd w vb l) (hp : pw.length ≤ 1000000) :
    Calls Tryz.prog 142 #[.pointer (some ⟨g, 0, none⟩), vb] w fun e w' => ∃ v, e = .returned v ∧
      ListsN w' w.heap.size v [if l == pw ++ [0] then okL c else refusedL] ∧ BoxF w' g (cs.set 9 (.int .i64 (if l == pw ++ [0] then 2 else 3))) ∧ On g w w' := by
  have HB := Lib.hid B
  have HL := Lib.hid hl
  have HC := Lib.hid hc
  obtain ⟨t, ht⟩ : ∃ t, t = strL pw := ⟨_, rfl⟩
  have hts : t.size ≤ 1000000 := by rw [ht, strL_size]; exact hp
  rw [← ht] at hpw
  have c13 := B.at (j := 13) hpw
  obtain ⟨q, hq⟩ : ∃ q, q = (l == pw ++ [0]) := ⟨_, rfl⟩
  have HQ := Lib.hid (show ((strL l).toList == (t ++ { data := #[0] }).toList) = q by rw [hq, ht, strL_tl, strL_add0])
  rw [← hq]
  have HR := Lib.hid hr
  obtain ⟨A, cap, rfl, _⟩ := hr
  clear B hl hc hpw ht hp hq
  go_enter Tryz.func142, Tryz.ntmps142
  go_wp2_with fail
  have t0 := run_str w bt HR.out
  have t1 := run_str w.drew bt (HR.out.ext (Ext.refl _).drew)
  (try dsimp only [Act.put])
  first | go_region | fail
  rw [HQ.out]
  clear t0 t1
  have hx0 : Ext w w.drew := (Ext.refl w).drew
  have HB1 := Lib.hid (HB.out.ext hx0)
  have HX0 := Lib.hid hx0
  generalize w.drew = w0 at hx0 HB1 HX0 ⊢
  clear hx0 c13
  cases q with
  | true =>
    go_wp2_with (first
      | (go_at_call 140; refine (in_nil_c _ g cs c HB1.out HL.out HC.out).mono ?_; rintro e w1 ⟨v1, rfl, hl1, B1, O1⟩)
      | fail)
    go_ret
    exact ⟨_, rfl, hl1.more (Ext.size HX0.out), B1, (On.of HX0.out).trans O1⟩
  | false =>
    go_wp2_with (first
      | (go_at_call 89; refine (refused_c _).mono ?_; rintro e w1 ⟨v1, rfl, hl1, hx1⟩; have B1 := HB1.out.ext hx1)
      | (go_at_call 41; refine (dfail_c _ g cs _ B1 HL.out).mono ?_; rintro e w2 ⟨rfl, B2, O2⟩)
      | fail)
    go_ret
    exact ⟨_, rfl, (hl1.on O2 HB1.out.lt).more (Ext.size HX0.out), B2, ((On.of HX0.out).ext hx1).trans O2⟩
end Go.Proofs.YtbodppfpmpmadaaGreat

namespace Go.Proofs.YtbodppfpmpmadaaGreat
open Go.RowKit

set_option maxHeartbeats 1000000 in
theorem change1_c (w : World) (g h : Nat) (cs : List Value) (vb : Value) (B : BoxF w g cs) (hl : cs.length = 19) (hh : w.cell? ⟨h, 0, none⟩ = some (.pointer (some ⟨g, 0, none⟩))) (hne : h ≠ g) :
    Calls Tryz.prog 88 #[vb, .pointer (some ⟨h, 0, none⟩)] w fun e w' => ∃ v, e = .returned v ∧
      ListsN w' w.heap.size v [refusedL] ∧ BoxF w' g (cs.set 9 (.int .i64 3)) ∧ On g w w' := by
  have HB := Lib.hid B
  have HL := Lib.hid hl
  have HH := Lib.hid hh
  have HN := Lib.hid hne
  clear B hl hne
  go_enter Tryz.func88, Tryz.ntmps88
  go_wp2_with fail
  have p0 : w.drew.cell? ⟨h, 0, none⟩ = some (.pointer (some ⟨g, 0, none⟩)) := Ext.cell (Ext.refl _).drew hh
  go_region_held3 (fun W' => W'.cell? ⟨h, 0, none⟩ = some (.pointer (some ⟨g, 0, none⟩)))
    ((first | with_reducible exact p0 | with_reducible exact hh | with_reducible exact p1 | with_reducible exact p2 | fail))
    (first
      | (go_at_call 89; go_must (refine (refused_c _).mono ?_; rintro e w1 ⟨v1, rfl, hl1, hx1⟩; have hx0 := (Ext.refl w).drew.trans hx1; have p1 := Ext.cell hx0 HH.out; have B1 := HB.out.ext hx0))
      | (go_at_call 41; go_must (refine (dfail_c _ g cs _ B1 HL.out).mono ?_; rintro e w2 ⟨rfl, B2, O2⟩; have p2 := On.cell O2 p1 HN.out))
      | fail)
  all_goals
    go_wp2_with fail
    go_ret
    exact ⟨_, rfl, hl1.on O2 HB.out.lt, B2, (On.of hx0).trans O2⟩
end Go.Proofs.YtbodppfpmpmadaaGreat

namespace Go.Proofs.YtbodppfpmpmadaaGreat
open Go.RowKit

theorem Rd.on {g : Nat} {w w' : World} {v : Value} {l : List UInt8} (h : Rd w v l) (k : On g w w') (hne : v.ownBlock ≠ some g) : Rd w' v l := by
  obtain ⟨A, cap, rfl, h1, h2, h3, h4⟩ := h
  refine ⟨A, cap, rfl, h1, h2, h3, fun hl => ?_⟩
  obtain ⟨b, o, rfl, hc⟩ := h4 hl
  refine ⟨b, o, rfl, fun j hj => k.cell (hc j hj) (fun e => hne (by simp [Value.ownBlock, ← e]))⟩

section
variable {P : Program} {ops : Array Oper} {rest : List Oper} {o : Oper} {a : Act} {w : World} {Q : Exit → Act → World → Prop}
theorem bc_made (n : Nat) : (madeCells (Value.int .u8 0).cells (n * 1)).toList = bc (List.replicate n 0) := by
  show (madeCells #[Value.int .u8 0] (n * 1)).toList = _
  rw [toList_madeCells_one]
  simp [bc]

theorem wpl_makeN (hT : BT P) (n : Nat) (hn : n ≤ 100000000)
    (hgd : o.guard = none) (x c : Operand) (kl kc : IntKind) (ho : o.op = .makeSlice 22 x c) (hx : a.eval x = .int kl (n : Int)) (hc : a.eval c = .int kc (n : Int))
    (h : ∀ v' w', Own w' w.heap.size v' (List.replicate n 0) → Ext w w' → wpList P ops Q rest (a.put o.dst v') w') : wpList P ops Q (o :: rest) a w := by
  obtain ⟨i, hi, hz, hs1, hb1⟩ := hT.info
  obtain ⟨w', hrun, h1, h2⟩ := run_make_full (P := P) w w.heap.size 22 5 i (.int .u8 0) 1 hT.sl hi hz hs1 kl kc n (by rw [hb1]; omega) (by unfold maxLen; omega) (Nat.le_refl _)
  refine wpl_val hgd (v := .slice (some ⟨w.heap.size, 0, none⟩) n n) (w' := w') ?_ (h _ _ ?_ ((Below.refl _ w).grown h2 (Nat.le_refl _) (fun k hk => by cases hk)))
  · unfold execOp
    simp only [ho, hx, hc, Sem.run_bind, Sem.run_pure, Result.andThen_ok, hrun]
  · rw [bc_made] at h1
    unfold Own
    rw [List.length_replicate]
    exact h1

theorem wpl_cut_hi (hT : BT P) {b : World} {v : Value} {l : List UInt8} (hr : Rd b v l) (j : Int) (h0 : 0 ≤ j) (h1 : j ≤ l.length)
    (hgd : o.guard = none) (x hi : Operand) (k : IntKind) (ho : o.op = .slice 22 x none (some hi) none) (hx : a.eval x = v) (hhi : a.eval hi = .int k j)
    (h : ∀ A' m c', Rd b (.slice A' m c') (l.take j.toNat) → wpList P ops Q rest (a.put o.dst (.slice A' m c')) w) : wpList P ops Q (o :: rest) a w := by
  obtain ⟨A, cap, rfl, hle, hm, _⟩ := id hr
  have hc := Rd.cut hr 0 j.toNat (by omega) (by omega)
  rw [List.drop_zero] at hc
  refine wpl_val hgd (v := .slice (if cap = 0 then A else A.map (·.add (0 * 1))) (j.toNat - 0) (cap - 0)) (w' := w) ?_ (h _ _ _ hc)
  unfold execOp
  have hb : j ≤ (cap : Int) := by omega
  simp [ho, hx, hhi, Instr.sliceAt, Instr.slice, run_underlying hT.sl, Instr.sliceBounds, run_sliceBound, h0, hb, sizeOf_u8 hT]
end

def rB (n : Nat) (s : List UInt8 × Int) : List UInt8 × (List UInt8 × Int) := if s.2 = 0 then (if s.1.length < n then (List.replicate n 0, (s.1, 4)) else (s.1.take n, (s.1.drop n, 0))) else (List.replicate n 0, s)
theorem rB_length (n : Nat) (s : List UInt8 × Int) : (rB n s).1.length = n := by
  unfold rB
  split
  · split
    · simp
    · simp; omega
  · simp
def RetO (a w : World) (g : Nat) (l : List UInt8) (s : List UInt8 × Int) (e : Ending) (w' : World) : Prop := ∃ v, e = .returned v ∧ Own w' w.heap.size v l ∧ Rdr a w' g s ∧ On g w w'

set_option maxRecDepth 100000 in
set_option maxHeartbeats 1000000 in
theorem wrong_m (a w : World) (g : Nat) (s s' : List UInt8 × Int) (b : Bool) (h : Rdr a w g s) (hx : rW b s = s') :
    Calls Tryz.prog 107 #[.pointer (some ⟨g, 0, none⟩), .bool b] w (RetR a w g (.tuple #[]) s') := by
  obtain ⟨l, e⟩ := s
  obtain ⟨v, c0, hr⟩ := h.c0
  have c1 := h.c1
  have f0 := h.f0
  have f1 := h.f1
  try dsimp only at hr c1
  have HR := Lib.hid hr
  have H := Lib.hid h
  clear h hr
  by_cases he : e = 0
  · subst he
    cases b with
    | true =>
      have hs : s' = (l, 5) := by rw [← hx]; simp [rW]
      subst hs
      clear hx
      go_enter Tryz.func107, Tryz.ntmps107
      go_wp2_with fail
      refine bodyPost_end (results_none rfl _ _ _) rfl ?_
      exact ⟨rfl, H.out.set1 5, (On.refl g w).set 1 _⟩
    | false =>
      have hs : s' = (l, 0) := by rw [← hx]; simp [rW]
      subst hs
      clear hx
      go_enter Tryz.func107, Tryz.ntmps107
      go_wp2_with fail
      refine bodyPost_end (results_none rfl _ _ _) rfl ?_
      exact ⟨rfl, H.out, On.refl g w⟩
  · have hs : s' = (l, e) := by rw [← hx]; simp [rW, he]
    subst hs
    have hb : (e == 0) = false := by simpa using he
    clear hx
    go_enter Tryz.func107, Tryz.ntmps107
    go_wp2_with fail
    refine bodyPost_end (results_none rfl _ _ _) rfl ?_
    exact ⟨rfl, H.out, On.refl g w⟩

set_option maxRecDepth 100000 in
set_option maxHeartbeats 1000000 in
theorem bytes_m (a w : World) (g : Nat) (s : List UInt8 × Int) (n : Nat) (x : List UInt8) (s' : List UInt8 × Int) (h : Rdr a w g s) (hn : n ≤ 100000) (hx : rB n s = (x, s')) :
    Calls Tryz.prog 109 #[.pointer (some ⟨g, 0, none⟩), .int .i64 (n : Int)] w (RetO a w g x s') := by
  obtain ⟨l, e⟩ := s
  obtain ⟨v, c0, hr⟩ := h.c0
  have c1 := h.c1
  have f0 := h.f0
  have f1 := h.f1
  try dsimp only at hr c1
  have HR := Lib.hid hr
  have H := Lib.hid h
  clear h hr
  obtain ⟨A, cap, rfl, hle, hm, hA, hc⟩ := id HR.out
  unfold maxLen at hm
  clear hA hc
  by_cases he : e = 0
  · subst he
    by_cases hl : l.length < n
    · simp only [rB, ↓reduceIte, hl, Prod.mk.injEq] at hx
      obtain ⟨rfl, rfl⟩ := hx
      have c1' := World.cell?_setCell_same w ⟨g, 1, none⟩ (.int .i64 4) c1
      go_enter Tryz.func109, Tryz.ntmps109
      go_wp2_with ((with_reducible show AtS 29); refine wpl_makeN bt n (by omega) rfl _ _ _ _ rfl rfl rfl ?_; intro v1 w1 ho hx1)
      go_ret
      refine ⟨_, rfl, ho.more (by simp), (H.out.set1 4).grow hx1, ((On.refl g w).set 1 _).ext hx1⟩
    · simp only [rB, ↓reduceIte, hl, Prod.mk.injEq] at hx
      obtain ⟨rfl, rfl⟩ := hx
      have c0a : (w.alloc (.cells #[] 5)).cell? ⟨g, 0, none⟩ = some (.slice A l.length cap) := ((Ext.refl w).alloc _).cell c0
      go_enter Tryz.func109, Tryz.ntmps109
      go_wp2_with (first
        | ((with_reducible show AtS 36); refine wpl_cut_hi bt HR.out (n : Int) (by omega) (by omega) rfl _ _ _ rfl rfl rfl ?_; intro A1 m1 cap1 hr1)
        | ((with_reducible show AtS 37); refine wpl_append_rd bt (own_nil w w.heap.size w.heap.size rfl (Nat.le_refl _)) ((hr1.ext H.out.ext).ext ((Ext.refl _).alloc _)) rfl _ _ rfl rfl rfl (by simp; omega) (by simp) ?_; intro v1 w1 ho hb1; have hx1 := ((Ext.refl w).alloc _).below hb1 (Nat.le_refl _); have c0' := hx1.cell c0; have f0' := (hx1.frozen H.out.lt).trans f0)
        | ((with_reducible show AtS 44); refine wpl_cut_lo bt HR.out (n : Int) (by omega) (by omega) rfl _ _ _ rfl rfl rfl ?_; intro A2 m2 cap2 hr2))
      go_ret
      refine ⟨_, rfl, ?_, by simpa using (H.out.grow hx1).set0 hr2, (On.of hx1).set 0 _⟩
      have := ho.on ((On.refl g _).set 0 (.slice A2 m2 cap2)) H.out.lt
      simpa using this
  · have hb : (e == 0) = false := by simpa using he
    simp only [rB, he, ↓reduceIte, Prod.mk.injEq] at hx
    obtain ⟨rfl, rfl⟩ := hx
    go_enter Tryz.func109, Tryz.ntmps109
    go_wp2_with ((with_reducible show AtS 29); refine wpl_makeN bt n (by omega) rfl _ _ _ _ rfl rfl rfl ?_; intro v1 w1 ho hx1)
    go_ret
    exact ⟨_, rfl, ho, H.out.grow hx1, On.of hx1⟩

end Go.Proofs.YtbodppfpmpmadaaGreat

namespace Go.Proofs.YtbodppfpmpmadaaGreat
open Go.RowKit

def RetZ (w : World) (l s : List UInt8) (e : Ending) (w' : World) : Prop :=
  (s.contains 0 = true → RetBE w [] 2 e w') ∧ (s.contains 0 = false → RetBE w (l ++ s ++ [0]) 0 e w')

theorem RetZ.yes {w : World} {l s : List UInt8} {e : Ending} {w' : World} (hc : s.contains 0 = true) (h : RetBE w [] 2 e w') : RetZ w l s e w' :=
  ⟨fun _ => h, fun h' => by rw [hc] at h'; cases h'⟩
theorem RetZ.no {w : World} {l s : List UInt8} {e : Ending} {w' : World} (hc : s.contains 0 = false) (h : RetBE w (l ++ s ++ [0]) 0 e w') : RetZ w l s e w' :=
  ⟨fun h' => (by rw [hc] at h'; cases h'), fun _ => h⟩

theorem str_getD (s : ByteArray) (k : Nat) (h : k < s.size) : s.data.toList.getD k 0 = s[k]'h := by
  have hl : k < s.data.toList.length := by rw [size_toList]; exact h
  rw [List.getD_eq_getElem?_getD, List.getElem?_eq_getElem hl]
  rfl

theorem byte_zero {c : UInt8} (h : ((c.toNat : Int) == 0) = true) : c = 0 := by
  have : (c.toNat : Int) = 0 := by simpa using h
  have h0 : (0 : UInt8).toNat = 0 := rfl
  exact UInt8.toNat.inj (by omega)
theorem byte_nz {c : UInt8} (h : ((c.toNat : Int) == 0) = false) : c ≠ 0 := by
  rintro rfl
  simp at h

set_option maxHeartbeats 400000 in
theorem appendEnded_len (w : World) (v : Value) (l : List UInt8) (s : ByteArray) (hr : Rd w v l) (hs : s.size ≤ 1000000) (hl : l.length ≤ 7000000) :
    Calls Tryz.prog 152 #[v, .string s] w (RetZ w l s.data.toList) := by
  have HR := Lib.hid hr
  clear hr
  have hz := idx_zero s.data.toList
  by_cases hc : s.data.toList.contains 0 = true
  · rw [if_pos hc] at hz
    have HZ := Lib.hid (show Lib.indexByte s.data.toList (0 : Int).toNat.toUInt8 = _ from hz)
    have HC := Lib.hid hc
    clear hz hc
    go_enter Tryz.func152, Tryz.ntmps152
    go_wp2_with (go_at_call 178; refine (idx_s _ _ _).mono ?_; rintro e w1 ⟨rfl, rfl⟩; rw [HZ.out])
    go_ret2
    exact RetZ.yes HC.out ⟨_, rfl, Own.nil _ _, Ext.refl _⟩
  · rw [if_neg hc] at hz
    have HZ := Lib.hid (show Lib.indexByte s.data.toList (0 : Int).toNat.toUInt8 = _ from hz)
    have HC := Lib.hid (show s.data.toList.contains 0 = false by simpa using hc)
    clear hz hc
    have hsz := size_toList s
    go_enter Tryz.func152, Tryz.ntmps152
    go_wp2_with (first | (go_at_call 178; refine (idx_s _ _ _).mono ?_; rintro e w1 ⟨rfl, rfl⟩; rw [HZ.out]) | (go_at_call 97; refine (clone_c _ _ _ HR.out (by omega)).mono ?_; rintro e w1 ⟨v1, rfl, ho1, hx1⟩) | (at_builtin; refine wpl_append_st bt s ho1 rfl _ _ rfl rfl rfl (by omega) (Ext.size hx1) ?_; intro v2 w2 ho2 hb2) | (at_builtin; refine wpl_append_one bt 0 ho2 (by omega) (by omega) rfl _ _ rfl rfl rfl (by rw [List.length_append]; omega) (Ext.size (hx1.below hb2 (Nat.le_refl _))) ?_; intro v3 w3 ho3 hb3))
    go_ret2
    exact RetZ.no HC.out ⟨_, rfl, ho3, (hx1.below hb2 (Nat.le_refl _)).below hb3 (Nat.le_refl _)⟩

set_option maxHeartbeats 400000 in
theorem appendEnded_ref (w : World) (v : Value) (l : List UInt8) (s : ByteArray) (hr : Rd w v l) (hs : s.size ≤ 1000000) (hl : l.length ≤ 7000000) :
    Calls Tryz.prog 157 #[v, .string s] w (RetZ w l s.data.toList) := by
  have HR := Lib.hid hr
  clear hr
  have hsz := Lib.hid (size_toList s)
  go_enter Tryz.func157, Tryz.ntmps157
  go_wp2_with fail
  go_loop [6] (fun i => ∃ k : Nat, k ≤ s.size ∧ i = .int .i64 k ∧ ∀ j, j < k → s.data.toList.getD j 0 ≠ 0) (fun i => s.size - (intOf i).toNat)
  case atStart => exact ⟨0, Nat.zero_le _, rfl, fun j hj => by omega⟩
  case round =>
    obtain ⟨k, hk, rfl, hj⟩ := hrel
    have HJ := Lib.hid hj
    clear hj
    by_cases hlt : k < s.size
    · go_wp2_with fail
      · have ht : (((s[k]'hlt).toNat : Int) == 0) = true := by assumption
        go_ret2
        refine RetZ.yes ?_ ⟨_, rfl, Own.nil _ _, Ext.refl _⟩
        exact (upZ_at s.data.toList k (by rw [hsz.out]; exact hlt) (by rw [str_getD s k hlt]; exact byte_zero ht) HJ.out).2
      · have ht : (((s[k]'hlt).toNat : Int) == 0) = false := by assumption
        go_round
        case rel =>
          refine ⟨k + 1, by omega, by go_num, fun j hj => ?_⟩
          rcases Nat.lt_or_ge j k with h | h
          · exact HJ.out j h
          · obtain rfl : j = k := by omega
            rw [str_getD s j hlt]
            exact byte_nz ht
        case measure => simp [intOf]; omega
    · obtain rfl : k = s.size := by omega
      have HC := Lib.hid (upZ_none s.data.toList (by rw [hsz.out]; exact HJ.out))
      go_wp2_with (first | (at_builtin; refine wpl_clone bt HR.out rfl _ _ rfl rfl rfl (by omega) ?_; intro v1 w1 ho1 hx1) | (at_builtin; refine wpl_append_st bt s ho1 rfl _ _ rfl rfl rfl (by omega) (Ext.size hx1) ?_; intro v2 w2 ho2 hb2) | (at_builtin; refine wpl_append_one bt 0 ho2 (by omega) (by omega) rfl _ _ rfl rfl rfl (by rw [List.length_append, hsz.out]; omega) (Ext.size (hx1.below hb2 (Nat.le_refl _))) ?_; intro v3 w3 ho3 hb3))
      go_ret2
      exact RetZ.no HC.out ⟨_, rfl, ho3, (hx1.below hb2 (Nat.le_refl _)).below hb3 (Nat.le_refl _)⟩

set_option maxHeartbeats 400000 in
theorem readEnded_len (w : World) (v : Value) (l : List UInt8) (hr : Rd w v l) :
    Calls Tryz.prog 135 #[v] w (RetT w (readZ l)) := by
  have HR := Lib.hid hr
  have hle := hr.le
  unfold maxLen at hle
  clear hr
  have hz := idx_zero l
  by_cases hc : l.contains 0 = true
  · have HT := Lib.hid (show readZ l = (upZ l, (upZ l).length + 1, 0) from if_pos hc)
    rw [if_pos hc] at hz
    have hu := upZ_lt l hc
    have HZ := Lib.hid (show Lib.indexByte l (0 : Int).toNat.toUInt8 = _ from hz)
    clear hz hc
    rw [HT.out]
    go_enter Tryz.func135, Tryz.ntmps135
    go_wp2_with (first | (go_at_call 78; refine (idx_b _ _ _ _ HR.out).mono ?_; rintro e w1 ⟨rfl, rfl⟩; rw [HZ.out]) | ((with_reducible show wpList _ _ _ (_ :: _) _ _); refine wpl_slice_hi bt HR.out ((upZ l).length : Int) (by omega) (by omega) rfl _ _ _ rfl rfl rfl ?_; intro v2 hr2) | ((with_reducible show wpList _ _ _ (_ :: _) _ _); refine wpl_str bt hr2 rfl _ rfl rfl ?_))
    go_ret3
    refine ⟨?_, rfl⟩
    have e2 : (((upZ l).length + 1 : Nat) : Int) = ((upZ l).length : Int) + 1 := by omega
    simp only [e2, upZ_take]
    rfl
  · have HT := Lib.hid (show readZ l = ([], 0, 4) from if_neg hc)
    rw [if_neg hc] at hz
    have HZ := Lib.hid (show Lib.indexByte l (0 : Int).toNat.toUInt8 = _ from hz)
    clear hz hc
    rw [HT.out]
    go_enter Tryz.func135, Tryz.ntmps135
    go_wp2_with (go_at_call 78; refine (idx_b _ _ _ _ HR.out).mono ?_; rintro e w1 ⟨rfl, rfl⟩; rw [HZ.out])
    go_ret3
    exact ⟨rfl, rfl⟩

set_option maxHeartbeats 1000000 in
theorem readEnded_ref (w : World) (v : Value) (l : List UInt8) (hr : Rd w v l) :
    Calls Tryz.prog 159 #[v] w (RetT w (readZ l)) := by
  have HR := Lib.hid hr
  obtain ⟨A, cap, rfl, hle, hm, hA, hc⟩ := hr
  have HC := Lib.hid hc
  clear hc hA
  unfold maxLen at hm
  go_enter Tryz.func159, Tryz.ntmps159
  go_wp2_with fail
  go_loop [5] (fun i => ∃ k : Nat, k ≤ l.length ∧ i = .int .i64 k ∧ ∀ j, j < k → l.getD j 0 ≠ 0) (fun i => l.length - (intOf i).toNat)
  case atStart => exact ⟨0, Nat.zero_le _, rfl, fun j hj => by omega⟩
  case round =>
    obtain ⟨k, hk, rfl, hj⟩ := hrel
    have HJ := Lib.hid hj
    clear hj
    by_cases hlt : k < l.length
    · obtain ⟨b, o, rfl, hc2⟩ := HC.out (by intro h; subst h; simp at hlt)
      have hcell := hc2 k hlt
      clear hc2
      obtain ⟨c, hcv⟩ : ∃ c, c = l.getD k 0 := ⟨_, rfl⟩
      rw [← hcv] at hcell
      have HV := Lib.hid hcv
      clear hcv
      go_wp2_with (first | ((with_reducible show AtS 19); refine wpl_slice_hi bt HR.out (k : Int) (by omega) (by omega) rfl _ _ _ rfl rfl rfl ?_; intro v2 hr2) | ((with_reducible show AtS 20); refine wpl_str bt hr2 rfl _ rfl rfl ?_))
      · have ht : ((c.toNat : Int) == 0) = true := by assumption
        obtain ⟨hu, hcon⟩ := upZ_at l k hlt (by rw [← HV.out]; exact byte_zero ht) HJ.out
        go_ret3
        refine ⟨?_, rfl⟩
        have e : readZ l = (l.take k, k + 1, 0) := by
          unfold readZ
          rw [if_pos hcon, ← hu, upZ_take]
        rw [e]
        rfl
      · have ht : ((c.toNat : Int) == 0) = false := by assumption
        go_round
        case rel =>
          refine ⟨k + 1, by omega, by go_num, fun j hj => ?_⟩
          rcases Nat.lt_or_ge j k with h | h
          · exact HJ.out j h
          · obtain rfl : j = k := by omega
            rw [← HV.out]
            exact byte_nz ht
        case measure => simp [intOf]; omega
    · obtain rfl : k = l.length := by omega
      have HE := Lib.hid (show readZ l = ([], 0, 4) by unfold readZ; rw [upZ_none l HJ.out]; rfl)
      go_wp2_with fail
      go_ret3
      rw [HE.out]
      exact ⟨rfl, rfl⟩
end Go.Proofs.YtbodppfpmpmadaaGreat

namespace Go.Proofs.YtbodppfpmpmadaaGreat
open Go.RowKit

def nonceOk (l : List UInt8) : Bool := !l.contains 0 && !l.contains 36
def rZ (s : List UInt8 × Int) : List UInt8 × (List UInt8 × Int) := if s.2 = 0 then (if (readZ s.1).2.2 = 0 then ((readZ s.1).1, (s.1.drop (readZ s.1).2.1, 0)) else ([], (s.1, (readZ s.1).2.2))) else ([], s)
def rU (s : List UInt8 × Int) : List UInt8 × (List UInt8 × Int) := if s.2 = 0 then (if (readT s.1).2.2 = 0 then ((readT s.1).1, (s.1.drop (readT s.1).2.1, 0)) else ([], (s.1, (readT s.1).2.2))) else ([], s)
def rX (n : Nat) (s : List UInt8 × Int) : Int × (List UInt8 × Int) := ((leN (rB n s).1 : Int), (rB n s).2)
def r0 (n : Nat) (s : List UInt8 × Int) : List UInt8 × Int := rW ((rB n s).1 != List.replicate n 0) (rB n s).2
def rE (e : Int) (s : List UInt8 × Int) : List UInt8 × Int := if s.2 = 0 then (s.1, e) else s
theorem rW_true (s : List UInt8 × Int) : rW true s = rE 5 s := by unfold rW rE; simp
theorem rW_false (s : List UInt8 × Int) : rW false s = s := by unfold rW; simp

theorem fails_g (a w : World) (g : Nat) (s s' : List UInt8 × Int) (x : Int) (h : Rdr a w g s) (hx : rE x s = s') :
    Calls Tryz.prog 134 #[.pointer (some ⟨g, 0, none⟩), .int .i64 x] w (RetR a w g (.tuple #[]) s') := by
  obtain ⟨l, e⟩ := s
  obtain ⟨v, c0, hr⟩ := h.c0
  have c1 := h.c1
  have f0 := h.f0
  have f1 := h.f1
  try dsimp only at hr c1
  have HR := Lib.hid hr
  have H := Lib.hid h
  clear h hr
  by_cases he : e = 0
  · subst he
    have hs : s' = (l, x) := by rw [← hx]; simp [rE]
    subst hs
    clear hx
    go_enter Tryz.func134, Tryz.ntmps134
    go_wp2_with fail
    refine bodyPost_end (results_none rfl _ _ _) rfl ?_
    exact ⟨rfl, H.out.set1 x, (On.refl g w).set 1 _⟩
  · have hs : s' = (l, e) := by rw [← hx]; simp [rE, he]
    subst hs
    have hb : (e == 0) = false := by simpa using he
    clear hx
    go_enter Tryz.func134, Tryz.ntmps134
    go_wp2_with fail
    refine bodyPost_end (results_none rfl _ _ _) rfl ?_
    exact ⟨rfl, H.out, On.refl g w⟩

theorem bad_g (a w : World) (g : Nat) (s s' : List UInt8 × Int) (b : Bool) (h : Rdr a w g s) (hx : rW b s = s') :
    Calls Tryz.prog 79 #[.pointer (some ⟨g, 0, none⟩), .bool b] w (RetR a w g (.tuple #[]) s') := by
  have H := Lib.hid h
  clear h
  cases b with
  | true =>
    rw [rW_true] at hx
    have HX := Lib.hid hx
    clear hx
    go_enter Tryz.func79, Tryz.ntmps79
    go_wp2_with (go_at_call 134; refine (fails_g a _ g s s' 5 H.out HX.out).mono ?_; rintro e w1 ⟨rfl, R1, O1⟩)
    refine bodyPost_end (results_none rfl _ _ _) rfl ?_
    exact ⟨rfl, R1, O1⟩
  | false =>
    rw [rW_false] at hx
    subst hx
    go_enter Tryz.func79, Tryz.ntmps79
    go_wp2_with fail
    refine bodyPost_end (results_none rfl _ _ _) rfl ?_
    exact ⟨rfl, H.out, On.refl g w⟩

set_option maxRecDepth 100000 in
set_option maxHeartbeats 1000000 in
theorem take_g (a w : World) (g : Nat) (s : List UInt8 × Int) (n : Nat) (x : List UInt8) (s' : List UInt8 × Int) (h : Rdr a w g s) (hn : n ≤ 100000) (hx : rB n s = (x, s')) :
    Calls Tryz.prog 80 #[.pointer (some ⟨g, 0, none⟩), .int .i64 (n : Int)] w (RetO a w g x s') := by
  obtain ⟨l, e⟩ := s
  obtain ⟨v, c0, hr⟩ := h.c0
  have c1 := h.c1
  have f0 := h.f0
  have f1 := h.f1
  try dsimp only at hr c1
  have HR := Lib.hid hr
  have H := Lib.hid h
  clear h hr
  obtain ⟨A, cap, rfl, hle, hm, hA, hc⟩ := id HR.out
  unfold maxLen at hm
  clear hA hc
  by_cases he : e = 0
  · subst he
    by_cases hl : l.length < n
    · simp only [rB, ↓reduceIte, hl, Prod.mk.injEq] at hx
      obtain ⟨rfl, rfl⟩ := hx
      have c1' := World.cell?_setCell_same w ⟨g, 1, none⟩ (.int .i64 4) c1
      go_enter Tryz.func80, Tryz.ntmps80
      go_wp2_with ((with_reducible show AtS 29); refine wpl_makeN bt n (by omega) rfl _ _ _ _ rfl rfl rfl ?_; intro v1 w1 ho hx1)
      go_ret
      refine ⟨_, rfl, ho.more (by simp), (H.out.set1 4).grow hx1, ((On.refl g w).set 1 _).ext hx1⟩
    · simp only [rB, ↓reduceIte, hl, Prod.mk.injEq] at hx
      obtain ⟨rfl, rfl⟩ := hx
      go_enter Tryz.func80, Tryz.ntmps80
      go_wp2_with (first
        | ((with_reducible show AtS 35); refine wpl_cut_hi bt HR.out (n : Int) (by omega) (by omega) rfl _ _ _ rfl rfl rfl ?_; intro A1 m1 cap1 hr1)
        | ((with_reducible show AtS 42); refine wpl_cut_lo bt HR.out (n : Int) (by omega) (by omega) rfl _ _ _ rfl rfl rfl ?_; intro A2 m2 cap2 hr2)
        | (go_at_call 97; refine (clone_c _ _ (l.take n) (by have := hr1.ext (H.out.ext.setCell (p := ⟨g, 0, none⟩) H.out.lo (.slice A2 m2 cap2)); simpa using this) (by rw [List.length_take]; omega)).mono ?_; rintro e w1 ⟨v1, rfl, ho, hx1⟩))
      go_ret
      refine ⟨_, rfl, ho.more (by simp), ?_, ((On.refl g w).set 0 _).ext hx1⟩
      have := (H.out.set0 hr2).grow hx1
      simpa using this
  · have hb : (e == 0) = false := by simpa using he
    simp only [rB, he, ↓reduceIte, Prod.mk.injEq] at hx
    obtain ⟨rfl, rfl⟩ := hx
    go_enter Tryz.func80, Tryz.ntmps80
    go_wp2_with ((with_reducible show AtS 29); refine wpl_makeN bt n (by omega) rfl _ _ _ _ rfl rfl rfl ?_; intro v1 w1 ho hx1)
    go_ret
    exact ⟨_, rfl, ho, H.out.grow hx1, On.of hx1⟩

theorem readF_all (l : List UInt8) (n : Nat) (h : l.length = n) (h1 : 1 ≤ n) (h2 : n ≤ 8) : readF l (n : Int) = ((leN l : Int), 0) := by
  unfold readF
  rw [if_neg (by omega), if_neg (by omega), Int.toNat_natCast, List.take_of_length_le (by omega)]

set_option maxRecDepth 100000 in
set_option maxHeartbeats 1000000 in
theorem fixed_g (a w : World) (g : Nat) (s : List UInt8 × Int) (n : Nat) (x : Int) (s' : List UInt8 × Int) (h : Rdr a w g s) (h1 : 1 ≤ n) (h8 : n ≤ 8) (hx : rX n s = (x, s')) :
    Calls Tryz.prog 82 #[.pointer (some ⟨g, 0, none⟩), .int .i64 (n : Int)] w (RetR a w g (.int .u64 x) s') := by
  obtain ⟨y, s1, hq⟩ : ∃ y s1, rB n s = (y, s1) := ⟨_, _, rfl⟩
  have hl := rB_length n s
  unfold rX at hx
  rw [hq] at hx hl
  dsimp only at hx hl
  cases hx
  have hf := readF_all y n hl h1 h8
  have HQ := Lib.hid hq
  have HF := Lib.hid hf
  have H := Lib.hid h
  clear h hq hl hf
  go_enter Tryz.func82, Tryz.ntmps82
  go_wp2_with (first
    | (go_at_call 80; refine (take_g a _ g s n y _ H.out (by omega) HQ.out).mono ?_; rintro e w1 ⟨v1, rfl, ho, R1, O1⟩)
    | (go_at_call 136; refine (readFixed_at_len _ _ _ _ _ _ ho.rd HF.out).mono ?_; rintro e w2 ⟨rfl, rfl⟩)
    | fail)
  go_ret
  exact ⟨rfl, R1, O1⟩

theorem readZ_le {l x : List UInt8} {n : Nat} (h : readZ l = (x, n, 0)) : n ≤ l.length := by
  unfold readZ at h
  split at h
  · rename_i hc
    have := upZ_lt l hc
    simp only [Prod.mk.injEq] at h
    omega
  · simp at h
theorem readZ_at_len (w : World) (v : Value) (l x : List UInt8) (n : Nat) (r : Int) (hr : Rd w v l) (h : readZ l = (x, n, r)) :
    Calls Tryz.prog 135 #[v] w fun e w' => e = .returned (.tuple #[.string (strL x), .int .i64 n, .int .i64 r]) ∧ w = w' := by
  have := readEnded_len w v l hr
  rw [h] at this
  exact this

set_option maxRecDepth 100000 in
set_option maxHeartbeats 1000000 in
theorem ended_g (a w : World) (g : Nat) (s : List UInt8 × Int) (x : List UInt8) (s' : List UInt8 × Int) (h : Rdr a w g s) (hx : rZ s = (x, s')) :
    Calls Tryz.prog 81 #[.pointer (some ⟨g, 0, none⟩)] w (RetR a w g (.string (strL x)) s') := by
  obtain ⟨l, e⟩ := s
  obtain ⟨v, c0, hr⟩ := h.c0
  have c1 := h.c1
  have f0 := h.f0
  have f1 := h.f1
  try dsimp only at hr c1
  have HR := Lib.hid hr
  have H := Lib.hid h
  clear h hr
  by_cases he : e = 0
  · subst he
    obtain ⟨x1, n1, r1, hq⟩ : ∃ x1 n1 r1, readZ l = (x1, n1, r1) := ⟨_, _, _, rfl⟩
    have HQ := Lib.hid hq
    by_cases h1 : r1 = 0
    · subst h1
      have hm : n1 ≤ l.length := readZ_le hq
      simp only [rZ, hq, ↓reduceIte, Prod.mk.injEq] at hx
      obtain ⟨rfl, rfl⟩ := hx
      clear hq
      go_enter Tryz.func81, Tryz.ntmps81
      go_wp2_with (first
        | (go_at_call 135; refine (readZ_at_len _ _ l _ _ _ (HR.out.ext H.out.ext) HQ.out).mono ?_; rintro e w1 ⟨rfl, rfl⟩)
        | ((with_reducible show AtS 32); refine wpl_cut_lo bt HR.out (n1 : Int) (by omega) (by omega) rfl _ _ _ rfl rfl rfl ?_; intro A' m' c' hr'))
      go_ret
      exact ⟨rfl, by simpa using H.out.set0 hr', (On.refl g w).set 0 _⟩
    · simp only [rZ, hq, ↓reduceIte, h1, Prod.mk.injEq] at hx
      obtain ⟨rfl, rfl⟩ := hx
      have hb : (r1 != 0) = true := by simpa using h1
      clear hq h1
      go_enter Tryz.func81, Tryz.ntmps81
      go_wp2_with (go_at_call 135; refine (readZ_at_len _ _ l _ _ _ (HR.out.ext H.out.ext) HQ.out).mono ?_; rintro e w1 ⟨rfl, rfl⟩)
      go_ret
      exact ⟨rfl, H.out.set1 r1, (On.refl g w).set 1 _⟩
  · have hb : (e != 0) = true := by simpa using he
    simp only [rZ, he, ↓reduceIte, Prod.mk.injEq] at hx
    obtain ⟨rfl, rfl⟩ := hx
    go_enter Tryz.func81, Tryz.ntmps81
    go_wp2_with fail
    go_ret
    exact ⟨rfl, H.out, On.refl g w⟩

set_option maxRecDepth 100000 in
set_option maxHeartbeats 1000000 in
theorem counted_g (a w : World) (g : Nat) (s : List UInt8 × Int) (x : List UInt8) (s' : List UInt8 × Int) (h : Rdr a w g s) (hx : rU s = (x, s')) :
    Calls Tryz.prog 137 #[.pointer (some ⟨g, 0, none⟩)] w (RetR a w g (.string (strL x)) s') := by
  obtain ⟨l, e⟩ := s
  obtain ⟨v, c0, hr⟩ := h.c0
  have c1 := h.c1
  have f0 := h.f0
  have f1 := h.f1
  try dsimp only at hr c1
  have HR := Lib.hid hr
  have H := Lib.hid h
  clear h hr
  by_cases he : e = 0
  · subst he
    obtain ⟨x1, n1, r1, hq⟩ : ∃ x1 n1 r1, readT l = (x1, n1, r1) := ⟨_, _, _, rfl⟩
    have HQ := Lib.hid hq
    by_cases h1 : r1 = 0
    · subst h1
      have hm : n1 ≤ l.length := readT_le hq
      simp only [rU, hq, ↓reduceIte, Prod.mk.injEq] at hx
      obtain ⟨rfl, rfl⟩ := hx
      clear hq
      go_enter Tryz.func137, Tryz.ntmps137
      go_wp2_with (first
        | (go_at_call 175; refine (readT_at_len _ _ l _ _ _ (HR.out.ext H.out.ext) HQ.out).mono ?_; rintro e w1 ⟨rfl, rfl⟩)
        | ((with_reducible show AtS 32); refine wpl_cut_lo bt HR.out (n1 : Int) (by omega) (by omega) rfl _ _ _ rfl rfl rfl ?_; intro A' m' c' hr'))
      go_ret
      exact ⟨rfl, by simpa using H.out.set0 hr', (On.refl g w).set 0 _⟩
    · simp only [rU, hq, ↓reduceIte, h1, Prod.mk.injEq] at hx
      obtain ⟨rfl, rfl⟩ := hx
      have hb : (r1 != 0) = true := by simpa using h1
      clear hq h1
      go_enter Tryz.func137, Tryz.ntmps137
      go_wp2_with (go_at_call 175; refine (readT_at_len _ _ l _ _ _ (HR.out.ext H.out.ext) HQ.out).mono ?_; rintro e w1 ⟨rfl, rfl⟩)
      go_ret
      exact ⟨rfl, H.out.set1 r1, (On.refl g w).set 1 _⟩
  · have hb : (e != 0) = true := by simpa using he
    simp only [rU, he, ↓reduceIte, Prod.mk.injEq] at hx
    obtain ⟨rfl, rfl⟩ := hx
    go_enter Tryz.func137, Tryz.ntmps137
    go_wp2_with fail
    go_ret
    exact ⟨rfl, H.out, On.refl g w⟩

set_option maxRecDepth 100000 in
set_option maxHeartbeats 1000000 in
theorem over_g (a w : World) (g : Nat) (s s' : List UInt8 × Int) (h : Rdr a w g s) (hx : rO s = s') :
    Calls Tryz.prog 85 #[.pointer (some ⟨g, 0, none⟩)] w (RetR a w g (.int .i64 s'.2) s') := by
  obtain ⟨l, e⟩ := s
  obtain ⟨v, c0, hr⟩ := h.c0
  have c1 := h.c1
  have f0 := h.f0
  have f1 := h.f1
  try dsimp only at hr c1
  have HR := Lib.hid hr
  have H := Lib.hid h
  clear h hr
  obtain ⟨A, cap, rfl, hle, hm, hA, hc⟩ := id HR.out
  unfold maxLen at hm
  clear hA hc
  by_cases hl : 0 < l.length
  · have hli : 0 < (l.length : Int) := by omega
    unfold rO at hx
    rw [show decide (0 < (l, e).1.length) = true by simpa using hl] at hx
    have HX := Lib.hid hx
    clear hx
    go_enter Tryz.func85, Tryz.ntmps85
    go_wp2_with (go_at_call 79; refine (bad_g a _ g _ s' true H.out HX.out).mono ?_; rintro e1 w1 ⟨rfl, R1, O1⟩; have c1' := R1.c1)
    go_ret
    exact ⟨rfl, R1, O1⟩
  · obtain rfl : l = [] := List.eq_nil_of_length_eq_zero (by omega)
    unfold rO at hx
    rw [show decide (0 < (([] : List UInt8), e).1.length) = false from rfl] at hx
    have HX := Lib.hid hx
    clear hx
    go_enter Tryz.func85, Tryz.ntmps85
    go_wp2_with (go_at_call 79; refine (bad_g a _ g _ s' false H.out HX.out).mono ?_; rintro e1 w1 ⟨rfl, R1, O1⟩; have c1' := R1.c1)
    go_ret
    exact ⟨rfl, R1, O1⟩

end Go.Proofs.YtbodppfpmpmadaaGreat

namespace Go.Proofs.YtbodppfpmpmadaaGreat
open Go.RowKit

theorem hasR_at (w : World) (c x : Int) (r : Bool) (h : hasB c x = r) :
    Calls Tryz.prog 104 #[.int .u32 c, .int .u32 x] w fun e w' => e = .returned (.bool r) ∧ w = w' := by
  have H := Lib.hid h
  clear h
  go_enter Tryz.func104, Tryz.ntmps104
  go_wp2_with fail
  go_ret
  rw [← H.out]
  exact ⟨rfl, rfl⟩

theorem fixedR_c (w : World) (v : Value) (l : List UInt8) (x n : Int) (hr : Rd w v l) (hl : l.length ≤ 9000000) (h : fixOk x n = true) :
    Calls Tryz.prog 165 #[v, .int .u64 x, .int .i64 n] w (RetB w (l ++ fixB x n.toNat)) := by
  have HR := Lib.hid hr
  have HK := Lib.hid h
  clear hr h
  go_enter Tryz.func165, Tryz.ntmps165
  go_wp2_with (go_at_call 158; refine (appendFixed_good_ref _ _ _ _ _ HR.out hl HK.out).mono ?_; rintro e w1 ⟨v1, rfl, ho, hx⟩)
  go_ret
  exact ⟨_, rfl, ho, hx⟩

set_option maxHeartbeats 400000 in
theorem trackR_c (w : World) (c st : Int) (r : Bool) (h : trackB c st = r) :
    Calls Tryz.prog 132 #[.int .u32 c, .int .u16 st] w fun e w' => e = .returned (.bool r) ∧ w = w' := by
  cases hk : hasB c 8388608 with
  | false =>
    have hr : r = false := by rw [← h]; simp [trackB, hk]
    subst hr
    have HK := Lib.hid hk
    clear hk h
    go_enter Tryz.func132, Tryz.ntmps132
    go_wp2_with (go_at_call 104; refine (hasR_at _ _ _ false HK.out).mono ?_; rintro e w1 ⟨rfl, rfl⟩)
    go_ret
    exact ⟨rfl, rfl⟩
  | true =>
    have hr : (bits .and .u16 st 16384 != 0) = r := by rw [← h]; simp [trackB, hk]
    have HK := Lib.hid hk
    have HQ := Lib.hid hr
    clear hk h hr
    go_enter Tryz.func132, Tryz.ntmps132
    go_wp2_with (go_at_call 104; refine (hasR_at _ _ _ true HK.out).mono ?_; rintro e w1 ⟨rfl, rfl⟩)
    go_ret
    rw [← HQ.out]
    exact ⟨rfl, rfl⟩

theorem Box.held1 {W0 W : World} {g j : Nat} {cs : List Value} {v : Value} (h : Box W0 g cs) (hv : cs[j]? = some v) (e : Ext W0 W) : W.cell? ⟨g, j, none⟩ = some v ∧ Ext W0 W := by
  obtain ⟨hj, hv⟩ := List.getElem?_eq_some_iff.1 hv
  have h1 := (h.ext e) j hj
  simp [List.getD, hj, hv] at h1
  exact ⟨h1, e⟩

set_option maxRecDepth 100000 in
set_option maxHeartbeats 1000000 in
theorem appendErrR_good (w : World) (v : Value) (l : List UInt8) (c : Int) (s t : ByteArray) (hr : Rd w v l) (hl : l.length ≤ 1000000) (h : s.size = 5) (ht : t.size ≤ 1000000) (hc : 0 ≤ c ∧ c < 65536) :
    Calls Tryz.prog 161 #[v, .agg #[.int .u16 c, .string s, .string t]] w (RetBE w (l ++ errB c s.data.toList t.data.toList) 0) := by
  have HR := Lib.hid hr
  clear hr
  have hb : ((s.size : Int) == 5) = true := by simp [h]
  have HW := Lib.hid (show IntKind.u64.wrap c = c from IntWalk.u64_in c (by omega))
  have HK := Lib.hid (show fixOk c 2 = true by simp [fixOk]; omega)
  have hf : (fixB c 2).length = 2 := fixB_length c 2
  go_enter Tryz.func161, Tryz.ntmps161
  go_wp2_with fail
  generalize hW0 : w.alloc _ = W0
  have hbox : Box W0 w.heap.size [.int .u16 c, .string s, .string t] := by rw [← hW0]; exact Box.new w _ _
  have hx0 : Ext w W0 := by rw [← hW0]; exact (Ext.refl w).alloc _
  clear hW0
  have hE := Ext.refl W0
  have hlt : w.heap.size < W0.heap.size := World.block_lt_of_cell? W0 _ (hbox 0 (by simp))
  go_region_held3 (fun W' => W'.cell? ⟨w.heap.size, 0, none⟩ = some (.int .u16 c) ∧ Ext W0 W') ((refine Box.held1 hbox (j := 0) (by simp) ?_; first | exact hE.drew | exact (hE.alloc _).drew | exact ((hE.alloc _).alloc _).drew | exact hE | exact hE.alloc _))
    (first
      | ((with_reducible show (if Region.wanted (⟨some 13, _, _, _, _, _⟩ : Oper) _ = true then _ else _)); refine step_append_rdg bt ((own_nil W0 W0.heap.size W0.heap.size rfl (Nat.le_refl _)).ext (Ext.refl _).drew) (HR.out.ext (hx0.trans ((hE.alloc _).drew))) (by rfl) _ _ (by rfl) (by rfl) (by rfl) (by simp; omega) (by first | (simp; done) | (simp; omega)) ?_; intro v1 w1 ho1 hb1 hg1; replace hE := ((hE.alloc _).drew).below hb1 (Nat.le_refl _))
      | ((with_reducible show (if Region.wanted (⟨some 13, _, _, _, _, _⟩ : Oper) _ = true then _ else _)); refine step_append_rdg bt ((own_nil W0 W0.heap.size W0.heap.size rfl (Nat.le_refl _)).ext ((Ext.refl _).alloc _).drew) (HR.out.ext (hx0.trans (((hE.alloc _).alloc _).drew))) (by rfl) _ _ (by rfl) (by rfl) (by rfl) (by simp; omega) (by first | (simp; done) | (simp; omega)) ?_; intro v1 w1 ho1 hb1 hg1; replace hE := (((hE.alloc _).alloc _).drew).below hb1 (Nat.le_refl _))
      | ((with_reducible show (if Region.wanted (⟨some 13, _, _, _, _, _⟩ : Oper) _ = true then _ else _)); refine step_append_rdg bt ((own_nil (W0.alloc _) (W0.heap.size + 1) W0.heap.size (by simp) (by simp)).ext (Ext.refl _).drew) (HR.out.ext (hx0.trans (((hE.alloc _).alloc _).drew))) (by rfl) _ _ (by rfl) (by rfl) (by rfl) (by simp; omega) (by first | (simp; done) | (simp; omega)) ?_; intro v1 w1 ho1 hb1 hg1; replace hE := (((hE.alloc _).alloc _).drew).below hb1 (Nat.le_refl _))
      | ((with_reducible show (if Region.wanted (⟨some 15, _, _, _, _, _⟩ : Oper) _ = true then _ else _)); refine step_append_rd bt (ho1.ext ((Ext.refl _).alloc _)) (rd_lit w1 _ [255] (by rfl) (by simp) 1 _ (by rfl) (by rfl)) (by rfl) _ _ (by rfl) (by rfl) (by rfl) (by simp; omega) (hE.alloc _).size ?_; intro v2 w2 ho2 hb2; replace hE := (hE.alloc _).below hb2 (Nat.le_refl _))
      | ((with_reducible show (if Region.wanted (⟨some 15, _, _, _, _, _⟩ : Oper) _ = true then _ else _)); refine step_append_rd bt ho1 (rd_far ((rd_lit (W0.alloc _) _ [255] (by rfl) (by simp) 1 (W0.heap.size + 1) (by rfl) (by simp)).ext (Ext.refl _).drew) hg1 (by simp [Value.ownBlock])) (by rfl) _ _ (by rfl) (by rfl) (by rfl) (by simp; omega) hE.size ?_; intro v2 w2 ho2 hb2; replace hE := hE.below hb2 (Nat.le_refl _))
      | ((with_reducible show (if Region.wanted (⟨some 15, _, _, _, _, _⟩ : Oper) _ = true then _ else _)); refine step_append_rd bt ho1 (rd_far ((rd_lit W0 _ [255] (by rfl) (by simp) 1 _ (by rfl) (by rfl)).ext ((Ext.refl _).alloc _).drew) hg1 (by simp [Value.ownBlock])) (by rfl) _ _ (by rfl) (by rfl) (by rfl) (by simp; omega) hE.size ?_; intro v2 w2 ho2 hb2; replace hE := hE.below hb2 (Nat.le_refl _))
      | (go_at_call 165; rw [HW.out]; refine (fixedR_c _ _ _ c 2 ho2.rd (by simp; omega) HK.out).mono ?_; rintro e w3 ⟨v3, rfl, ho3', hx3⟩; have ho3 := ho3'.more (base' := W0.heap.size) hE.size; clear ho3'; replace hE := hE.trans hx3))
  all_goals
    clear hb1 hg1 hb2 ho1 ho2
    have hc1 := (hbox.ext hE) 1 (by simp)
    have hc2 := (hbox.ext hE) 2 (by simp)
    go_wp2_with fail
    go_region_held3 (fun W' => W'.cell? ⟨w.heap.size, 1, none⟩ = some (.string s) ∧ W'.cell? ⟨w.heap.size, 2, none⟩ = some (.string t) ∧ Ext W0 W') ((refine Box.held2 hbox (j := 1) (k := 2) (by simp) (by simp) ?_; first | exact hE.drew | exact (hE.alloc _).drew | exact hE))
      (first
        | ((with_reducible show (if Region.wanted (⟨some 22, _, _, _, _, _⟩ : Oper) _ = true then _ else _)); refine step_append_rd bt (ho3.ext (((Ext.refl _).alloc _).drew)) ((rd_lit w3 _ [35] (by rfl) (by simp) 1 _ (by rfl) (by rfl)).ext (Ext.refl _).drew) (by rfl) _ _ (by rfl) (by rfl) (by rfl) (by simp; omega) (hE.alloc _).drew.size ?_; intro v4 w4 ho4 hb4; replace hE := (hE.alloc _).drew.below hb4 (Nat.le_refl _))
        | ((with_reducible show (if Region.wanted (⟨some 25, _, _, _, _, _⟩ : Oper) _ = true then _ else _)); refine step_append_st bt s ho4 (by rfl) _ _ (by rfl) (by rfl) (by rfl) (by simp; omega) hE.size ?_; intro v5 w5 ho5 hb5; replace hE := hE.below hb5 (Nat.le_refl _))
        | ((with_reducible show (if Region.wanted (⟨some 28, _, _, _, _, _⟩ : Oper) _ = true then _ else _)); refine step_append_st bt t ho5 (by rfl) _ _ (by rfl) (by rfl) (by rfl) (by simp; omega) hE.size ?_; intro v6 w6 ho6 hb6; replace hE := hE.below hb6 (Nat.le_refl _)))
    go_wp2_with fail
    go_ret2
    refine ⟨_, rfl, ?_, hx0.trans hE⟩
    have := ho6.more (base' := w.heap.size) (by omega)
    simpa [errB] using this

end Go.Proofs.YtbodppfpmpmadaaGreat

