/- The contracts of 'must' and of the reference's fields. (Printed by gen_rdC.py.) -/
import Derived.Test.YtnlfcknpmemhfaaRdB
import Derived.Test.YtnlfcknpmemhfaaLenE
import Derived.Laws.OwnMore
namespace Go.Proofs.Ytnlfcknpmemhfaa
open Go.RowKit

theorem Rd.on {g : Nat} {w w' : World} {v : Value} {l : List UInt8} (h : Rd w v l) (k : On g w w') (hne : v.ownBlock ≠ some g) : Rd w' v l := by
  obtain ⟨A, cap, rfl, h1, h2, h3, h4⟩ := h
  refine ⟨A, cap, rfl, h1, h2, h3, fun hl => ?_⟩
  obtain ⟨b, o, rfl, hc⟩ := h4 hl
  refine ⟨b, o, rfl, fun j hj => k.cell (hc j hj) (fun e => hne (by simp [Value.ownBlock, ← e]))⟩

/-- Is a byte one of these? As the program asks it. -/
def isOf (m : List UInt8) (x : Int) : Bool := decide (0 ≤ Lib.indexByte m (x % 256).toNat.toUInt8)
def rMust (m : List UInt8) (s : List UInt8 × Int) : List UInt8 × Int := rW (!isOf m (rF 1 s).1) (rF 1 s).2

set_option maxRecDepth 100000 in
set_option maxHeartbeats 1000000 in
theorem must_m (a w : World) (g : Nat) (s : List UInt8 × Int) (vm : Value) (m : List UInt8) (h : Rdr a w g s) (hm : Rd w vm m) (hne : vm.ownBlock ≠ some g) (s' : List UInt8 × Int) (hx : rMust m s = s') :
    Calls Try.prog 73 #[.pointer (some ⟨g, 0, none⟩), vm] w (RetR a w g (.tuple #[]) s') := by
  have HM := Lib.hid hm
  have H := Lib.hid h
  clear h hm
  obtain ⟨x, l1, e1, hq⟩ : ∃ x l1 e1, rF 1 s = (x, (l1, e1)) := ⟨_, _, _, rfl⟩
  have HQ := Lib.hid hq
  unfold rMust at hx
  rw [hq] at hx
  clear hq
  obtain ⟨q, hi⟩ : ∃ q, Lib.indexByte m (x % 256).toNat.toUInt8 = q := ⟨_, rfl⟩
  unfold isOf at hx
  rw [hi] at hx
  have HI := Lib.hid hi
  clear hi
  by_cases he : e1 = 0
  · subst he
    by_cases hq : 0 ≤ q
    · have hs : s' = (l1, 0) := by rw [← hx]; simp [rW, hq]
      subst hs
      have hd : decide (q < 0) = false := by simpa using hq
      clear hx
      go_enter Try.func73, Try.ntmps73
      go_wp2_with (first
        | (go_at_call 75; refine (fixed_m a _ g s 1 x _ H.out (by omega) HQ.out).mono ?_; rintro e w1 ⟨rfl, R1, O1⟩; have c1 := R1.c1)
        | (go_at_call 71; refine (idx_b _ _ m _ (HM.out.on O1 hne)).mono ?_; rintro e w2 ⟨rfl, rfl⟩; rw [HI.out]))
      refine bodyPost_end (results_none rfl _ _ _) rfl ?_
      exact ⟨rfl, R1, O1⟩
    · have hs : s' = (l1, 5) := by rw [← hx]; simp [rW, hq]
      subst hs
      have hd : decide (q < 0) = true := by simpa using hq
      clear hx
      go_enter Try.func73, Try.ntmps73
      go_wp2_with (first
        | (go_at_call 75; refine (fixed_m a _ g s 1 x _ H.out (by omega) HQ.out).mono ?_; rintro e w1 ⟨rfl, R1, O1⟩; have c1 := R1.c1; have f1 := R1.f1)
        | (go_at_call 71; refine (idx_b _ _ m _ (HM.out.on O1 hne)).mono ?_; rintro e w2 ⟨rfl, rfl⟩; rw [HI.out]))
      refine bodyPost_end (results_none rfl _ _ _) rfl ?_
      exact ⟨rfl, R1.set1 5, O1.set 1 _⟩
  · have hs : s' = (l1, e1) := by rw [← hx]; simp [rW, he]
    subst hs
    have hb : (e1 == 0) = false := by simpa using he
    clear hx
    go_enter Try.func73, Try.ntmps73
    go_wp2_with (go_at_call 75; refine (fixed_m a _ g s 1 x _ H.out (by omega) HQ.out).mono ?_; rintro e w1 ⟨rfl, R1, O1⟩; have c1 := R1.c1)
    refine bodyPost_end (results_none rfl _ _ _) rfl ?_
    exact ⟨rfl, R1, O1⟩

section
variable {P : Program} {ops : Array Oper} {rest : List Oper} {o : Oper} {a : Act} {w : World} {Q : Exit → Act → World → Prop}
theorem bc_made (n : Nat) : (madeCells (Value.int .u8 0).cells (n * 1)).toList = bc (List.replicate n 0) := by
  show (madeCells #[Value.int .u8 0] (n * 1)).toList = _
  rw [toList_madeCells_one]
  simp [bc]

/-- 'make([]byte, n)'. -/
theorem wpl_makeN (hT : BT P) (n : Nat) (hn : n ≤ 100000000)
    (hgd : o.guard = none) (x c : Operand) (kl kc : IntKind) (ho : o.op = .makeSlice 22 x c) (hx : a.eval x = .int kl (n : Int)) (hc : a.eval c = .int kc (n : Int))
    (h : ∀ v' w', Own w' w.heap.size v' (List.replicate n 0) → Ext w w' → wpList P ops Q rest (a.put o.dst v') w') : wpList P ops Q (o :: rest) a w := by
  obtain ⟨i, hi, hz, hs1, hb1⟩ := hT.info
  obtain ⟨w', hrun, h1, h2⟩ := run_make_full (P := P) w w.heap.size 22 5 i (.int .u8 0) 1 hT.sl hi hz hs1 kl kc n (by rw [hb1]; omega) (by unfold maxLen; omega) (Nat.le_refl _)
  refine wpl_val hgd (v := .slice (some ⟨w.heap.size, 0, none⟩) n n) (w' := w') ?_ (h _ _ ?_ ((Below.refl _ w).grown h2 (Nat.le_refl _) (fun k hk => by cases hk)))
  · unfold execOp
    simp only [ho, hx, hc, Sem.run_bind, Sem.run_pure, Result.andThen_ok, hrun]
  · rw [bc_made] at h1
    unfold Own
    rw [List.length_replicate]
    exact h1

theorem wpl_cut_hi (hT : BT P) {b : World} {v : Value} {l : List UInt8} (hr : Rd b v l) (j : Int) (h0 : 0 ≤ j) (h1 : j ≤ l.length)
    (hgd : o.guard = none) (x hi : Operand) (k : IntKind) (ho : o.op = .slice 22 x none (some hi) none) (hx : a.eval x = v) (hhi : a.eval hi = .int k j)
    (h : ∀ A' m c', Rd b (.slice A' m c') (l.take j.toNat) → wpList P ops Q rest (a.put o.dst (.slice A' m c')) w) : wpList P ops Q (o :: rest) a w := by
  obtain ⟨A, cap, rfl, hle, hm, _⟩ := id hr
  have hc := Rd.cut hr 0 j.toNat (by omega) (by omega)
  rw [List.drop_zero] at hc
  refine wpl_val hgd (v := .slice (if cap = 0 then A else A.map (·.add (0 * 1))) (j.toNat - 0) (cap - 0)) (w' := w) ?_ (h _ _ _ hc)
  unfold execOp
  have hb : j ≤ (cap : Int) := by omega
  simp [ho, hx, hhi, Instr.sliceAt, Instr.slice, run_underlying hT.sl, Instr.sliceBounds, run_sliceBound, h0, hb, sizeOf_u8 hT]
end

/-- Bytes that are read: as many as are asked. -/
def rB (n : Nat) (s : List UInt8 × Int) : List UInt8 × (List UInt8 × Int) := if s.2 = 0 then (if s.1.length < n then (List.replicate n 0, (s.1, 4)) else (s.1.take n, (s.1.drop n, 0))) else (List.replicate n 0, s)
theorem rB_length (n : Nat) (s : List UInt8 × Int) : (rB n s).1.length = n := by
  unfold rB
  split
  · split
    · simp
    · simp; omega
  · simp
/-- A method that gives bytes that nobody else has. -/
def RetO (a w : World) (g : Nat) (l : List UInt8) (s : List UInt8 × Int) (e : Ending) (w' : World) : Prop := ∃ v, e = .returned v ∧ Own w' w.heap.size v l ∧ Rdr a w' g s ∧ On g w w'

set_option maxRecDepth 100000 in
set_option maxHeartbeats 1000000 in
theorem wrong_m (a w : World) (g : Nat) (s s' : List UInt8 × Int) (b : Bool) (h : Rdr a w g s) (hx : rW b s = s') :
    Calls Try.prog 80 #[.pointer (some ⟨g, 0, none⟩), .bool b] w (RetR a w g (.tuple #[]) s') := by
  obtain ⟨l, e⟩ := s
  obtain ⟨v, c0, hr⟩ := h.c0
  have c1 := h.c1
  have f0 := h.f0
  have f1 := h.f1
  try dsimp only at hr c1
  have HR := Lib.hid hr
  have H := Lib.hid h
  clear h hr
  by_cases he : e = 0
  · subst he
    cases b with
    | true =>
      have hs : s' = (l, 5) := by rw [← hx]; simp [rW]
      subst hs
      clear hx
      go_enter Try.func80, Try.ntmps80
      go_wp2_with fail
      refine bodyPost_end (results_none rfl _ _ _) rfl ?_
      exact ⟨rfl, H.out.set1 5, (On.refl g w).set 1 _⟩
    | false =>
      have hs : s' = (l, 0) := by rw [← hx]; simp [rW]
      subst hs
      clear hx
      go_enter Try.func80, Try.ntmps80
      go_wp2_with fail
      refine bodyPost_end (results_none rfl _ _ _) rfl ?_
      exact ⟨rfl, H.out, On.refl g w⟩
  · have hs : s' = (l, e) := by rw [← hx]; simp [rW, he]
    subst hs
    have hb : (e == 0) = false := by simpa using he
    clear hx
    go_enter Try.func80, Try.ntmps80
    go_wp2_with fail
    refine bodyPost_end (results_none rfl _ _ _) rfl ?_
    exact ⟨rfl, H.out, On.refl g w⟩

set_option maxRecDepth 100000 in
set_option maxHeartbeats 1000000 in
theorem bytes_m (a w : World) (g : Nat) (s : List UInt8 × Int) (n : Nat) (x : List UInt8) (s' : List UInt8 × Int) (h : Rdr a w g s) (hn : n ≤ 100000) (hx : rB n s = (x, s')) :
    Calls Try.prog 86 #[.pointer (some ⟨g, 0, none⟩), .int .i64 (n : Int)] w (RetO a w g x s') := by
  obtain ⟨l, e⟩ := s
  obtain ⟨v, c0, hr⟩ := h.c0
  have c1 := h.c1
  have f0 := h.f0
  have f1 := h.f1
  try dsimp only at hr c1
  have HR := Lib.hid hr
  have H := Lib.hid h
  clear h hr
  obtain ⟨A, cap, rfl, hle, hm, hA, hc⟩ := id HR.out
  unfold maxLen at hm
  clear hA hc
  by_cases he : e = 0
  · subst he
    by_cases hl : l.length < n
    · simp only [rB, ↓reduceIte, hl, Prod.mk.injEq] at hx
      obtain ⟨rfl, rfl⟩ := hx
      have c1' := World.cell?_setCell_same w ⟨g, 1, none⟩ (.int .i64 4) c1
      go_enter Try.func86, Try.ntmps86
      go_wp2_with ((with_reducible show wpList _ _ _ (⟨some 29, _, _, _, _, _⟩ :: _) _ _); refine wpl_makeN bt n (by omega) rfl _ _ _ _ rfl rfl rfl ?_; intro v1 w1 ho hx1)
      go_ret
      refine ⟨_, rfl, ho.more (by simp), (H.out.set1 4).grow hx1, ((On.refl g w).set 1 _).ext hx1⟩
    · simp only [rB, ↓reduceIte, hl, Prod.mk.injEq] at hx
      obtain ⟨rfl, rfl⟩ := hx
      have c0a : (w.alloc (.cells #[] 5)).cell? ⟨g, 0, none⟩ = some (.slice A l.length cap) := ((Ext.refl w).alloc _).cell c0
      go_enter Try.func86, Try.ntmps86
      go_wp2_with (first
        | ((with_reducible show wpList _ _ _ (⟨some 36, _, _, _, _, _⟩ :: _) _ _); refine wpl_cut_hi bt HR.out (n : Int) (by omega) (by omega) rfl _ _ _ rfl rfl rfl ?_; intro A1 m1 cap1 hr1)
        | ((with_reducible show wpList _ _ _ (⟨some 37, _, _, _, _, _⟩ :: _) _ _); refine wpl_append_rd bt (own_nil w w.heap.size w.heap.size rfl (Nat.le_refl _)) ((hr1.ext H.out.ext).ext ((Ext.refl _).alloc _)) rfl _ _ rfl rfl rfl (by simp; omega) (by simp) ?_; intro v1 w1 ho hb1; have hx1 := ((Ext.refl w).alloc _).below hb1 (Nat.le_refl _); have c0' := hx1.cell c0; have f0' := (hx1.frozen H.out.lt).trans f0)
        | ((with_reducible show wpList _ _ _ (⟨some 44, _, _, _, _, _⟩ :: _) _ _); refine wpl_cut_lo bt HR.out (n : Int) (by omega) (by omega) rfl _ _ _ rfl rfl rfl ?_; intro A2 m2 cap2 hr2))
      go_ret
      refine ⟨_, rfl, ?_, by simpa using (H.out.grow hx1).set0 hr2, (On.of hx1).set 0 _⟩
      have := ho.on ((On.refl g _).set 0 (.slice A2 m2 cap2)) H.out.lt
      simpa using this
  · have hb : (e == 0) = false := by simpa using he
    simp only [rB, he, ↓reduceIte, Prod.mk.injEq] at hx
    obtain ⟨rfl, rfl⟩ := hx
    go_enter Try.func86, Try.ntmps86
    go_wp2_with ((with_reducible show wpList _ _ _ (⟨some 29, _, _, _, _, _⟩ :: _) _ _); refine wpl_makeN bt n (by omega) rfl _ _ _ _ rfl rfl rfl ?_; intro v1 w1 ho hx1)
    go_ret
    exact ⟨_, rfl, ho, H.out.grow hx1, On.of hx1⟩

end Go.Proofs.Ytnlfcknpmemhfaa
