/- The contracts of the functions that read a file. -/
import Derived.Test.YtnlfcknpmemhfaaRdE
import Derived.Test.YtnlfcknpmemhfaaKit
import Derived.Lib.IndexAny
namespace Go.Proofs.Ytnlfcknpmemhfaa
open Go.RowKit

theorem u8_mod (b : UInt8) : ((b.toNat : Int) % 256).toNat.toUInt8 = b := by
  have h : b.toNat < 256 := b.toNat_lt
  have h1 : ((b.toNat : Int) % 256).toNat = b.toNat := by omega
  rw [h1]
  simp

/-- A byte that is read, and is one of these: as the program and as the document ask it. -/
theorem must_byte {s s1 : List UInt8 × Int} {b : UInt8} (m : List UInt8) (h : rB 1 s = ([b], s1)) : rMust m s = rW (!m.contains b) s1 := by
  unfold rMust isOf
  rw [rF_byte h]
  dsimp only
  rw [u8_mod, ← Lib.contains_iff_indexByte]

/-- What is read of a file. -/
def readFileS (l : List UInt8) : List UInt8 × Int :=
  if (rMust [251] (l, 0)).2 = 0 then (if 0 < (rMust [251] (l, 0)).1.length then ((rMust [251] (l, 0)).1, 0) else ([], 4)) else ([], (rMust [251] (l, 0)).2)

/-- A text and an error. -/
def RetS (w : World) (x : List UInt8) (r : Int) (e : Ending) (w' : World) : Prop := e = .returned (.tuple #[.string (strL x), .int .i64 r]) ∧ Ext w w'

set_option maxRecDepth 100000 in
set_option maxHeartbeats 800000 in
theorem readFile_len (w : World) (v : Value) (l x : List UInt8) (r : Int) (hr : Rd w v l) (hx : readFileS l = (x, r)) :
    Calls Try.prog 52 #[v] w (RetS w x r) := by
  obtain ⟨l1, e1, hq⟩ : ∃ l1 e1, rMust [251] (l, 0) = (l1, e1) := ⟨_, _, rfl⟩
  unfold readFileS at hx
  rw [hq] at hx
  dsimp only at hx
  have HQ := Lib.hid hq
  have R0 := Rdr.new hr 0 93
  obtain ⟨A0, cap0, rfl, y1, y2, y3, y4⟩ := hr
  clear hq y1 y2 y3 y4
  by_cases he : e1 = 0
  · subst he
    by_cases hl : 0 < l1.length
    · have hz : ((l1.length : Int) == 0) = false := by simp only [beq_eq_false_iff_ne, ne_eq]; omega
      simp only [↓reduceIte, hl, Prod.mk.injEq] at hx
      obtain ⟨rfl, rfl⟩ := hx
      go_enter Try.func52, Try.ntmps52
      go_wp2_with (first
        | (go_at_call 73; refine (must_m w _ w.heap.size (l, 0) _ [251] (R0.grow ((Ext.refl _).alloc _)) (rd_lit _ _ [251] (by rfl) (by simp) 1 _ (by rfl) (by simp)) (by simp [Value.ownBlock]) _ HQ.out).mono ?_; rintro e w1 ⟨rfl, R1, O1⟩; have c1 := R1.c1; obtain ⟨v1, c0, hr1⟩ := R1.c0; have HR1 := Lib.hid (hr1.ext R1.ext); obtain ⟨A1, cap1, rfl, z1, z2, z3, z4⟩ := hr1; clear z3 z4; dsimp only at c0 c1; unfold maxLen at z2)
        | ((with_reducible show wpList _ _ _ (⟨some 40, _, _, _, _, _⟩ :: _) _ _); refine wpl_str bt HR1.out rfl _ rfl rfl ?_))
      go_ret2
      exact ⟨rfl, R1.ext⟩
    · simp only [↓reduceIte, hl, Prod.mk.injEq] at hx
      obtain ⟨rfl, rfl⟩ := hx
      obtain rfl : l1 = [] := by simpa using hl
      clear hl
      go_enter Try.func52, Try.ntmps52
      go_wp2_with (first
        | (go_at_call 73; refine (must_m w _ w.heap.size (l, 0) _ [251] (R0.grow ((Ext.refl _).alloc _)) (rd_lit _ _ [251] (by rfl) (by simp) 1 _ (by rfl) (by simp)) (by simp [Value.ownBlock]) _ HQ.out).mono ?_; rintro e w1 ⟨rfl, R1, O1⟩; have c1 := R1.c1; have f1 := R1.f1; obtain ⟨v1, c0, hr1⟩ := R1.c0; obtain ⟨A1, cap1, rfl, z1, z2, z3, z4⟩ := hr1; clear z3 z4; dsimp only at c0 c1; unfold maxLen at z2; have c1' := World.cell?_setCell_same w1 ⟨w.heap.size, 1, none⟩ (.int .i64 4) c1))
      go_region
      all_goals
        go_wp2_with fail
        go_ret2
        exact ⟨rfl, (R1.set1 4).ext.drew⟩
  · simp only [he, ↓reduceIte, Prod.mk.injEq] at hx
    obtain ⟨rfl, rfl⟩ := hx
    have hb : (e1 == 0) = false := by simpa using he
    go_enter Try.func52, Try.ntmps52
    go_wp2_with (first
      | (go_at_call 73; refine (must_m w _ w.heap.size (l, 0) _ [251] (R0.grow ((Ext.refl _).alloc _)) (rd_lit _ _ [251] (by rfl) (by simp) 1 _ (by rfl) (by simp)) (by simp [Value.ownBlock]) _ HQ.out).mono ?_; rintro e w1 ⟨rfl, R1, O1⟩; have c1 := R1.c1))
    go_region
    all_goals
      go_wp2_with fail
      go_ret2
      exact ⟨rfl, R1.ext.drew⟩

theorem byte_eq (b k : UInt8) : ((b.toNat : Int) == (k.toNat : Int)) = (b == k) := by
  by_cases h : b = k
  · subst h; simp
  · have : ¬ ((b.toNat : Int) = (k.toNat : Int)) := fun e => h (UInt8.toNat_inj.1 (by omega))
    rw [beq_eq_false_iff_ne.2 this, beq_eq_false_iff_ne.2 h]
theorem rW_len (b : Bool) (s : List UInt8 × Int) : (rW b s).1 = s.1 := by
  unfold rW
  split <;> rfl
theorem rF_len (n : Int) (s : List UInt8 × Int) : (rF n s).2.1.length ≤ s.1.length := by
  unfold rF
  split
  · split <;> simp
  · exact Nat.le_refl _
theorem rMust_len (m : List UInt8) (s : List UInt8 × Int) : (rMust m s).1.length ≤ s.1.length := by
  unfold rMust
  rw [rW_len]
  exact rF_len 1 s

set_option maxRecDepth 100000 in
set_option maxHeartbeats 2000000 in
theorem readFile_ref (w : World) (v : Value) (l x : List UInt8) (r : Int) (hr : Rd w v l) (hll : l.length ≤ 8000000) (hx : readFileS l = (x, r)) :
    Calls Try.prog 60 #[v] w (RetS w x r) := by
  obtain ⟨b, s1, hb1⟩ := rB_one (l, 0)
  have hmb := must_byte [251] hb1
  have hlen := rMust_len [251] (l, 0)
  obtain ⟨l1, e1, hq⟩ : ∃ l1 e1, rMust [251] (l, 0) = (l1, e1) := ⟨_, _, rfl⟩
  unfold readFileS at hx
  rw [hq] at hx hmb hlen
  dsimp only at hx hlen
  have hk : ((b.toNat : Int) != 251) = !(b == 251) := congrArg not (byte_eq b 251)
  rw [List.contains_cons, List.contains_nil, Bool.or_false] at hmb
  obtain ⟨q, hbq⟩ : ∃ q, (!(b == 251)) = q := ⟨_, rfl⟩
  rw [hbq] at hmb hk
  have HQ := Lib.hid hmb.symm
  have HB := Lib.hid hb1
  have R0 := Rdr.new hr 0 102
  obtain ⟨A0, cap0, rfl, y1, y2, y3, y4⟩ := hr
  clear hq y1 y2 y3 y4 hmb hb1 hbq
  by_cases he : e1 = 0
  · subst he
    have hR : rR (l1, 0) = (l1, ([], 0)) := rfl
    have HRR := Lib.hid hR
    clear hR
    by_cases hl : 0 < l1.length
    · simp only [↓reduceIte, hl, Prod.mk.injEq] at hx
      obtain ⟨rfl, rfl⟩ := hx
      have hs : ((strL l1).toList == []) = false := by rw [strL_tl]; cases l1 with | nil => simp at hl | cons => rfl
      go_enter Try.func60, Try.ntmps60
      go_wp2_with (first
        | (go_at_call 79; refine (byte_m w _ w.heap.size (l, 0) b s1 R0 HB.out).mono ?_; rintro e w1 ⟨rfl, R1, O1⟩)
        | (go_at_call 80; refine (wrong_m w _ w.heap.size s1 _ q R1 HQ.out).mono ?_; rintro e w2 ⟨rfl, R2, O2⟩)
        | (go_at_call 83; refine (rest_r w _ w.heap.size _ _ _ R2 (by simp; omega) HRR.out).mono ?_; rintro e w3 ⟨v3, rfl, ho, R3, O3⟩; have c1 := R3.c1; dsimp only at c1)
        | ((with_reducible show wpList _ _ _ (⟨some 18, _, _, _, _, _⟩ :: _) _ _); refine wpl_str bt ho.rd rfl _ rfl rfl ?_))
      go_region
      all_goals
        go_wp2_with fail
        go_ret2
        exact ⟨rfl, R3.ext.drew⟩
    · simp only [↓reduceIte, hl, Prod.mk.injEq] at hx
      obtain ⟨rfl, rfl⟩ := hx
      obtain rfl : l1 = [] := by simpa using hl
      have hs : (strL []).toList = [] := by rw [strL_tl]
      clear hl
      go_enter Try.func60, Try.ntmps60
      go_wp2_with (first
        | (go_at_call 79; refine (byte_m w _ w.heap.size (l, 0) b s1 R0 HB.out).mono ?_; rintro e w1 ⟨rfl, R1, O1⟩)
        | (go_at_call 80; refine (wrong_m w _ w.heap.size s1 _ q R1 HQ.out).mono ?_; rintro e w2 ⟨rfl, R2, O2⟩)
        | (go_at_call 83; refine (rest_r w _ w.heap.size _ _ _ R2 (by simp) HRR.out).mono ?_; rintro e w3 ⟨v3, rfl, ho, R3, O3⟩; have c1 := R3.c1; have f1 := R3.f1; dsimp only at c1; have c1' := World.cell?_setCell_same w3 ⟨w.heap.size, 1, none⟩ (.int .i64 4) c1)
        | ((with_reducible show wpList _ _ _ (⟨some 18, _, _, _, _, _⟩ :: _) _ _); refine wpl_str bt ho.rd rfl _ rfl rfl ?_))
      go_region
      all_goals
        go_wp2_with fail
        go_ret2
        exact ⟨rfl, (R3.set1 4).ext.drew⟩
  · simp only [he, ↓reduceIte, Prod.mk.injEq] at hx
    obtain ⟨rfl, rfl⟩ := hx
    have hR : rR (l1, e1) = ([], (l1, e1)) := by simp [rR, he]
    have HRR := Lib.hid hR
    clear hR
    have hb : (e1 == 0) = false := by simpa using he
    go_enter Try.func60, Try.ntmps60
    go_wp2_with (first
      | (go_at_call 79; refine (byte_m w _ w.heap.size (l, 0) b s1 R0 HB.out).mono ?_; rintro e w1 ⟨rfl, R1, O1⟩)
      | (go_at_call 80; refine (wrong_m w _ w.heap.size s1 _ q R1 HQ.out).mono ?_; rintro e w2 ⟨rfl, R2, O2⟩)
      | (go_at_call 83; refine (rest_r w _ w.heap.size _ _ _ R2 (by simp; omega) HRR.out).mono ?_; rintro e w3 ⟨v3, rfl, ho, R3, O3⟩; have c1 := R3.c1; dsimp only at c1)
      | ((with_reducible show wpList _ _ _ (⟨some 18, _, _, _, _, _⟩ :: _) _ _); refine wpl_str bt ho.rd rfl _ rfl rfl ?_))
    go_region
    all_goals
      go_wp2_with fail
      go_ret2
      exact ⟨rfl, R3.ext.drew⟩
end Go.Proofs.Ytnlfcknpmemhfaa
