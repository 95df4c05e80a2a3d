/- The reference's First and Last; are two OKs the same; the statement on reading. (Printed by gen_repJ.py.) -/
import Derived.Test.YtnlfcknpmemhfaaRdN
import Derived.Test.YtnlfcknpmemhfaaRepD
import Derived.Test.YtnlfcknpmemhfaaKept
namespace Go.Proofs.Ytnlfcknpmemhfaa
open Go.RowKit

set_option maxHeartbeats 1000000 in
theorem firstRef_c (w : World) (v : Value) (l : List UInt8) (c : Int) (hr : Rd w v l) :
    Calls Try.prog 61 #[v, .int .u32 c] w fun e w' => e = .returned (.int .i64 (firstR l c)) ∧ w = w' := by
  cases l with
  | nil =>
    obtain ⟨A, cap, rfl, hle, hm, hA, hc⟩ := hr
    clear hA hc
    unfold firstR
    go_enter Try.func61, Try.ntmps61
    go_wp2_with fail
    go_ret
    exact ⟨rfl, rfl⟩
  | cons b t =>
    obtain ⟨A, cap, rfl, hle, hm, hA, hc⟩ := hr
    obtain ⟨g, o, rfl, hc2⟩ := hc (by simp)
    have hcell : w.cell? ⟨g, o, none⟩ = some (.int .u8 (b.toNat : Int)) := by simpa using hc2 0 (by simp)
    clear hA hc hc2
    unfold maxLen at hm
    obtain ⟨r, h⟩ : ∃ r, firstR (b :: t) c = r := ⟨_, rfl⟩
    rw [h]
    obtain ⟨q, hq⟩ : ∃ q, hasB c 128 = q := ⟨_, rfl⟩
    have HQ := Lib.hid hq
    change (if b = 0 then 1 else if b = 255 then 2 else if b = 251 ∧ hasB c 128 = true then 4 else 0) = r at h
    rw [hq] at h
    clear hq
    by_cases h0 : b = 0
    · subst h0
      simp at h
      subst h
      go_enter Try.func61, Try.ntmps61
      go_wp2_with fail
      go_ret
      exact ⟨rfl, rfl⟩
    · rw [if_neg h0] at h
      have g0 := u8_ne h0
      by_cases h1 : b = 255
      · subst h1
        simp at h
        subst h
        clear g0
        go_enter Try.func61, Try.ntmps61
        go_wp2_with fail
        go_ret
        exact ⟨rfl, rfl⟩
      · rw [if_neg h1] at h
        have g1 := u8_ne h1
        by_cases h2 : b = 251
        · subst h2
          clear g0 g1
          cases q
          all_goals
            simp at h
            subst h
            go_enter Try.func61, Try.ntmps61
            go_wp2_with (go_at_call 69; refine (hasR_at _ _ _ _ HQ.out).mono ?_; rintro e wx ⟨rfl, rfl⟩)
            go_ret
            exact ⟨rfl, rfl⟩
        · have g2 := u8_ne h2
          simp [h2] at h
          subst h
          change ((b.toNat : Int) == 0) = false at g0
          change ((b.toNat : Int) == 255) = false at g1
          change ((b.toNat : Int) == 251) = false at g2
          go_enter Try.func61, Try.ntmps61
          go_wp2_with fail
          go_ret
          exact ⟨rfl, rfl⟩

set_option maxRecDepth 100000 in
set_option maxHeartbeats 1000000 in
theorem lastRef_c (w : World) (v : Value) (l : List UInt8) (c : Int) (hr : Rd w v l) :
    Calls Try.prog 62 #[v, .int .u32 c] w fun e w' => e = .returned (.int .i64 (lastR l c)) ∧ w = w' := by
  cases l with
  | nil =>
    obtain ⟨A, cap, rfl, hle, hm, hA, hc⟩ := hr
    clear hA hc
    unfold lastR
    go_enter Try.func62, Try.ntmps62
    go_wp2_with fail
    go_ret
    exact ⟨rfl, rfl⟩
  | cons b t =>
    obtain ⟨A, cap, rfl, hle, hm, hA, hc⟩ := hr
    obtain ⟨g, o, rfl, hc2⟩ := hc (by simp)
    have hcell : w.cell? ⟨g, o, none⟩ = some (.int .u8 (b.toNat : Int)) := by simpa using hc2 0 (by simp)
    clear hA hc hc2
    unfold maxLen at hm
    obtain ⟨r, h⟩ : ∃ r, lastR (b :: t) c = r := ⟨_, rfl⟩
    rw [h]
    obtain ⟨q, hq⟩ : ∃ q, hasB c 16777216 = q := ⟨_, rfl⟩
    have HQ := Lib.hid hq
    change (if b = 255 then 2 else if b ≠ 254 then 0 else if hasB c 16777216 = true then (if t.length + 1 < 16777215 then 1 else 0) else if t.length + 1 = 5 then 3 else 0) = r at h
    rw [hq] at h
    clear hq
    obtain ⟨n, hn⟩ : ∃ n, n = t.length + 1 := ⟨_, rfl⟩
    rw [← hn] at h
    rw [List.length_cons, ← hn] at hle ⊢
    have hn1 : 1 ≤ n := by omega
    clear hn
    by_cases h1 : b = 255
    · subst h1
      simp at h
      subst h
      go_enter Try.func62, Try.ntmps62
      go_wp2_with fail
      go_ret
      exact ⟨rfl, rfl⟩
    · rw [if_neg h1] at h
      have g1 := u8_ne h1
      by_cases h2 : b = 254
      · subst h2
        clear g1
        cases q
        · by_cases h5 : n = 5
          · simp [h5] at h
            subst h
            subst h5
            go_enter Try.func62, Try.ntmps62
            go_wp2_with (go_at_call 69; refine (hasR_at _ _ _ _ HQ.out).mono ?_; rintro e wx ⟨rfl, rfl⟩)
            go_ret
            exact ⟨rfl, rfl⟩
          · simp [h5] at h
            subst h
            have g5 : ((n : Int) == 5) = false := by simp only [beq_eq_false_iff_ne, ne_eq]; omega
            go_enter Try.func62, Try.ntmps62
            go_wp2_with (go_at_call 69; refine (hasR_at _ _ _ _ HQ.out).mono ?_; rintro e wx ⟨rfl, rfl⟩)
            go_ret
            exact ⟨rfl, rfl⟩
        · by_cases h5 : n < 16777215
          · rw [if_neg (by decide), if_pos rfl, if_pos h5] at h
            subst h
            clear hle hm
            have G5 := Lib.hid h5
            clear h5
            go_enter Try.func62, Try.ntmps62
            go_wp2_with (first | ((with_reducible show wpList _ _ _ (⟨some 23, _, _, _, _, _⟩ :: _) _ _); refine wpl_lss rfl _ _ _ _ rfl _ _ rfl rfl true (by have := G5.out; simp; omega) ?_) | (go_at_call 69; refine (hasR_at _ _ _ _ HQ.out).mono ?_; rintro e wx ⟨rfl, rfl⟩))
            go_ret
            exact ⟨rfl, rfl⟩
          · rw [if_neg (by decide), if_pos rfl, if_neg h5] at h
            subst h
            clear hle hm
            have G5 := Lib.hid h5
            clear h5
            go_enter Try.func62, Try.ntmps62
            go_wp2_with (first | ((with_reducible show wpList _ _ _ (⟨some 23, _, _, _, _, _⟩ :: _) _ _); refine wpl_lss rfl _ _ _ _ rfl _ _ rfl rfl false (by have := G5.out; simp; omega) ?_) | (go_at_call 69; refine (hasR_at _ _ _ _ HQ.out).mono ?_; rintro e wx ⟨rfl, rfl⟩))
            go_ret
            exact ⟨rfl, rfl⟩
      · have g2 := u8_ne h2
        simp [h2] at h
        subst h
        change ((b.toNat : Int) == 255) = false at g1
        change ((b.toNat : Int) == 254) = false at g2
        go_enter Try.func62, Try.ntmps62
        go_wp2_with fail
        go_ret
        exact ⟨rfl, rfl⟩


set_option maxRecDepth 100000 in
set_option maxHeartbeats 2000000 in
theorem sameOk_c (w : World) (a i st wn : Int) (info : ByteArray) (v1 v2 : Value) (trk : List UInt8) (h1 : Rd w v1 trk) (h2 : Rd w v2 trk) :
    Calls Try.prog 54 #[.agg #[.int .u64 a, .int .u64 i, .int .u16 st, .int .u16 wn, .string info, v1], .agg #[.int .u64 a, .int .u64 i, .int .u16 st, .int .u16 wn, .string info, v2]] w (RetTrue w) := by
  have K1 := Lib.hid h1
  have K2 := Lib.hid h2
  obtain ⟨A1, p1, rfl, _, _, _, _⟩ := h1
  obtain ⟨A2, p2, rfl, _, _, _, _⟩ := h2
  go_enter Try.func54, Try.ntmps54
  go_wp2_with (go_at_call 19; refine (same_c _ _ _ _ _ (K1.out.ext (((Ext.refl _).alloc _).alloc _)) (K2.out.ext (((Ext.refl _).alloc _).alloc _)) true (by simp)).mono ?_; rintro e wq ⟨rfl, rfl⟩)
  go_ret
  exact ⟨rfl, ((Ext.refl _).alloc _).alloc _⟩

theorem rOkP (w : World) (v : Value) (l : List UInt8) (c a i st wn : Int) (info trk : List UInt8) (r : Int) (hr : Rd w v l) (hll : l.length ≤ 8000000) (h : okS l c = ((a, i, st, wn, info, trk), r)) :
    Calls Try.prog 50 #[v, .int .u32 c] w fun e w' => ∃ vt, e = .returned (.tuple #[.agg #[.int .u64 a, .int .u64 i, .int .u16 st, .int .u16 wn, .string (strL info), vt], .int .i64 r]) ∧ Rd w' vt trk ∧ Ext w w' := by
  have := readOk_len w v l c hr hll
  rw [h] at this
  exact this
theorem rOkR (w : World) (v : Value) (l : List UInt8) (c a i st wn : Int) (info trk : List UInt8) (r : Int) (hr : Rd w v l) (hll : l.length ≤ 8000000) (h : okS l c = ((a, i, st, wn, info, trk), r)) :
    Calls Try.prog 53 #[v, .int .u32 c] w fun e w' => ∃ vt, e = .returned (.tuple #[.agg #[.int .u64 a, .int .u64 i, .int .u16 st, .int .u16 wn, .string (strL info), vt], .int .i64 r]) ∧ Rd w' vt trk ∧ Ext w w' := by
  have := readOk_ref w v l c hr hll
  rw [h] at this
  exact this
theorem rErrP (w : World) (v : Value) (l : List UInt8) (x : Int) (t u : List UInt8) (r : Int) (hr : Rd w v l) (_hll : l.length ≤ 8000000) (h : errS l = ((x, t, u), r)) :
    Calls Try.prog 51 #[v] w fun e w' => e = .returned (.tuple #[.agg #[.int .u16 x, .string (strL t), .string (strL u)], .int .i64 r]) ∧ Ext w w' := by
  have := readErr_len w v l hr
  rw [h] at this
  exact this
theorem rErrR (w : World) (v : Value) (l : List UInt8) (x : Int) (t u : List UInt8) (r : Int) (hr : Rd w v l) (hll : l.length ≤ 8000000) (h : errS l = ((x, t, u), r)) :
    Calls Try.prog 55 #[v] w fun e w' => e = .returned (.tuple #[.agg #[.int .u16 x, .string (strL t), .string (strL u)], .int .i64 r]) ∧ Ext w w' := by
  have := readErr_ref w v l hr hll
  rw [h] at this
  exact this
theorem rEofP (w : World) (v : Value) (l : List UInt8) (x y : Int) (r : Int) (hr : Rd w v l) (_hll : l.length ≤ 8000000) (h : eofS l = ((x, y), r)) :
    Calls Try.prog 56 #[v] w fun e w' => e = .returned (.tuple #[.agg #[.int .u16 x, .int .u16 y], .int .i64 r]) ∧ Ext w w' := by
  have := readEof_len w v l hr
  rw [h] at this
  exact this
theorem rEofR (w : World) (v : Value) (l : List UInt8) (x y : Int) (r : Int) (hr : Rd w v l) (_hll : l.length ≤ 8000000) (h : eofS l = ((x, y), r)) :
    Calls Try.prog 57 #[v] w fun e w' => e = .returned (.tuple #[.agg #[.int .u16 x, .int .u16 y], .int .i64 r]) ∧ Ext w w' := by
  have := readEof_ref w v l hr
  rw [h] at this
  exact this
theorem rPrepP (w : World) (v : Value) (l : List UInt8) (x y z u : Int) (r : Int) (hr : Rd w v l) (_hll : l.length ≤ 8000000) (h : prepS l = ((x, y, z, u), r)) :
    Calls Try.prog 58 #[v] w fun e w' => e = .returned (.tuple #[.agg #[.int .u32 x, .int .u16 y, .int .u16 z, .int .u16 u], .int .i64 r]) ∧ Ext w w' := by
  have := readPrep_len w v l hr
  rw [h] at this
  exact this
theorem rPrepR (w : World) (v : Value) (l : List UInt8) (x y z u : Int) (r : Int) (hr : Rd w v l) (_hll : l.length ≤ 8000000) (h : prepS l = ((x, y, z, u), r)) :
    Calls Try.prog 59 #[v] w fun e w' => e = .returned (.tuple #[.agg #[.int .u32 x, .int .u16 y, .int .u16 z, .int .u16 u], .int .i64 r]) ∧ Ext w w' := by
  have := readPrep_ref w v l hr
  rw [h] at this
  exact this

set_option maxRecDepth 100000 in
set_option maxHeartbeats 8000000 in
theorem replyReads_c (w : World) (v : Value) (l : List UInt8) (c : Int) (hr : Rd w v l) : Calls Try.prog 12 #[v, .int .u32 c] w (RetTrue w) := by
  have HR := Lib.hid hr
  obtain ⟨A, cap, rfl, hle, hm, hA, hc⟩ := hr
  unfold maxLen at hm
  clear hA hc
  have hE := Ext.refl w
  by_cases hb : 3000 < l.length
  · go_enter Try.func12, Try.ntmps12
    go_wp2_with (go_at_call 14; refine (lives14_c _).mono ?_; rintro e w1 ⟨rfl, hx1⟩)
    go_ret
    exact ⟨rfl, hx1⟩
  obtain ⟨a, i, st, wn, info, trk, r1, k1⟩ : ∃ a i st wn info trk r, okS l c = ((a, i, st, wn, info, trk), r) := ⟨_, _, _, _, _, _, _, rfl⟩
  obtain ⟨ex, et, eu, r2, k2⟩ : ∃ x t u r, errS l = ((x, t, u), r) := ⟨_, _, _, _, rfl⟩
  obtain ⟨fx, fy, r3, k3⟩ : ∃ x y r, eofS l = ((x, y), r) := ⟨_, _, _, rfl⟩
  obtain ⟨px, py, pz, pu, r4, k4⟩ : ∃ x y z u r, prepS l = ((x, y, z, u), r) := ⟨_, _, _, _, _, rfl⟩
  obtain ⟨fl, r5, k5⟩ : ∃ x r, readFileS l = (x, r) := ⟨_, _, rfl⟩
  have K1 := Lib.hid k1
  have K2 := Lib.hid k2
  have K3 := Lib.hid k3
  have K4 := Lib.hid k4
  have K5 := Lib.hid k5
  clear k1 k2 k3 k4 k5
  go_enter Try.func12, Try.ntmps12
  go_wp2_with (first
    | (go_at_call 14; refine (lives14_c _).mono ?_; rintro e w1 ⟨rfl, hx⟩; replace hE := hE.trans hx)
    | (go_at_call 17; refine (own_c _ _ l (HR.out.ext hE) (by omega)).mono ?_; rintro e w2 ⟨vo, rfl, ho, hx⟩; replace hE := hE.trans hx)
    | (go_at_call 50; refine (rOkP _ _ l c _ _ _ _ _ _ _ (ho.rd) (by omega) K1.out).mono ?_; rintro e w2 ⟨vt1, rfl, T1, hx⟩; replace hE := hE.trans hx; replace ho := ho.ext hx; obtain ⟨A1, q1, rfl, _, _, _, _⟩ := id T1)
    | ((with_reducible show wpList _ _ _ (⟨none, Op.store 28 (.tmp 6) _, _, _, _, _⟩ :: _) _ _); refine wpl_store_box rfl _ _ _ rfl _ [.int .u64 a, .int .u64 i, .int .u16 st, .int .u16 wn, .string (strL info), .slice A1 trk.length q1] rfl rfl (BoxF.new _ _ _) rfl (by kernel_rfl) (by rfl) ?_; intro w3 B1 O3; have hx := ((Ext.refl _).alloc _).on O3 (Nat.le_refl _); replace hE := hE.trans hx; replace ho := ho.ext hx; replace T1 := T1.ext hx)
    | (go_at_call 53; refine (rOkR _ _ l c _ _ _ _ _ _ _ (HR.out.ext hE) (by omega) K1.out).mono ?_; rintro e w2 ⟨vt2, rfl, T2, hx⟩; replace hE := hE.trans hx; replace ho := ho.ext hx; replace T1 := T1.ext hx; replace B1 := B1.ext hx; obtain ⟨A2, q2, rfl, _, _, _, _⟩ := id T2)
    | ((with_reducible show wpList _ _ _ (⟨none, Op.store 28 (.tmp 8) _, _, _, _, _⟩ :: _) _ _); refine wpl_store_box rfl _ _ _ rfl _ [.int .u64 a, .int .u64 i, .int .u16 st, .int .u16 wn, .string (strL info), .slice A2 trk.length q2] rfl rfl (BoxF.new _ _ _) rfl (by kernel_rfl) (by rfl) ?_; intro w3 B2 O3; have hx := ((Ext.refl _).alloc _).on O3 (Nat.le_refl _); replace hE := hE.trans hx; replace ho := ho.ext hx; replace T1 := T1.ext hx; replace B1 := B1.ext hx; replace T2 := T2.ext hx)
    | ((with_reducible show wpList _ _ _ (⟨some 37, _, _, _, _, _⟩ :: _) _ _); refine wpl_load_box rfl _ _ rfl _ rfl B1 Try.underlying28 rfl (by kernel_rfl) ?_)
    | ((with_reducible show wpList _ _ _ (⟨some 38, _, _, _, _, _⟩ :: _) _ _); refine wpl_load_box rfl _ _ rfl _ rfl B2 Try.underlying28 rfl (by kernel_rfl) ?_)
    | (go_at_call 54; refine (sameOk_c _ a i st wn (strL info) _ _ trk T1 T2).mono ?_; rintro e w2 ⟨rfl, hx⟩; replace hE := hE.trans hx; replace ho := ho.ext hx; clear T1 T2 B1 B2)
    | (go_at_call 51; refine (rErrP _ _ l _ _ _ _ (ho.rd) (by omega) K2.out).mono ?_; rintro e w2 ⟨rfl, hx⟩; replace hE := hE.trans hx; replace ho := ho.ext hx)
    | ((with_reducible show wpList _ _ _ (⟨none, Op.store 30 (.tmp 10) _, _, _, _, _⟩ :: _) _ _); refine wpl_store_box rfl _ _ _ rfl _ [.int .u16 ex, .string (strL et), .string (strL eu)] rfl rfl (BoxF.new _ _ _) rfl (by kernel_rfl) (by rfl) ?_; intro w3 B3 O3; have hx := ((Ext.refl _).alloc _).on O3 (Nat.le_refl _); replace hE := hE.trans hx; replace ho := ho.ext hx)
    | (go_at_call 55; refine (rErrR _ _ l _ _ _ _ (HR.out.ext hE) (by omega) K2.out).mono ?_; rintro e w2 ⟨rfl, hx⟩; replace hE := hE.trans hx; replace ho := ho.ext hx; replace B3 := B3.ext hx)
    | ((with_reducible show wpList _ _ _ (⟨none, Op.store 30 (.tmp 11) _, _, _, _, _⟩ :: _) _ _); refine wpl_store_box rfl _ _ _ rfl _ [.int .u16 ex, .string (strL et), .string (strL eu)] rfl rfl (BoxF.new _ _ _) rfl (by kernel_rfl) (by rfl) ?_; intro w3 B4 O3; have hx := ((Ext.refl _).alloc _).on O3 (Nat.le_refl _); replace hE := hE.trans hx; replace ho := ho.ext hx; replace B3 := B3.ext hx)
    | ((with_reducible show wpList _ _ _ (⟨some 56, _, _, _, _, _⟩ :: _) _ _); refine wpl_load_box rfl _ _ rfl _ rfl B3 Try.underlying30 rfl (by kernel_rfl) ?_)
    | ((with_reducible show wpList _ _ _ (⟨some 57, _, _, _, _, _⟩ :: _) _ _); refine wpl_load_box rfl _ _ rfl _ rfl B4 Try.underlying30 rfl (by kernel_rfl) ?_)
    | (go_at_call 56; refine (rEofP _ _ l _ _ _ (ho.rd) (by omega) K3.out).mono ?_; rintro e w2 ⟨rfl, hx⟩; replace hE := hE.trans hx; replace ho := ho.ext hx)
    | ((with_reducible show wpList _ _ _ (⟨none, Op.store 32 (.tmp 12) _, _, _, _, _⟩ :: _) _ _); refine wpl_store_box rfl _ _ _ rfl _ [.int .u16 fx, .int .u16 fy] rfl rfl (BoxF.new _ _ _) rfl (by kernel_rfl) (by rfl) ?_; intro w3 B5 O3; have hx := ((Ext.refl _).alloc _).on O3 (Nat.le_refl _); replace hE := hE.trans hx; replace ho := ho.ext hx)
    | (go_at_call 57; refine (rEofR _ _ l _ _ _ (HR.out.ext hE) (by omega) K3.out).mono ?_; rintro e w2 ⟨rfl, hx⟩; replace hE := hE.trans hx; replace ho := ho.ext hx; replace B5 := B5.ext hx)
    | ((with_reducible show wpList _ _ _ (⟨none, Op.store 32 (.tmp 13) _, _, _, _, _⟩ :: _) _ _); refine wpl_store_box rfl _ _ _ rfl _ [.int .u16 fx, .int .u16 fy] rfl rfl (BoxF.new _ _ _) rfl (by kernel_rfl) (by rfl) ?_; intro w3 B6 O3; have hx := ((Ext.refl _).alloc _).on O3 (Nat.le_refl _); replace hE := hE.trans hx; replace ho := ho.ext hx; replace B5 := B5.ext hx)
    | ((with_reducible show wpList _ _ _ (⟨some 74, _, _, _, _, _⟩ :: _) _ _); refine wpl_load_box rfl _ _ rfl _ rfl B5 Try.underlying32 rfl (by kernel_rfl) ?_)
    | ((with_reducible show wpList _ _ _ (⟨some 75, _, _, _, _, _⟩ :: _) _ _); refine wpl_load_box rfl _ _ rfl _ rfl B6 Try.underlying32 rfl (by kernel_rfl) ?_)
    | (go_at_call 58; refine (rPrepP _ _ l _ _ _ _ _ (ho.rd) (by omega) K4.out).mono ?_; rintro e w2 ⟨rfl, hx⟩; replace hE := hE.trans hx; replace ho := ho.ext hx)
    | ((with_reducible show wpList _ _ _ (⟨none, Op.store 34 (.tmp 14) _, _, _, _, _⟩ :: _) _ _); refine wpl_store_box rfl _ _ _ rfl _ [.int .u32 px, .int .u16 py, .int .u16 pz, .int .u16 pu] rfl rfl (BoxF.new _ _ _) rfl (by kernel_rfl) (by rfl) ?_; intro w3 B7 O3; have hx := ((Ext.refl _).alloc _).on O3 (Nat.le_refl _); replace hE := hE.trans hx; replace ho := ho.ext hx)
    | (go_at_call 59; refine (rPrepR _ _ l _ _ _ _ _ (HR.out.ext hE) (by omega) K4.out).mono ?_; rintro e w2 ⟨rfl, hx⟩; replace hE := hE.trans hx; replace ho := ho.ext hx; replace B7 := B7.ext hx)
    | ((with_reducible show wpList _ _ _ (⟨none, Op.store 34 (.tmp 15) _, _, _, _, _⟩ :: _) _ _); refine wpl_store_box rfl _ _ _ rfl _ [.int .u32 px, .int .u16 py, .int .u16 pz, .int .u16 pu] rfl rfl (BoxF.new _ _ _) rfl (by kernel_rfl) (by rfl) ?_; intro w3 B8 O3; have hx := ((Ext.refl _).alloc _).on O3 (Nat.le_refl _); replace hE := hE.trans hx; replace ho := ho.ext hx; replace B7 := B7.ext hx)
    | ((with_reducible show wpList _ _ _ (⟨some 92, _, _, _, _, _⟩ :: _) _ _); refine wpl_load_box rfl _ _ rfl _ rfl B7 Try.underlying34 rfl (by kernel_rfl) ?_)
    | ((with_reducible show wpList _ _ _ (⟨some 93, _, _, _, _, _⟩ :: _) _ _); refine wpl_load_box rfl _ _ rfl _ rfl B8 Try.underlying34 rfl (by kernel_rfl) ?_)
    | (go_at_call 52; refine (readFile_len _ _ l _ _ (ho.rd) K5.out).mono ?_; rintro e w2 ⟨rfl, hx⟩; replace hE := hE.trans hx; replace ho := ho.ext hx)
    | (go_at_call 60; refine (readFile_ref _ _ l _ _ (HR.out.ext hE) (by omega) K5.out).mono ?_; rintro e w2 ⟨rfl, hx⟩; replace hE := hE.trans hx; replace ho := ho.ext hx)
    | (go_at_call 41; refine (first_c _ _ l c (ho.rd)).mono ?_; rintro e wx ⟨rfl, rfl⟩)
    | (go_at_call 61; refine (firstRef_c _ _ l c (HR.out.ext hE)).mono ?_; rintro e wx ⟨rfl, rfl⟩)
    | (go_at_call 42; refine (last_c _ _ l c (ho.rd)).mono ?_; rintro e wx ⟨rfl, rfl⟩)
    | (go_at_call 62; refine (lastRef_c _ _ l c (HR.out.ext hE)).mono ?_; rintro e wx ⟨rfl, rfl⟩)
    | (go_at_call 47; refine (kept_c _ _ _ l ho (HR.out.ext hE) (by omega)).mono ?_; rintro e wx ⟨rfl, rfl⟩)
    | fail)
  go_ret
  exact ⟨rfl, hE⟩
end Go.Proofs.Ytnlfcknpmemhfaa
