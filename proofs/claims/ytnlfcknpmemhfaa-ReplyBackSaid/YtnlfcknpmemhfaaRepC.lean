/- First, Last: the contracts; the examples; the statement on kinds. -/
import Derived.Test.YtnlfcknpmemhfaaRepB
import Derived.Test.YtnlfcknpmemhfaaLawA
namespace Go.Proofs.Ytnlfcknpmemhfaa
open Go.RowKit

theorem wpl_lss {P : Program} {w : World} {ops : List Oper} {rest : Array Oper} {o : Oper} {a : Act} {Q : Exit → Act → World → Prop} (hgd : o.guard = none) (t t2 : TypeId) (s x : Operand) (ho : o.op = .binOp .lss t s x t2) (m k : Int)
    (hs : a.eval s = .int .i64 m) (hx : a.eval x = .int .i64 k) (r : Bool) (hr : decide (m < k) = r) (h : wpList P rest Q ops (a.put o.dst (.bool r)) w) : wpList P rest Q (o :: ops) a w := by
  refine wpl_val hgd (v := .bool r) (w' := w) ?_ h
  unfold execOp
  simp [ho, hs, hx, binOp, eqGuard, Op.intCmp, ← hr]

def firstR : List UInt8 → Int → Int
  | [], _ => 0
  | b :: _, c => if b = 0 then 1 else if b = 255 then 2 else if b = 251 ∧ hasB c 128 = true then 4 else 0
def lastR : List UInt8 → Int → Int
  | [], _ => 0
  | b :: t, c => if b = 255 then 2 else if b ≠ 254 then 0 else if hasB c 16777216 = true then (if t.length + 1 < 16777215 then 1 else 0) else if t.length + 1 = 5 then 3 else 0

theorem u8_ne {b k : UInt8} (h : b ≠ k) : (((b.toNat : Int)) == (k.toNat : Int)) = false := by
  simp only [beq_eq_false_iff_ne, ne_eq]
  intro hh
  exact h (UInt8.toNat_inj.1 (by omega))

set_option maxHeartbeats 1000000 in
theorem first_c (w : World) (v : Value) (l : List UInt8) (c : Int) (hr : Rd w v l) :
    Calls Try.prog 41 #[v, .int .u32 c] w fun e w' => e = .returned (.int .i64 (firstR l c)) ∧ w = w' := by
  cases l with
  | nil =>
    obtain ⟨A, cap, rfl, hle, hm, hA, hc⟩ := hr
    clear hA hc
    unfold firstR
    go_enter Try.func41, Try.ntmps41
    go_wp2_with fail
    go_ret
    exact ⟨rfl, rfl⟩
  | cons b t =>
    obtain ⟨A, cap, rfl, hle, hm, hA, hc⟩ := hr
    obtain ⟨g, o, rfl, hc2⟩ := hc (by simp)
    have hcell : w.cell? ⟨g, o, none⟩ = some (.int .u8 (b.toNat : Int)) := by simpa using hc2 0 (by simp)
    clear hA hc hc2
    unfold maxLen at hm
    obtain ⟨r, h⟩ : ∃ r, firstR (b :: t) c = r := ⟨_, rfl⟩
    rw [h]
    obtain ⟨q, hq⟩ : ∃ q, hasB c 128 = q := ⟨_, rfl⟩
    have HQ := Lib.hid hq
    change (if b = 0 then 1 else if b = 255 then 2 else if b = 251 ∧ hasB c 128 = true then 4 else 0) = r at h
    rw [hq] at h
    clear hq
    by_cases h0 : b = 0
    · subst h0
      simp at h
      subst h
      go_enter Try.func41, Try.ntmps41
      go_wp2_with fail
      go_ret
      exact ⟨rfl, rfl⟩
    · rw [if_neg h0] at h
      have g0 := u8_ne h0
      by_cases h1 : b = 255
      · subst h1
        simp at h
        subst h
        clear g0
        go_enter Try.func41, Try.ntmps41
        go_wp2_with fail
        go_ret
        exact ⟨rfl, rfl⟩
      · rw [if_neg h1] at h
        have g1 := u8_ne h1
        by_cases h2 : b = 251
        · subst h2
          clear g0 g1
          cases q
          all_goals
            simp at h
            subst h
            go_enter Try.func41, Try.ntmps41
            go_wp2_with (go_at_call 66; refine (has_at _ _ _ _ HQ.out).mono ?_; rintro e wx ⟨rfl, rfl⟩)
            go_ret
            exact ⟨rfl, rfl⟩
        · have g2 := u8_ne h2
          simp [h2] at h
          subst h
          change ((b.toNat : Int) == 0) = false at g0
          change ((b.toNat : Int) == 255) = false at g1
          change ((b.toNat : Int) == 251) = false at g2
          go_enter Try.func41, Try.ntmps41
          go_wp2_with fail
          go_ret
          exact ⟨rfl, rfl⟩

set_option maxRecDepth 100000 in
set_option maxHeartbeats 1000000 in
theorem last_c (w : World) (v : Value) (l : List UInt8) (c : Int) (hr : Rd w v l) :
    Calls Try.prog 42 #[v, .int .u32 c] w fun e w' => e = .returned (.int .i64 (lastR l c)) ∧ w = w' := by
  cases l with
  | nil =>
    obtain ⟨A, cap, rfl, hle, hm, hA, hc⟩ := hr
    clear hA hc
    unfold lastR
    go_enter Try.func42, Try.ntmps42
    go_wp2_with fail
    go_ret
    exact ⟨rfl, rfl⟩
  | cons b t =>
    obtain ⟨A, cap, rfl, hle, hm, hA, hc⟩ := hr
    obtain ⟨g, o, rfl, hc2⟩ := hc (by simp)
    have hcell : w.cell? ⟨g, o, none⟩ = some (.int .u8 (b.toNat : Int)) := by simpa using hc2 0 (by simp)
    clear hA hc hc2
    unfold maxLen at hm
    obtain ⟨r, h⟩ : ∃ r, lastR (b :: t) c = r := ⟨_, rfl⟩
    rw [h]
    obtain ⟨q, hq⟩ : ∃ q, hasB c 16777216 = q := ⟨_, rfl⟩
    have HQ := Lib.hid hq
    change (if b = 255 then 2 else if b ≠ 254 then 0 else if hasB c 16777216 = true then (if t.length + 1 < 16777215 then 1 else 0) else if t.length + 1 = 5 then 3 else 0) = r at h
    rw [hq] at h
    clear hq
    obtain ⟨n, hn⟩ : ∃ n, n = t.length + 1 := ⟨_, rfl⟩
    rw [← hn] at h
    rw [List.length_cons, ← hn] at hle ⊢
    have hn1 : 1 ≤ n := by omega
    clear hn
    by_cases h1 : b = 255
    · subst h1
      simp at h
      subst h
      go_enter Try.func42, Try.ntmps42
      go_wp2_with fail
      go_ret
      exact ⟨rfl, rfl⟩
    · rw [if_neg h1] at h
      have g1 := u8_ne h1
      by_cases h2 : b = 254
      · subst h2
        clear g1
        cases q
        · by_cases h5 : n = 5
          · simp [h5] at h
            subst h
            subst h5
            go_enter Try.func42, Try.ntmps42
            go_wp2_with (go_at_call 66; refine (has_at _ _ _ _ HQ.out).mono ?_; rintro e wx ⟨rfl, rfl⟩)
            go_ret
            exact ⟨rfl, rfl⟩
          · simp [h5] at h
            subst h
            have g5 : ((n : Int) == 5) = false := by simp only [beq_eq_false_iff_ne, ne_eq]; omega
            go_enter Try.func42, Try.ntmps42
            go_wp2_with (go_at_call 66; refine (has_at _ _ _ _ HQ.out).mono ?_; rintro e wx ⟨rfl, rfl⟩)
            go_ret
            exact ⟨rfl, rfl⟩
        · by_cases h5 : n < 16777215
          · rw [if_neg (by decide), if_pos rfl, if_pos h5] at h
            subst h
            clear hle hm
            have G5 := Lib.hid h5
            clear h5
            go_enter Try.func42, Try.ntmps42
            go_wp2_with (first | ((with_reducible show wpList _ _ _ (⟨some 24, _, _, _, _, _⟩ :: _) _ _); refine wpl_lss rfl _ _ _ _ rfl _ _ rfl rfl true (by have := G5.out; simp; omega) ?_) | (go_at_call 66; refine (has_at _ _ _ _ HQ.out).mono ?_; rintro e wx ⟨rfl, rfl⟩))
            go_ret
            exact ⟨rfl, rfl⟩
          · rw [if_neg (by decide), if_pos rfl, if_neg h5] at h
            subst h
            clear hle hm
            have G5 := Lib.hid h5
            clear h5
            go_enter Try.func42, Try.ntmps42
            go_wp2_with (first | ((with_reducible show wpList _ _ _ (⟨some 24, _, _, _, _, _⟩ :: _) _ _); refine wpl_lss rfl _ _ _ _ rfl _ _ rfl rfl false (by have := G5.out; simp; omega) ?_) | (go_at_call 66; refine (has_at _ _ _ _ HQ.out).mono ?_; rintro e wx ⟨rfl, rfl⟩))
            go_ret
            exact ⟨rfl, rfl⟩
      · have g2 := u8_ne h2
        simp [h2] at h
        subst h
        change ((b.toNat : Int) == 255) = false at g1
        change ((b.toNat : Int) == 254) = false at g2
        go_enter Try.func42, Try.ntmps42
        go_wp2_with fail
        go_ret
        exact ⟨rfl, rfl⟩

set_option maxRecDepth 100000 in
set_option maxHeartbeats 1000000 in
theorem lives14_c (w : World) : Calls Try.prog 14 #[] w (RetTrue w) := by
  have K1 := Lib.hid (show okHead false 1 0 2 0 ++ okTail 0 2 [] [] = [0, 1, 0, 2, 0, 0, 0] by decide)
  have K2 := Lib.hid (show errB 1064 [52, 50, 48, 48, 48] [110, 111] = [255, 40, 4, 35, 52, 50, 48, 48, 48, 110, 111] by decide)
  go_enter Try.func14, Try.ntmps14
  go_wp2_with (first
    | (go_at_call 16; go_loud (refine (appendOk_good _ _ _ [] [] _ _ _ _ _ _ _ (Rd.nil _) (Rd.nil _) (by simp) (by decide) (by simp) (by omega) (by omega) (by omega) (by omega) (.inl rfl)).mono ?_; rintro e w1 ⟨v1, rfl, ho1, hx1⟩))
    | (go_at_call 20; go_loud (refine (appendErr_good _ _ [] _ _ _ (Rd.nil _) (by simp) (by rfl) (by decide) (by omega)).mono ?_; rintro e w2 ⟨v2, rfl, ho2, hx2⟩))
    | (go_at_call 19; go_loud (refine (same_c _ _ _ _ [0, 1, 0, 2, 0, 0, 0] (ho1.rd.ext (hx2.alloc _)) (rd_lit _ _ [0, 1, 0, 2, 0, 0, 0] rfl (by simp) _ _ rfl (by simp)) true (by decide)).mono ?_; rintro e w3 ⟨rfl, rfl⟩))
    | ((with_reducible show wpList _ _ _ (⟨some 24, _, _, _, _, _⟩ :: _) _ _); refine wpl_str bt (ho2.rd.ext ((Ext.refl _).alloc _)) rfl _ rfl rfl ?_))
  rw [run_str _ bt (ho2.rd.ext ((Ext.refl _).alloc _))]
  have E : (strL ([] ++ errB 1064 [52, 50, 48, 48, 48] [110, 111])).toList = [255, 40, 4, 35, 52, 50, 48, 48, 48, 110, 111] := (strL_tl _).trans K2.out
  rw [List.nil_append] at E
  go_wp2_with fail
  go_ret
  exact ⟨rfl, (hx1.trans hx2).alloc _⟩
end Go.Proofs.Ytnlfcknpmemhfaa
