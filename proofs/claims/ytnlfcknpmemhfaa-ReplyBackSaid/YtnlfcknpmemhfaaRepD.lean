/- The statement on kinds: no packet is two things at once. -/
import Derived.Test.YtnlfcknpmemhfaaRepC
namespace Go.Proofs.Ytnlfcknpmemhfaa
open Go.RowKit

theorem first_at (w : World) (v : Value) (l : List UInt8) (c r : Int) (hr : Rd w v l) (h : firstR l c = r) :
    Calls Try.prog 41 #[v, .int .u32 c] w fun e w' => e = .returned (.int .i64 r) ∧ w = w' := h ▸ first_c w v l c hr
theorem last_at (w : World) (v : Value) (l : List UInt8) (c r : Int) (hr : Rd w v l) (h : lastR l c = r) :
    Calls Try.prog 42 #[v, .int .u32 c] w fun e w' => e = .returned (.int .i64 r) ∧ w = w' := h ▸ last_c w v l c hr

set_option maxRecDepth 100000 in
set_option maxHeartbeats 2000000 in
theorem replyOnce_c (w : World) (v : Value) (l : List UInt8) (c : Int) (hr : Rd w v l) : Calls Try.prog 7 #[v, .int .u32 c] w (RetTrue w) := by
  have HR := Lib.hid hr
  by_cases hb : 3000 < l.length
  · obtain ⟨A, cap, rfl, hle, hm, hA, hc⟩ := hr
    clear hA hc
    unfold maxLen at hm
    go_enter Try.func7, Try.ntmps7
    go_wp2_with (go_at_call 14; refine (lives14_c _).mono ?_; rintro e w1 ⟨rfl, hx1⟩)
    go_ret
    exact ⟨rfl, hx1⟩
  cases l with
  | nil =>
    obtain ⟨A, cap, rfl, hle, hm, hA, hc⟩ := hr
    clear hA hc
    unfold maxLen at hm
    go_enter Try.func7, Try.ntmps7
    go_wp2_with (first | (go_at_call 14; refine (lives14_c _).mono ?_; rintro e w1 ⟨rfl, hx1⟩) | (go_at_call 41; refine (first_at _ _ _ _ 0 (HR.out.ext hx1) rfl).mono ?_; rintro e wx ⟨rfl, rfl⟩) | (go_at_call 42; refine (last_at _ _ _ _ 0 (HR.out.ext hx1) rfl).mono ?_; rintro e wx ⟨rfl, rfl⟩))
    go_ret
    exact ⟨rfl, hx1⟩
  | cons b t =>
    obtain ⟨A, cap, rfl, hle, hm, hA, hc⟩ := hr
    obtain ⟨g, o, rfl, hc2⟩ := hc (by simp)
    have hcell : w.cell? ⟨g, o, none⟩ = some (.int .u8 (b.toNat : Int)) := by simpa using hc2 0 (by simp)
    clear hA hc hc2
    unfold maxLen at hm
    obtain ⟨q1, hq1⟩ : ∃ q, hasB c 128 = q := ⟨_, rfl⟩
    obtain ⟨q2, hq2⟩ : ∃ q, hasB c 16777216 = q := ⟨_, rfl⟩
    have hf : firstR (b :: t) c = if b = 0 then 1 else if b = 255 then 2 else if b = 251 ∧ q1 = true then 4 else 0 := by subst hq1; rfl
    have hl : lastR (b :: t) c = if b = 255 then 2 else if b ≠ 254 then 0 else if q2 = true then (if t.length + 1 < 16777215 then 1 else 0) else if t.length + 1 = 5 then 3 else 0 := by subst hq2; rfl
    unfold hasB at hq1 hq2
    obtain ⟨n, hn⟩ : ∃ n, n = t.length + 1 := ⟨_, rfl⟩
    rw [← hn] at hl
    have HN := Lib.hid hn
    rw [List.length_cons, ← hn] at hle hb
    have hn1 : 1 ≤ n := by omega
    rw [if_pos (show n < 16777215 by omega)] at hl
    obtain ⟨V, hV⟩ : ∃ V, V = Value.slice (some ⟨g, o, none⟩) n cap := ⟨_, rfl⟩
    rw [List.length_cons, ← hn] at HR ⊢
    clear hn
    have hcase : (b = 0 ∧ firstR (b :: t) c = 1 ∧ lastR (b :: t) c = 0) ∨ (b = 255 ∧ firstR (b :: t) c = 2 ∧ lastR (b :: t) c = 2) ∨ (b = 251 ∧ q1 = true ∧ firstR (b :: t) c = 4 ∧ lastR (b :: t) c = 0) ∨ (b = 251 ∧ q1 = false ∧ firstR (b :: t) c = 0 ∧ lastR (b :: t) c = 0)
        ∨ (b = 254 ∧ q2 = true ∧ firstR (b :: t) c = 0 ∧ lastR (b :: t) c = 1) ∨ (b = 254 ∧ q2 = false ∧ n = 5 ∧ firstR (b :: t) c = 0 ∧ lastR (b :: t) c = 3) ∨ (b = 254 ∧ q2 = false ∧ n ≠ 5 ∧ firstR (b :: t) c = 0 ∧ lastR (b :: t) c = 0)
        ∨ (b ≠ 255 ∧ b ≠ 254 ∧ firstR (b :: t) c = 0 ∧ lastR (b :: t) c = 0) := by
      rw [hf, hl]
      by_cases h0 : b = 0
      · left; subst h0; simp
      by_cases h1 : b = 255
      · right; left; subst h1; simp
      by_cases h2 : b = 251
      · right; right; subst h2; cases q1 <;> simp
      by_cases h3 : b = 254
      · right; right; right; right; subst h3; cases q2 <;> by_cases h5 : n = 5 <;> simp [h5]
      · right; right; right; right; right; right; right; simp [h0, h1, h2, h3]
    clear hf hl hV
    rcases hcase with ⟨rfl, hf, hl⟩ | ⟨rfl, hf, hl⟩ | ⟨rfl, rfl, hf, hl⟩ | ⟨rfl, rfl, hf, hl⟩ | ⟨rfl, rfl, hf, hl⟩ | ⟨rfl, rfl, rfl, hf, hl⟩ | ⟨rfl, rfl, h5, hf, hl⟩ | ⟨g1, g2, hf, hl⟩
    all_goals
      have HF := Lib.hid hf
      have HL := Lib.hid hl
      clear hf hl
    · cases q2
      all_goals
        go_enter Try.func7, Try.ntmps7
        go_wp2_with (first | (go_at_call 14; refine (lives14_c _).mono ?_; rintro e w1 ⟨rfl, hx1⟩; replace hcell := hx1.cell hcell) | (go_at_call 41; refine (first_at _ _ _ _ _ (HR.out.ext hx1) HF.out).mono ?_; rintro e wx ⟨rfl, rfl⟩) | (go_at_call 42; refine (last_at _ _ _ _ _ (HR.out.ext hx1) HL.out).mono ?_; rintro e wx ⟨rfl, rfl⟩))
        go_ret
        exact ⟨rfl, hx1⟩
    · cases q2
      all_goals
        go_enter Try.func7, Try.ntmps7
        go_wp2_with (first | (go_at_call 14; refine (lives14_c _).mono ?_; rintro e w1 ⟨rfl, hx1⟩; replace hcell := hx1.cell hcell) | (go_at_call 41; refine (first_at _ _ _ _ _ (HR.out.ext hx1) HF.out).mono ?_; rintro e wx ⟨rfl, rfl⟩) | (go_at_call 42; refine (last_at _ _ _ _ _ (HR.out.ext hx1) HL.out).mono ?_; rintro e wx ⟨rfl, rfl⟩))
        go_ret
        exact ⟨rfl, hx1⟩
    · have hq1b : (bits .and .u32 c 128 == 0) = false := by simpa using hq1
      clear hq1
      cases q2
      all_goals
        go_enter Try.func7, Try.ntmps7
        go_wp2_with (first | (go_at_call 14; refine (lives14_c _).mono ?_; rintro e w1 ⟨rfl, hx1⟩; replace hcell := hx1.cell hcell) | (go_at_call 41; refine (first_at _ _ _ _ _ (HR.out.ext hx1) HF.out).mono ?_; rintro e wx ⟨rfl, rfl⟩) | (go_at_call 42; refine (last_at _ _ _ _ _ (HR.out.ext hx1) HL.out).mono ?_; rintro e wx ⟨rfl, rfl⟩))
        go_ret
        exact ⟨rfl, hx1⟩
    · cases q2
      all_goals
        go_enter Try.func7, Try.ntmps7
        go_wp2_with (first | (go_at_call 14; refine (lives14_c _).mono ?_; rintro e w1 ⟨rfl, hx1⟩; replace hcell := hx1.cell hcell) | (go_at_call 41; refine (first_at _ _ _ _ _ (HR.out.ext hx1) HF.out).mono ?_; rintro e wx ⟨rfl, rfl⟩) | (go_at_call 42; refine (last_at _ _ _ _ _ (HR.out.ext hx1) HL.out).mono ?_; rintro e wx ⟨rfl, rfl⟩))
        go_ret
        exact ⟨rfl, hx1⟩
    · clear hq1
      all_goals
        go_enter Try.func7, Try.ntmps7
        go_wp2_with (first | (go_at_call 14; refine (lives14_c _).mono ?_; rintro e w1 ⟨rfl, hx1⟩; replace hcell := hx1.cell hcell) | (go_at_call 41; refine (first_at _ _ _ _ _ (HR.out.ext hx1) HF.out).mono ?_; rintro e wx ⟨rfl, rfl⟩) | (go_at_call 42; refine (last_at _ _ _ _ _ (HR.out.ext hx1) HL.out).mono ?_; rintro e wx ⟨rfl, rfl⟩))
        go_ret
        exact ⟨rfl, hx1⟩
    · clear hq1
      all_goals
        go_enter Try.func7, Try.ntmps7
        go_wp2_with (first | (go_at_call 14; refine (lives14_c _).mono ?_; rintro e w1 ⟨rfl, hx1⟩; replace hcell := hx1.cell hcell) | (go_at_call 41; refine (first_at _ _ _ _ _ (HR.out.ext hx1) HF.out).mono ?_; rintro e wx ⟨rfl, rfl⟩) | (go_at_call 42; refine (last_at _ _ _ _ _ (HR.out.ext hx1) HL.out).mono ?_; rintro e wx ⟨rfl, rfl⟩))
        go_ret
        exact ⟨rfl, hx1⟩
    · clear hq1
      have g5 : ((n : Int) == 5) = false := by simp only [beq_eq_false_iff_ne, ne_eq]; omega
      all_goals
        go_enter Try.func7, Try.ntmps7
        go_wp2_with (first | (go_at_call 14; refine (lives14_c _).mono ?_; rintro e w1 ⟨rfl, hx1⟩; replace hcell := hx1.cell hcell) | (go_at_call 41; refine (first_at _ _ _ _ _ (HR.out.ext hx1) HF.out).mono ?_; rintro e wx ⟨rfl, rfl⟩) | (go_at_call 42; refine (last_at _ _ _ _ _ (HR.out.ext hx1) HL.out).mono ?_; rintro e wx ⟨rfl, rfl⟩))
        go_ret
        exact ⟨rfl, hx1⟩
    · clear hq1
      have k1 := u8_ne g1
      have k2 := u8_ne g2
      change ((b.toNat : Int) == 255) = false at k1
      change ((b.toNat : Int) == 254) = false at k2
      clear g1 g2
      cases q2
      all_goals
        go_enter Try.func7, Try.ntmps7
        go_wp2_with (first | (go_at_call 14; refine (lives14_c _).mono ?_; rintro e w1 ⟨rfl, hx1⟩; replace hcell := hx1.cell hcell) | (go_at_call 41; refine (first_at _ _ _ _ _ (HR.out.ext hx1) HF.out).mono ?_; rintro e wx ⟨rfl, rfl⟩) | (go_at_call 42; refine (last_at _ _ _ _ _ (HR.out.ext hx1) HL.out).mono ?_; rintro e wx ⟨rfl, rfl⟩))
        go_ret
        exact ⟨rfl, hx1⟩
end Go.Proofs.Ytnlfcknpmemhfaa
