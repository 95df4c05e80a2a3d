/- The contracts of the functions that write and read counted numbers. -/
import Derived.Test.YtdjnjhlgpflcjaaLenC
import Derived.Test.YtdjnjhlgpflcjaaSpecB
namespace Go.Proofs.Ytdjnjhlgpflcjaa
open Go.RowKit

set_option maxHeartbeats 400000 in
theorem form_c (w : World) (x : Int) (a b : Int) (h : (x ≤ 250 ∧ a = 0 ∧ b = 1) ∨ (250 < x ∧ x < 65536 ∧ a = 252 ∧ b = 2) ∨ (65536 ≤ x ∧ x < 16777216 ∧ a = 253 ∧ b = 3) ∨ (16777216 ≤ x ∧ a = 254 ∧ b = 8)) :
    Calls Try.prog 46 #[.int .u64 x] w fun e w' => e = .returned (.tuple #[.int .u8 a, .int .i64 b]) ∧ w = w' := by
  rcases h with ⟨h, rfl, rfl⟩ | ⟨h, h2, rfl, rfl⟩ | ⟨h, h2, rfl, rfl⟩ | ⟨h, rfl, rfl⟩
  all_goals
    go_enter Try.func46, Try.ntmps46
    go_wp2_with fail
    go_ret2
    exact ⟨rfl, rfl⟩

theorem size_cases (x : Int) : (x ≤ 250 ∧ sizeI x = 1) ∨ (250 < x ∧ x < 65536 ∧ sizeI x = 3) ∨ (65536 ≤ x ∧ x < 16777216 ∧ sizeI x = 4) ∨ (16777216 ≤ x ∧ sizeI x = 9) := by
  unfold sizeI
  split
  · omega
  · split
    · omega
    · split <;> omega

set_option maxHeartbeats 400000 in
theorem size_ref (w : World) (x : Int) :
    Calls Try.prog 57 #[.int .u64 x] w fun e w' => e = .returned (.int .i64 (sizeI x)) ∧ w = w' := by
  rcases size_cases x with ⟨h, he⟩ | ⟨h, h2, he⟩ | ⟨h, h2, he⟩ | ⟨h, he⟩
  all_goals
    rw [he]
    clear he
    go_enter Try.func57, Try.ntmps57
    go_wp2_with fail
    go_ret
    exact ⟨rfl, rfl⟩

/-- Three results of a counted number's reading; nothing turns. -/
def RetI (w : World) (r : Int × Nat × Int) (e : Ending) (w' : World) : Prop := e = .returned (.tuple #[.int .u64 r.1, .int .i64 (r.2.1 : Int), .int .i64 r.2.2]) ∧ w = w'

set_option maxHeartbeats 1000000 in
theorem readInt_len (w : World) (v : Value) (l : List UInt8) (hr : Rd w v l) :
    Calls Try.prog 36 #[v] w (RetI w (readI l)) := by
  rcases readI_cases l with ⟨rfl, he⟩ | ⟨c, t, rfl, hx⟩
  · rw [he]
    clear he
    obtain ⟨A, cap, rfl, hle, hm, hA, hc⟩ := hr
    clear hA hc
    go_enter Try.func36, Try.ntmps36
    go_wp2_with fail
    go_ret3
    exact ⟨rfl, rfl⟩
  · have HR := Lib.hid hr
    obtain ⟨A, cap, rfl, hle, hm, hA, hc⟩ := hr
    obtain ⟨b, o, rfl, hc2⟩ := hc (by simp)
    have hcell : w.cell? ⟨b, o, none⟩ = some (.int .u8 (c.toNat : Int)) := by simpa using hc2 0 (by simp)
    clear hA hc hc2
    unfold maxLen at hm
    rcases hx with ⟨h, he⟩ | ⟨rfl, he⟩ | ⟨rfl, he⟩ | ⟨n, hn, hx⟩
    · rw [he]
      clear he
      go_enter Try.func36, Try.ntmps36
      go_wp2_with fail
      go_ret3
      exact ⟨rfl, rfl⟩
    · rw [he]
      clear he
      have hcell2 : w.cell? ⟨b, o, none⟩ = some (.int .u8 251) := hcell
      clear hcell
      go_enter Try.func36, Try.ntmps36
      go_wp2_with fail
      go_ret3
      exact ⟨rfl, rfl⟩
    · rw [he]
      clear he
      have hcell2 : w.cell? ⟨b, o, none⟩ = some (.int .u8 255) := hcell
      clear hcell
      go_enter Try.func36, Try.ntmps36
      go_wp2_with fail
      go_ret3
      exact ⟨rfl, rfl⟩
    · rcases hx with ⟨hx, he⟩ | ⟨hx, he⟩
      all_goals
        rw [he]
        clear he
      · rcases hn with ⟨rfl, rfl⟩ | ⟨rfl, rfl⟩ | ⟨rfl, rfl⟩
        · have hcell2 : w.cell? ⟨b, o, none⟩ = some (.int .u8 252) := hcell
          clear hcell
          go_enter Try.func36, Try.ntmps36
          go_wp2_with (first | ((with_reducible show wpList _ _ _ (_ :: _) _ _); refine wpl_slice_lo bt HR.out 1 (by omega) (by rw [List.length_cons]; omega) rfl _ _ _ rfl rfl rfl ?_; intro v2 hr2; replace hr2 : Rd w v2 t := hr2) | (go_at_call 49; refine (readFixed_short_len _ _ _ _ hr2 (by omega) (by omega) (by omega)).mono ?_; rintro e w1 ⟨rfl, rfl⟩))
          go_ret3
          exact ⟨rfl, rfl⟩
        · have hcell2 : w.cell? ⟨b, o, none⟩ = some (.int .u8 253) := hcell
          clear hcell
          go_enter Try.func36, Try.ntmps36
          go_wp2_with (first | ((with_reducible show wpList _ _ _ (_ :: _) _ _); refine wpl_slice_lo bt HR.out 1 (by omega) (by rw [List.length_cons]; omega) rfl _ _ _ rfl rfl rfl ?_; intro v2 hr2; replace hr2 : Rd w v2 t := hr2) | (go_at_call 49; refine (readFixed_short_len _ _ _ _ hr2 (by omega) (by omega) (by omega)).mono ?_; rintro e w1 ⟨rfl, rfl⟩))
          go_ret3
          exact ⟨rfl, rfl⟩
        · have hcell2 : w.cell? ⟨b, o, none⟩ = some (.int .u8 254) := hcell
          clear hcell
          go_enter Try.func36, Try.ntmps36
          go_wp2_with (first | ((with_reducible show wpList _ _ _ (_ :: _) _ _); refine wpl_slice_lo bt HR.out 1 (by omega) (by rw [List.length_cons]; omega) rfl _ _ _ rfl rfl rfl ?_; intro v2 hr2; replace hr2 : Rd w v2 t := hr2) | (go_at_call 49; refine (readFixed_short_len _ _ _ _ hr2 (by omega) (by omega) (by omega)).mono ?_; rintro e w1 ⟨rfl, rfl⟩))
          go_ret3
          exact ⟨rfl, rfl⟩
      · rcases hn with ⟨rfl, rfl⟩ | ⟨rfl, rfl⟩ | ⟨rfl, rfl⟩
        · have hcell2 : w.cell? ⟨b, o, none⟩ = some (.int .u8 252) := hcell
          clear hcell
          go_enter Try.func36, Try.ntmps36
          go_wp2_with (first | ((with_reducible show wpList _ _ _ (_ :: _) _ _); refine wpl_slice_lo bt HR.out 1 (by omega) (by rw [List.length_cons]; omega) rfl _ _ _ rfl rfl rfl ?_; intro v2 hr2; replace hr2 : Rd w v2 t := hr2) | (go_at_call 49; refine (readFixed_good_len _ _ _ _ hr2 (by omega) (by omega) (by omega)).mono ?_; rintro e w1 ⟨rfl, rfl⟩))
          go_ret3
          exact ⟨rfl, rfl⟩
        · have hcell2 : w.cell? ⟨b, o, none⟩ = some (.int .u8 253) := hcell
          clear hcell
          go_enter Try.func36, Try.ntmps36
          go_wp2_with (first | ((with_reducible show wpList _ _ _ (_ :: _) _ _); refine wpl_slice_lo bt HR.out 1 (by omega) (by rw [List.length_cons]; omega) rfl _ _ _ rfl rfl rfl ?_; intro v2 hr2; replace hr2 : Rd w v2 t := hr2) | (go_at_call 49; refine (readFixed_good_len _ _ _ _ hr2 (by omega) (by omega) (by omega)).mono ?_; rintro e w1 ⟨rfl, rfl⟩))
          go_ret3
          exact ⟨rfl, rfl⟩
        · have hcell2 : w.cell? ⟨b, o, none⟩ = some (.int .u8 254) := hcell
          clear hcell
          go_enter Try.func36, Try.ntmps36
          go_wp2_with (first | ((with_reducible show wpList _ _ _ (_ :: _) _ _); refine wpl_slice_lo bt HR.out 1 (by omega) (by rw [List.length_cons]; omega) rfl _ _ _ rfl rfl rfl ?_; intro v2 hr2; replace hr2 : Rd w v2 t := hr2) | (go_at_call 49; refine (readFixed_good_len _ _ _ _ hr2 (by omega) (by omega) (by omega)).mono ?_; rintro e w1 ⟨rfl, rfl⟩))
          go_ret3
          exact ⟨rfl, rfl⟩

set_option maxHeartbeats 1000000 in
theorem readInt_ref (w : World) (v : Value) (l : List UInt8) (hr : Rd w v l) :
    Calls Try.prog 45 #[v] w (RetI w (readI l)) := by
  rcases readI_cases l with ⟨rfl, he⟩ | ⟨c, t, rfl, hx⟩
  · rw [he]
    clear he
    obtain ⟨A, cap, rfl, hle, hm, hA, hc⟩ := hr
    clear hA hc
    go_enter Try.func45, Try.ntmps45
    go_wp2_with fail
    go_ret3
    exact ⟨rfl, rfl⟩
  · have HR := Lib.hid hr
    obtain ⟨A, cap, rfl, hle, hm, hA, hc⟩ := hr
    obtain ⟨b, o, rfl, hc2⟩ := hc (by simp)
    have hcell : w.cell? ⟨b, o, none⟩ = some (.int .u8 (c.toNat : Int)) := by simpa using hc2 0 (by simp)
    clear hA hc hc2
    unfold maxLen at hm
    rcases hx with ⟨h, he⟩ | ⟨rfl, he⟩ | ⟨rfl, he⟩ | ⟨n, hn, hx⟩
    · rw [he]
      clear he
      go_enter Try.func45, Try.ntmps45
      go_wp2_with fail
      go_ret3
      exact ⟨rfl, rfl⟩
    · rw [he]
      clear he
      have hcell2 : w.cell? ⟨b, o, none⟩ = some (.int .u8 251) := hcell
      clear hcell
      go_enter Try.func45, Try.ntmps45
      go_wp2_with fail
      go_ret3
      exact ⟨rfl, rfl⟩
    · rw [he]
      clear he
      have hcell2 : w.cell? ⟨b, o, none⟩ = some (.int .u8 255) := hcell
      clear hcell
      go_enter Try.func45, Try.ntmps45
      go_wp2_with fail
      go_ret3
      exact ⟨rfl, rfl⟩
    · rcases hx with ⟨hx, he⟩ | ⟨hx, he⟩
      all_goals
        rw [he]
        clear he
      · rcases hn with ⟨rfl, rfl⟩ | ⟨rfl, rfl⟩ | ⟨rfl, rfl⟩
        · have hcell2 : w.cell? ⟨b, o, none⟩ = some (.int .u8 252) := hcell
          clear hcell
          go_enter Try.func45, Try.ntmps45
          go_wp2_with (first | ((with_reducible show wpList _ _ _ (_ :: _) _ _); refine wpl_slice_lo bt HR.out 1 (by omega) (by rw [List.length_cons]; omega) rfl _ _ _ rfl rfl rfl ?_; intro v2 hr2; replace hr2 : Rd w v2 t := hr2) | (go_at_call 59; refine (readFixed_short_ref _ _ _ _ hr2 (by omega) (by omega) (by omega)).mono ?_; rintro e w1 ⟨rfl, rfl⟩))
          go_ret3
          exact ⟨rfl, rfl⟩
        · have hcell2 : w.cell? ⟨b, o, none⟩ = some (.int .u8 253) := hcell
          clear hcell
          go_enter Try.func45, Try.ntmps45
          go_wp2_with (first | ((with_reducible show wpList _ _ _ (_ :: _) _ _); refine wpl_slice_lo bt HR.out 1 (by omega) (by rw [List.length_cons]; omega) rfl _ _ _ rfl rfl rfl ?_; intro v2 hr2; replace hr2 : Rd w v2 t := hr2) | (go_at_call 59; refine (readFixed_short_ref _ _ _ _ hr2 (by omega) (by omega) (by omega)).mono ?_; rintro e w1 ⟨rfl, rfl⟩))
          go_ret3
          exact ⟨rfl, rfl⟩
        · have hcell2 : w.cell? ⟨b, o, none⟩ = some (.int .u8 254) := hcell
          clear hcell
          go_enter Try.func45, Try.ntmps45
          go_wp2_with (first | ((with_reducible show wpList _ _ _ (_ :: _) _ _); refine wpl_slice_lo bt HR.out 1 (by omega) (by rw [List.length_cons]; omega) rfl _ _ _ rfl rfl rfl ?_; intro v2 hr2; replace hr2 : Rd w v2 t := hr2) | (go_at_call 59; refine (readFixed_short_ref _ _ _ _ hr2 (by omega) (by omega) (by omega)).mono ?_; rintro e w1 ⟨rfl, rfl⟩))
          go_ret3
          exact ⟨rfl, rfl⟩
      · rcases hn with ⟨rfl, rfl⟩ | ⟨rfl, rfl⟩ | ⟨rfl, rfl⟩
        · have hcell2 : w.cell? ⟨b, o, none⟩ = some (.int .u8 252) := hcell
          clear hcell
          go_enter Try.func45, Try.ntmps45
          go_wp2_with (first | ((with_reducible show wpList _ _ _ (_ :: _) _ _); refine wpl_slice_lo bt HR.out 1 (by omega) (by rw [List.length_cons]; omega) rfl _ _ _ rfl rfl rfl ?_; intro v2 hr2; replace hr2 : Rd w v2 t := hr2) | (go_at_call 59; refine (readFixed_good_ref _ _ _ _ hr2 (by omega) (by omega) (by omega)).mono ?_; rintro e w1 ⟨rfl, rfl⟩))
          go_ret3
          exact ⟨rfl, rfl⟩
        · have hcell2 : w.cell? ⟨b, o, none⟩ = some (.int .u8 253) := hcell
          clear hcell
          go_enter Try.func45, Try.ntmps45
          go_wp2_with (first | ((with_reducible show wpList _ _ _ (_ :: _) _ _); refine wpl_slice_lo bt HR.out 1 (by omega) (by rw [List.length_cons]; omega) rfl _ _ _ rfl rfl rfl ?_; intro v2 hr2; replace hr2 : Rd w v2 t := hr2) | (go_at_call 59; refine (readFixed_good_ref _ _ _ _ hr2 (by omega) (by omega) (by omega)).mono ?_; rintro e w1 ⟨rfl, rfl⟩))
          go_ret3
          exact ⟨rfl, rfl⟩
        · have hcell2 : w.cell? ⟨b, o, none⟩ = some (.int .u8 254) := hcell
          clear hcell
          go_enter Try.func45, Try.ntmps45
          go_wp2_with (first | ((with_reducible show wpList _ _ _ (_ :: _) _ _); refine wpl_slice_lo bt HR.out 1 (by omega) (by rw [List.length_cons]; omega) rfl _ _ _ rfl rfl rfl ?_; intro v2 hr2; replace hr2 : Rd w v2 t := hr2) | (go_at_call 59; refine (readFixed_good_ref _ _ _ _ hr2 (by omega) (by omega) (by omega)).mono ?_; rintro e w1 ⟨rfl, rfl⟩))
          go_ret3
          exact ⟨rfl, rfl⟩
end Go.Proofs.Ytdjnjhlgpflcjaa
