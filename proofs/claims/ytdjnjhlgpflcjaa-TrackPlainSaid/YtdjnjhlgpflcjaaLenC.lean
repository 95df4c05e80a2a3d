/- The contracts of the functions that read fixed numbers. -/
import Derived.Test.YtdjnjhlgpflcjaaLenB
namespace Go.Proofs.Ytdjnjhlgpflcjaa
open Go.RowKit

set_option maxHeartbeats 400000 in
theorem readFixed_good_len (w : World) (v : Value) (l : List UInt8) (n : Int) (hr : Rd w v l) (h1 : 1 ≤ n) (h2 : n ≤ 8) (h3 : n ≤ l.length) :
    Calls Try.prog 49 #[v, .int .i64 n] w fun e w' => e = .returned (.tuple #[.int .u64 (leN (l.take n.toNat)), .int .i64 0]) ∧ w = w' := by
  obtain ⟨N, rfl⟩ : ∃ N : Nat, n = N := ⟨n.toNat, by omega⟩
  rw [Int.toNat_natCast]
  obtain ⟨A, cap, rfl, hle, hm, hA, hc⟩ := hr
  obtain ⟨b, o, rfl, hc2⟩ := hc (by intro h; subst h; simp at h3; omega)
  clear hA hc
  unfold maxLen at hm
  have HC := Lib.hid hc2
  clear hc2
  have d1 : decide ((N : Int) < 1) = false := by simp; omega
  have d2 : decide ((8 : Int) < (N : Int)) = false := by simp; omega
  go_enter Try.func49, Try.ntmps49
  go_wp2_with fail
  go_loop [6, 19] (fun x i => ∃ k : Nat, k ≤ N ∧ i = .int .i64 k ∧ x = .int .u64 (leN (l.take k))) (fun _ i => N - (intOf i).toNat)
  case atStart => exact ⟨0, Nat.zero_le _, rfl, rfl⟩
  case round =>
    obtain ⟨k, hk, rfl, rfl⟩ := hrel
    by_cases hlt : k < N
    · have hcell := HC.out k (by omega)
      go_wp2_with fail
      go_round
      case rel =>
        refine ⟨k + 1, by omega, by go_num, ?_⟩
        rw [or_byte _ _ _ (leN_take_lt l k) (UInt8.toNat_lt _) (by omega), leN_take_succ l k (by omega)]
      case measure => simp [intOf]; omega
    · obtain rfl : k = N := by omega
      go_wp2_with fail
      go_ret2
      exact ⟨rfl, rfl⟩

set_option maxHeartbeats 400000 in
theorem readFixed_arg_len (w : World) (v : Value) (n : Int) (h : n < 1 ∨ 8 < n) :
    Calls Try.prog 49 #[v, .int .i64 n] w fun e w' => e = .returned (.tuple #[.int .u64 0, .int .i64 2]) ∧ w = w' := by
  rcases h with h | h
  all_goals
    go_enter Try.func49, Try.ntmps49
    go_wp2_with fail
    go_ret2
    exact ⟨rfl, rfl⟩

set_option maxHeartbeats 400000 in
theorem readFixed_short_len (w : World) (v : Value) (l : List UInt8) (n : Int) (hr : Rd w v l) (h1 : 1 ≤ n) (h2 : n ≤ 8) (h3 : l.length < n) :
    Calls Try.prog 49 #[v, .int .i64 n] w fun e w' => e = .returned (.tuple #[.int .u64 0, .int .i64 4]) ∧ w = w' := by
  obtain ⟨A, cap, rfl, hle, hm, hA, hc⟩ := hr
  clear hA hc
  unfold maxLen at hm
  go_enter Try.func49, Try.ntmps49
  go_wp2_with fail
  go_ret2
  exact ⟨rfl, rfl⟩

set_option maxHeartbeats 400000 in
theorem readFixed_good_ref (w : World) (v : Value) (l : List UInt8) (n : Int) (hr : Rd w v l) (h1 : 1 ≤ n) (h2 : n ≤ 8) (h3 : n ≤ l.length) :
    Calls Try.prog 59 #[v, .int .i64 n] w fun e w' => e = .returned (.tuple #[.int .u64 (leN (l.take n.toNat)), .int .i64 0]) ∧ w = w' := by
  obtain ⟨N, rfl⟩ : ∃ N : Nat, n = N := ⟨n.toNat, by omega⟩
  rw [Int.toNat_natCast]
  obtain ⟨A, cap, rfl, hle, hm, hA, hc⟩ := hr
  obtain ⟨b, o, rfl, hc2⟩ := hc (by intro h; subst h; simp at h3; omega)
  clear hA hc
  unfold maxLen at hm
  have HC := Lib.hid hc2
  clear hc2
  have d1 : decide ((N : Int) < 1) = false := by simp; omega
  have d2 : decide ((8 : Int) < (N : Int)) = false := by simp; omega
  go_enter Try.func59, Try.ntmps59
  go_wp2_with fail
  go_loop [6, 7] (fun x i => ∃ k : Nat, k ≤ N ∧ i = .int .i64 k ∧ x = .int .u64 (leN (l.take k))) (fun _ i => N - (intOf i).toNat)
  case atStart => exact ⟨0, Nat.zero_le _, rfl, rfl⟩
  case round =>
    obtain ⟨k, hk, rfl, rfl⟩ := hrel
    by_cases hlt : k < N
    · have hcell := HC.out k (by omega)
      go_wp2_with fail
      go_round
      case rel =>
        refine ⟨k + 1, by omega, by go_num, ?_⟩
        rw [or_byte _ _ _ (leN_take_lt l k) (UInt8.toNat_lt _) (by omega), leN_take_succ l k (by omega)]
      case measure => simp [intOf]; omega
    · obtain rfl : k = N := by omega
      go_wp2_with fail
      go_ret2
      exact ⟨rfl, rfl⟩

set_option maxHeartbeats 400000 in
theorem readFixed_arg_ref (w : World) (v : Value) (n : Int) (h : n < 1 ∨ 8 < n) :
    Calls Try.prog 59 #[v, .int .i64 n] w fun e w' => e = .returned (.tuple #[.int .u64 0, .int .i64 2]) ∧ w = w' := by
  rcases h with h | h
  all_goals
    go_enter Try.func59, Try.ntmps59
    go_wp2_with fail
    go_ret2
    exact ⟨rfl, rfl⟩

set_option maxHeartbeats 400000 in
theorem readFixed_short_ref (w : World) (v : Value) (l : List UInt8) (n : Int) (hr : Rd w v l) (h1 : 1 ≤ n) (h2 : n ≤ 8) (h3 : l.length < n) :
    Calls Try.prog 59 #[v, .int .i64 n] w fun e w' => e = .returned (.tuple #[.int .u64 0, .int .i64 4]) ∧ w = w' := by
  obtain ⟨A, cap, rfl, hle, hm, hA, hc⟩ := hr
  clear hA hc
  unfold maxLen at hm
  go_enter Try.func59, Try.ntmps59
  go_wp2_with fail
  go_ret2
  exact ⟨rfl, rfl⟩

end Go.Proofs.Ytdjnjhlgpflcjaa
