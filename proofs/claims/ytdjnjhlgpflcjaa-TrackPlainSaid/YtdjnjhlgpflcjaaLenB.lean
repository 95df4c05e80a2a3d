/- The contracts of the functions that write fixed numbers. -/
import Derived.Test.YtdjnjhlgpflcjaaLenA
namespace Go.Proofs.Ytdjnjhlgpflcjaa
open Go.RowKit

/-- Two results: a slice of bytes that the call owns, and an error's number. -/
def RetBE (w : World) (l : List UInt8) (r : Int) (e : Ending) (w' : World) : Prop := ∃ v, e = .returned (.tuple #[v, .int .i64 r]) ∧ Own w' w.heap.size v l ∧ Ext w w'

/-- What the test at the head of a fixed number's writing finds. -/
theorem fixOk_cases (x n : Int) : (fixOk x n = false ∧ (n < 1 ∨ 8 < n ∨ (1 ≤ n ∧ n < 8 ∧ (x / 2 ^ (8 * n).toNat != 0) = true))) ∨
    (fixOk x n = true ∧ (n = 8 ∨ (1 ≤ n ∧ n < 8 ∧ (x / 2 ^ (8 * n).toNat != 0) = false))) := by
  unfold fixOk
  by_cases h1 : 1 ≤ n
  · by_cases h2 : n ≤ 8
    · by_cases h3 : n = 8
      · exact .inr ⟨by simp [h3], .inl h3⟩
      · by_cases h4 : x / 2 ^ (8 * n).toNat = 0
        · exact .inr ⟨by simp [h1, h2, h4], .inr ⟨h1, by omega, by simp [h4]⟩⟩
        · exact .inl ⟨by simp [h3, h4], .inr (.inr ⟨h1, by omega, by simp [h4]⟩)⟩
    · exact .inl ⟨by simp [h2], .inr (.inl (by omega))⟩
  · exact .inl ⟨by simp [h1], .inl (by omega)⟩

theorem shr_byte (x : Int) (k : Nat) : 0 ≤ x / 2 ^ (8 * k) % 256 ∧ x / 2 ^ (8 * k) % 256 < 256 := by omega


set_option maxHeartbeats 400000 in
theorem appendFixed_bad_len (w : World) (v : Value) (x n : Int) (h : fixOk x n = false) :
    Calls Try.prog 48 #[v, .int .u64 x, .int .i64 n] w (RetBE w [] 2) := by
  rcases fixOk_cases x n with ⟨_, h1 | h1 | ⟨h1, h2, h3⟩⟩ | ⟨h1, _⟩
  all_goals first | (rw [h] at h1; cases h1; done) | skip
  all_goals
    clear h
    go_enter Try.func48, Try.ntmps48
    go_wp2_with fail
    go_ret2
    exact ⟨_, rfl, Own.nil _ _, Ext.refl _⟩

set_option maxHeartbeats 800000 in
theorem appendFixed_good_len (w : World) (v : Value) (l : List UInt8) (x n : Int) (hr : Rd w v l) (hl : l.length ≤ 9000000) (h : fixOk x n = true) :
    Calls Try.prog 48 #[v, .int .u64 x, .int .i64 n] w (RetBE w (l ++ fixB x n.toNat) 0) := by
  have hn : 1 ≤ n ∧ n ≤ 8 := by
    rcases fixOk_cases x n with ⟨h1, _⟩ | ⟨_, h1 | ⟨h1, h2, _⟩⟩
    · rw [h] at h1; cases h1
    · omega
    · omega
  obtain ⟨hn1, hn2⟩ := hn
  obtain ⟨N, rfl⟩ : ∃ N : Nat, n = N := ⟨n.toNat, by omega⟩
  have HR := Lib.hid hr
  clear hr
  have hcase := fixOk_cases x N
  rcases hcase with ⟨h1, _⟩ | ⟨_, h1⟩
  · rw [h] at h1; cases h1
  · clear h
    have hx : (N : Int) = 8 ∨ ((N : Int) < 8 ∧ (x / 2 ^ (8 * N) != 0) = false) := by
      rw [show (8 * (N : Int)).toNat = 8 * N from by omega] at h1
      rcases h1 with h1 | ⟨_, h1, h2⟩
      · exact .inl h1
      · exact .inr ⟨h1, h2⟩
    clear h1
    rw [Int.toNat_natCast]
    have d1 : decide ((N : Int) < 1) = false := by simp; omega
    have d2 : decide ((8 : Int) < (N : Int)) = false := by simp; omega
    rcases hx with hx | ⟨hx, hy⟩
    all_goals
      go_enter Try.func48, Try.ntmps48
      go_wp2_with (go_at_call 47; refine (clone_c _ _ _ HR.out (by omega)).mono ?_; rintro e w1 ⟨v1, rfl, ho, hx1⟩)
      go_loopw [8, 30] (fun o i wr => ∃ k : Nat, k ≤ N ∧ i = .int .i64 k ∧ Own wr w.heap.size o (l ++ fixB x k) ∧ Ext w wr) (fun _ i _ => N - (intOf i).toNat)
      case atStart => exact ⟨0, Nat.zero_le _, rfl, by simpa [fixB] using ho, hx1⟩
      case round =>
        obtain ⟨k, hk, rfl, ho2, hx2⟩ := hrel
        have hlen := fixB_length x k
        by_cases hlt : k < N
        · go_wp2_with (at_builtin; go_must (refine wpl_append_one bt (x / 2 ^ (8 * k) % 256) ho2 (shr_byte x k).1 (shr_byte x k).2 rfl _ _ rfl rfl rfl (by simp [hlen]; omega) (Ext.size hx2) ?_); intro v3 w3 ho3 hb3)
          go_roundw
          case rel => exact ⟨k + 1, by omega, by go_num, by rw [fixB_succ, ← List.append_assoc]; exact ho3, hx2.below hb3 (Nat.le_refl _)⟩
          case measure => simp [intOf]; omega
        · obtain rfl : k = N := by omega
          go_wp2_with fail
          go_ret2
          exact ⟨_, rfl, ho2, hx2⟩

set_option maxHeartbeats 400000 in
theorem appendFixed_bad_ref (w : World) (v : Value) (x n : Int) (h : fixOk x n = false) :
    Calls Try.prog 58 #[v, .int .u64 x, .int .i64 n] w (RetBE w [] 2) := by
  rcases fixOk_cases x n with ⟨_, h1 | h1 | ⟨h1, h2, h3⟩⟩ | ⟨h1, _⟩
  all_goals first | (rw [h] at h1; cases h1; done) | skip
  all_goals
    clear h
    go_enter Try.func58, Try.ntmps58
    go_wp2_with fail
    go_ret2
    exact ⟨_, rfl, Own.nil _ _, Ext.refl _⟩

set_option maxHeartbeats 800000 in
theorem appendFixed_good_ref (w : World) (v : Value) (l : List UInt8) (x n : Int) (hr : Rd w v l) (hl : l.length ≤ 9000000) (h : fixOk x n = true) :
    Calls Try.prog 58 #[v, .int .u64 x, .int .i64 n] w (RetBE w (l ++ fixB x n.toNat) 0) := by
  have hn : 1 ≤ n ∧ n ≤ 8 := by
    rcases fixOk_cases x n with ⟨h1, _⟩ | ⟨_, h1 | ⟨h1, h2, _⟩⟩
    · rw [h] at h1; cases h1
    · omega
    · omega
  obtain ⟨hn1, hn2⟩ := hn
  obtain ⟨N, rfl⟩ : ∃ N : Nat, n = N := ⟨n.toNat, by omega⟩
  have HR := Lib.hid hr
  clear hr
  have hcase := fixOk_cases x N
  rcases hcase with ⟨h1, _⟩ | ⟨_, h1⟩
  · rw [h] at h1; cases h1
  · clear h
    have hx : (N : Int) = 8 ∨ ((N : Int) < 8 ∧ (x / 2 ^ (8 * N) != 0) = false) := by
      rw [show (8 * (N : Int)).toNat = 8 * N from by omega] at h1
      rcases h1 with h1 | ⟨_, h1, h2⟩
      · exact .inl h1
      · exact .inr ⟨h1, h2⟩
    clear h1
    rw [Int.toNat_natCast]
    have d1 : decide ((N : Int) < 1) = false := by simp; omega
    have d2 : decide ((8 : Int) < (N : Int)) = false := by simp; omega
    rcases hx with hx | ⟨hx, hy⟩
    all_goals
      go_enter Try.func58, Try.ntmps58
      go_wp2_with (at_builtin; refine wpl_clone bt HR.out rfl _ _ rfl rfl rfl (by omega) ?_; intro v1 w1 ho hx1)
      go_loopw [8, 9] (fun o i wr => ∃ k : Nat, k ≤ N ∧ i = .int .i64 k ∧ Own wr w.heap.size o (l ++ fixB x k) ∧ Ext w wr) (fun _ i _ => N - (intOf i).toNat)
      case atStart => exact ⟨0, Nat.zero_le _, rfl, by simpa [fixB] using ho, hx1⟩
      case round =>
        obtain ⟨k, hk, rfl, ho2, hx2⟩ := hrel
        have hlen := fixB_length x k
        by_cases hlt : k < N
        · go_wp2_with (at_builtin; go_must (refine wpl_append_one bt (x / 2 ^ (8 * k) % 256) ho2 (shr_byte x k).1 (shr_byte x k).2 rfl _ _ rfl rfl rfl (by simp [hlen]; omega) (Ext.size hx2) ?_); intro v3 w3 ho3 hb3)
          go_roundw
          case rel => exact ⟨k + 1, by omega, by go_num, by rw [fixB_succ, ← List.append_assoc]; exact ho3, hx2.below hb3 (Nat.le_refl _)⟩
          case measure => simp [intOf]; omega
        · obtain rfl : k = N := by omega
          go_wp2_with fail
          go_ret2
          exact ⟨_, rfl, ho2, hx2⟩
end Go.Proofs.Ytdjnjhlgpflcjaa
