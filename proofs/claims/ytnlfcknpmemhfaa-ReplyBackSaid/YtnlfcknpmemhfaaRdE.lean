/- The contract of the reference's fields that must be 0. -/
import Derived.Test.YtnlfcknpmemhfaaRdD
namespace Go.Proofs.Ytnlfcknpmemhfaa
open Go.RowKit

theorem u8_nz {c : UInt8} (h : c ≠ 0) : ((c.toNat : Int) == 0) = false := by
  rw [beq_eq_false_iff_ne]
  intro e
  exact h (byte_zero (by rw [e]; rfl))

theorem any_take_succ (L : List UInt8) (k : Nat) (h : k < L.length) : (L.take (k + 1)).any (· != 0) = ((L.take k).any (· != 0) || (L.getD k 0 != 0)) := by
  rw [take_succ_getD L k h, List.any_append]
  simp

/-- What is read of bytes that must be 0. -/
def rN (n : Nat) (s : List UInt8 × Int) : List UInt8 × Int := rW ((rB n s).1.any (· != 0)) (rB n s).2

set_option maxRecDepth 100000 in
set_option maxHeartbeats 2000000 in
theorem zeros_r (a w : World) (g : Nat) (s : List UInt8 × Int) (n : Nat) (s' : List UInt8 × Int) (h : Rdr a w g s) (hn : n ≤ 100000) (hx : rN n s = s') :
    Calls Try.prog 87 #[.pointer (some ⟨g, 0, none⟩), .int .i64 (n : Int)] w (RetR a w g (.tuple #[]) s') := by
  have H := Lib.hid h
  obtain ⟨L, s1, hq⟩ : ∃ L s1, rB n s = (L, s1) := ⟨_, _, rfl⟩
  have hL : L.length = n := by have := rB_length n s; rw [hq] at this; exact this
  unfold rN at hx
  rw [hq] at hx
  dsimp only at hx
  have HQ := Lib.hid hq
  have HX := Lib.hid hx
  clear h hq hx
  subst hL
  go_enter Try.func87, Try.ntmps87
  go_wp2_with (go_at_call 86; refine (bytes_m a _ g s L.length _ _ H.out hn HQ.out).mono ?_; rintro e w1 ⟨v1, rfl, ho, R1, O1⟩; obtain ⟨A1, q1, rfl, z1, z2, z3, z4⟩ := ho.rd; have HC := Lib.hid z4; clear z3 z4; have O1' := Lib.hid O1; clear O1)
  go_loop [5, 6] (fun b i => ∃ k : Nat, k ≤ L.length ∧ b = .bool ((L.take k).any (· != 0)) ∧ i = .int .i64 k) (fun _ i => L.length - (intOf i).toNat)
  case atStart => exact ⟨0, Nat.zero_le _, rfl, rfl⟩
  case round =>
    obtain ⟨k, hk, rfl, rfl⟩ := hrel
    obtain ⟨q, hq⟩ : ∃ q, (L.take k).any (· != 0) = q := ⟨_, rfl⟩
    rw [hq]
    have HK := Lib.hid hq
    clear hq
    by_cases hlt : k < L.length
    · obtain ⟨b, o, rfl, hc2⟩ := HC.out (by intro h; subst h; simp at hlt)
      have hcell := hc2 k hlt
      clear hc2
      obtain ⟨c, hcv⟩ : ∃ c, c = L.getD k 0 := ⟨_, rfl⟩
      rw [← hcv] at hcell
      have HV := Lib.hid hcv
      clear hcv
      cases q
      · by_cases hc0 : c = 0
        · subst hc0
          have hz : (((0 : UInt8).toNat : Int) == 0) = true := rfl
          go_wp2_with fail
          go_round
          case rel => exact ⟨k + 1, by omega, by rw [any_take_succ L k hlt, HK.out, ← HV.out]; rfl, by go_num⟩
          case measure => simp [intOf]; omega
        · have hz : ((c.toNat : Int) == 0) = false := u8_nz hc0
          go_wp2_with fail
          go_round
          case rel => exact ⟨k + 1, by omega, by rw [any_take_succ L k hlt, HK.out, ← HV.out]; show Value.bool ((c.toNat : Int) != 0) = Value.bool (false || c != 0); rw [bne, hz]; simp [hc0], by go_num⟩
          case measure => simp [intOf]; omega
      · go_wp2_with fail
        go_round
        case rel => exact ⟨k + 1, by omega, by rw [any_take_succ L k hlt, HK.out]; rfl, by go_num⟩
        case measure => simp [intOf]; omega
    · obtain rfl : k = L.length := by omega
      rw [List.take_length] at HK
      rw [HK.out] at HX
      go_wp2_with (go_at_call 80; refine (wrong_m a _ g _ _ q R1 HX.out).mono ?_; rintro e w2 ⟨rfl, R2, O2⟩)
      refine bodyPost_end (results_none rfl _ _ _) rfl ?_
      exact ⟨rfl, R2, O1'.out.trans O2⟩
end Go.Proofs.Ytnlfcknpmemhfaa
