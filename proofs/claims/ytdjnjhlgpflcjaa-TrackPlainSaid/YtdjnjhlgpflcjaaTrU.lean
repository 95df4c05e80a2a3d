/- Search among strings, and lists that are equal. -/
import Derived.Test.YtdjnjhlgpflcjaaTrN
import Derived.BigQuiet
namespace Go.Proofs.Ytdjnjhlgpflcjaa
open Go.RowKit

theorem cnan_c (w : World) (s : ByteArray) : Calls Try.prog 54 #[.string s] w fun e w' => e = .returned (.bool false) ∧ w = w' := by
  go_enter Try.func54, Try.ntmps54
  go_wp2_with fail
  go_ret
  exact ⟨by simp, rfl⟩
theorem snan_c (w : World) (s : ByteArray) : Calls Try.prog 51 #[.string s] w fun e w' => e = .returned (.bool false) ∧ w = w' := by
  go_enter Try.func51, Try.ntmps51
  go_wp2_with fail
  go_ret
  exact ⟨by simp, rfl⟩
def RetAnyB (w : World) (e : Ending) (w' : World) : Prop := (∃ r, e = .returned (.bool r)) ∧ w = w'
theorem less_any (w : World) (a b : ByteArray) : Calls Try.prog 50 #[.string a, .string b] w (RetAnyB w) := by
  go_enter Try.func50, Try.ntmps50
  go_wp2_with (go_at_call 54; refine (cnan_c _ _).mono ?_; rintro e w1 ⟨rfl, rfl⟩)
  go_ret
  exact ⟨⟨_, rfl⟩, rfl⟩

def RetAny (w : World) (e : Ending) (w' : World) : Prop := (∃ i b, e = .returned (.tuple #[.int .i64 i, .bool b])) ∧ w = w'
set_option maxRecDepth 100000 in
set_option maxHeartbeats 1000000 in
theorem bs_any (w : World) (A : Option Addr) (n c : Nat) (f : Nat → ByteArray) (nm : ByteArray) (hc : Cells w (.slice A n c) n (fun i => .string (f i))) (hn : n ≤ 1000) :
    Calls Try.prog 37 #[.slice A n c, .string nm] w (RetAny w) := by
  obtain ⟨A', c', hv, hc1, hc2, hc3⟩ := hc
  injection hv with e1 e2 e3
  subst e1 e3
  have HC := Lib.hid hc3
  clear hc3 hc2
  go_enter Try.func37, Try.ntmps37
  go_wp2_with fail
  go_loop [7, 8] (fun i j => ∃ a b : Nat, a ≤ b ∧ b ≤ n ∧ i = .int .i64 a ∧ j = .int .i64 b) (fun i j => (intOf j).toNat - (intOf i).toNat)
  case atStart => exact ⟨0, n, Nat.zero_le _, Nat.le_refl _, rfl, rfl⟩
  case round =>
    obtain ⟨a, b, hab, hbn, rfl, rfl⟩ := hrel
    by_cases hlt : a < b
    · have h1 : (a : Int) < (b : Int) := by omega
      obtain ⟨b0, o0, rfl, hcc⟩ := HC.out (by omega)
      have p := hcc ((a + b) / 2) (by omega)
      clear hcc
      go_wp2_with (first
        | (go_at_call 50; refine (less_any _ _ _).mono ?_; rintro e w1 ⟨⟨r, rfl⟩, rfl⟩; cases r)
        | fail)
      · go_round
        case rel => exact ⟨a, (a + b) / 2, by omega, by omega, rfl, by go_num⟩
        case measure => simp [intOf]; omega
      · go_round
        case rel => exact ⟨(a + b) / 2 + 1, b, by omega, by omega, by go_num, rfl⟩
        case measure => simp [intOf]; omega
    · obtain rfl : a = b := by omega
      by_cases han : a < n
      · have h2 : (a : Int) < (n : Int) := by omega
        obtain ⟨b0, o0, rfl, hcc⟩ := HC.out (by omega)
        have p := hcc a han
        clear hcc
        generalize f a = s at p
        cases hs : s.toList == nm.toList with
        | true =>
          go_wp2_with fail
          go_ret2
          exact ⟨⟨_, _, rfl⟩, rfl⟩
        | false =>
          go_wp2_with (go_at_call 51; refine (snan_c _ _).mono ?_; rintro e w1 ⟨rfl, rfl⟩)
          go_ret2
          exact ⟨⟨_, _, rfl⟩, rfl⟩
      · obtain rfl : a = n := by omega
        go_wp2_with fail
        go_ret2
        exact ⟨⟨_, _, rfl⟩, rfl⟩
end Go.Proofs.Ytdjnjhlgpflcjaa
