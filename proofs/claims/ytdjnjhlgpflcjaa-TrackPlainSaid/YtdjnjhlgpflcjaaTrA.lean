/- May a change be: both sides. -/
import Derived.Test.YtdjnjhlgpflcjaaTrS
import Derived.Test.YtdjnjhlgpflcjaaLenF
import Derived.Test.YtdjnjhlgpflcjaaRdB
import Derived.Test.YtdjnjhlgpflcjaaRecs
namespace Go.Proofs.Ytdjnjhlgpflcjaa
open Go.RowKit

/-- A change's cells. -/
def chgC (c : Chg) : List Value := [.int .i64 c.1, .string (strL c.2.1), .string (strL c.2.2)]

set_option maxRecDepth 100000 in
set_option maxHeartbeats 1000000 in
theorem may_g (w : World) (k : Int) (n v : List UInt8) (b : Bool) (h : mayP (k, n, v) = b) :
    Calls Try.prog 20 #[.agg #[.int .i64 k, .string (strL n), .string (strL v)]] w fun e w' => e = .returned (.bool b) ∧ w' = w.alloc (.cells #[.int .i64 k, .string (strL n), .string (strL v)] 28) := by
  have e1 : (strL v).toList = v := strL_tl v
  have e2 : (strL n).toList = n := strL_tl n
  have e3 : (strL v).size = v.length := strL_size v
  unfold mayP at h
  dsimp only at h
  by_cases h0 : k = 0
  · subst h0
    rw [if_pos rfl] at h
    subst h
    clear e1 e2 e3
    go_enter Try.func20, Try.ntmps20
    go_wp2_with fail
    go_ret
    exact ⟨rfl, rfl⟩
  rw [if_neg h0] at h
  have b0 : (k == 0) = false := by simpa using h0
  by_cases h2 : k = 2
  · subst h2
    rw [if_pos rfl] at h
    clear h0
    cases q1 : v == [49] with
    | false =>
      rw [q1, Bool.false_and] at h
      subst h
      have c1 : ((strL v).toList == [49]) = false := by rw [e1]; exact q1
      clear e1 e2 q1 b0
      go_enter Try.func20, Try.ntmps20
      go_wp2_with fail
      go_ret
      exact ⟨rfl, rfl⟩
    | true =>
      rw [q1, Bool.true_and] at h
      have c1 : ((strL v).toList == [49]) = true := by rw [e1]; exact q1
      have HB := Lib.hid h
      clear e1 q1 b0 h
      go_enter Try.func20, Try.ntmps20
      go_wp2_with fail
      go_ret
      exact ⟨by rw [← HB.out]; rfl, rfl⟩
  rw [if_neg h2] at h
  have b2 : (k == 2) = false := by simpa using h2
  by_cases h5 : k = 5
  · subst h5
    rw [if_pos rfl] at h
    clear h0 h2
    by_cases hl : v.length = 8
    · rw [decide_eq_true hl, Bool.true_and] at h
      have HB := Lib.hid h
      have c1 : ((strL v).size : Int) = 8 := by rw [e3]; omega
      clear e1 b0 b2 h
      go_enter Try.func20, Try.ntmps20
      go_wp2_with fail
      go_ret
      exact ⟨by rw [← HB.out]; rfl, rfl⟩
    · rw [decide_eq_false hl, Bool.false_and] at h
      subst h
      have c1 : (((strL v).size : Int) == 8) = false := by rw [e3]; simp; omega
      have c2 : (((strL v).size : Int) != 8) = true := by rw [e3]; simp; omega
      clear e1 e2 b0 b2
      go_enter Try.func20, Try.ntmps20
      go_wp2_with fail
      go_ret
      exact ⟨rfl, rfl⟩
  rw [if_neg h5] at h
  have b5 : (k == 5) = false := by simpa using h5
  by_cases h6 : k = 1 ∨ k = 3 ∨ k = 4
  · rw [if_pos h6] at h
    have HB := Lib.hid h
    clear h e1
    rcases h6 with rfl | rfl | rfl
    all_goals
      clear h0 h2 h5 b0 b2 b5
      go_enter Try.func20, Try.ntmps20
      go_wp2_with fail
      go_ret
      exact ⟨by rw [← HB.out]; rfl, rfl⟩
  · rw [if_neg h6] at h
    subst h
    have b1 : (k == 1) = false := by simp; omega
    have b3 : (k == 3) = false := by simp; omega
    have b4 : (k == 4) = false := by simp; omega
    clear e1 e2 e3 h0 h2 h5 h6
    go_enter Try.func20, Try.ntmps20
    go_wp2_with fail
    go_ret
    exact ⟨rfl, rfl⟩

set_option maxRecDepth 100000 in
set_option maxHeartbeats 1000000 in
theorem may_r (w : World) (k : Int) (n v : List UInt8) (b : Bool) (h : mayP (k, n, v) = b) :
    Calls Try.prog 29 #[.agg #[.int .i64 k, .string (strL n), .string (strL v)]] w fun e w' => e = .returned (.bool b) ∧ w' = w.alloc (.cells #[.int .i64 k, .string (strL n), .string (strL v)] 28) := by
  have e1 : (strL v).toList = v := strL_tl v
  have e2 : (strL n).toList = n := strL_tl n
  have e3 : (strL v).size = v.length := strL_size v
  unfold mayP at h
  dsimp only at h
  by_cases h0 : k = 0
  · subst h0
    rw [if_pos rfl] at h
    subst h
    clear e1 e2 e3
    go_enter Try.func29, Try.ntmps29
    go_wp2_with fail
    go_ret
    exact ⟨rfl, rfl⟩
  rw [if_neg h0] at h
  have b0 : (k == 0) = false := by simpa using h0
  cases qn : n.isEmpty with
  | false =>
    have c0 : (strL n).toList.isEmpty = false := by rw [e2]; exact qn
    rw [qn] at h
    have hf : b = false := by rw [← h]; split <;> (try split) <;> (try split) <;> simp
    subst hf
    clear h e1 e2 e3 qn
    by_cases h2 : k = 2
    · subst h2
      clear h0
      go_enter Try.func29, Try.ntmps29
      go_wp2_with fail
      go_ret
      exact ⟨rfl, rfl⟩
    have b2 : (k == 2) = false := by simpa using h2
    by_cases h5 : k = 5
    · subst h5
      clear h0 h2
      go_enter Try.func29, Try.ntmps29
      go_wp2_with fail
      go_ret
      exact ⟨rfl, rfl⟩
    have b5 : (k == 5) = false := by simpa using h5
    by_cases g1 : 0 ≤ k
    · by_cases g2 : k ≤ 5
      · clear h0 h2 h5
        go_enter Try.func29, Try.ntmps29
        go_wp2_with fail
        go_ret
        exact ⟨rfl, rfl⟩
      · clear h0 h2 h5
        go_enter Try.func29, Try.ntmps29
        go_wp2_with fail
        go_ret
        exact ⟨rfl, rfl⟩
    · clear h0 h2 h5
      go_enter Try.func29, Try.ntmps29
      go_wp2_with fail
      go_ret
      exact ⟨rfl, rfl⟩
  | true =>
    have c0 : (strL n).toList.isEmpty = true := by rw [e2]; exact qn
    rw [qn] at h
    by_cases h2 : k = 2
    · subst h2
      rw [if_pos rfl, Bool.and_true] at h
      have c1 : ((strL v).toList == [49]) = b := by rw [e1]; exact h
      clear h e1 e2 e3 qn h0
      go_enter Try.func29, Try.ntmps29
      go_wp2_with fail
      go_ret
      first | exact ⟨rfl, rfl⟩ | exact ⟨by rw [← c1]; rfl, rfl⟩
    rw [if_neg h2] at h
    have b2 : (k == 2) = false := by simpa using h2
    by_cases h5 : k = 5
    · subst h5
      rw [if_pos rfl, Bool.and_true] at h
      have c1 : (((strL v).size : Int) == 8) = b := by rw [e3, ← h]; by_cases hl : v.length = 8 <;> simp [hl]; omega
      clear h e1 e2 e3 qn h0 h2
      go_enter Try.func29, Try.ntmps29
      go_wp2_with fail
      go_ret
      first | exact ⟨rfl, rfl⟩ | exact ⟨by rw [← c1]; rfl, rfl⟩
    rw [if_neg h5] at h
    have b5 : (k == 5) = false := by simpa using h5
    by_cases g1 : 0 ≤ k
    · by_cases g2 : k ≤ 5
      · rw [if_pos (by omega)] at h
        subst h
        clear h0 h2 h5
        go_enter Try.func29, Try.ntmps29
        go_wp2_with fail
        go_ret
        exact ⟨rfl, rfl⟩
      · rw [if_neg (by omega)] at h
        subst h
        clear h0 h2 h5
        go_enter Try.func29, Try.ntmps29
        go_wp2_with fail
        go_ret
        exact ⟨rfl, rfl⟩
    · rw [if_neg (by omega)] at h
      subst h
      clear h0 h2 h5
      go_enter Try.func29, Try.ntmps29
      go_wp2_with fail
      go_ret
      exact ⟨rfl, rfl⟩
end Go.Proofs.Ytdjnjhlgpflcjaa
