/- The contracts of fixed numbers, whole: whatever the number of bytes. -/
import Derived.Test.YtdjnjhlgpflcjaaLenC
namespace Go.Proofs.Ytdjnjhlgpflcjaa
open Go.RowKit

/-- What comes of a fixed number's writing. -/
def fixR (l : List UInt8) (x n : Int) : List UInt8 × Int := if fixOk x n = true then (l ++ fixB x n.toNat, 0) else ([], 2)
/-- What is read of a fixed number. -/
def readF (l : List UInt8) (n : Int) : Int × Int := if n < 1 ∨ 8 < n then (0, 2) else if (l.length : Int) < n then (0, 4) else ((leN (l.take n.toNat) : Int), 0)

theorem appendFixed_at_len (w : World) (v : Value) (l : List UInt8) (x n : Int) (m : List UInt8) (r : Int) (hr : Rd w v l) (hl : l.length ≤ 9000000) (h : fixR l x n = (m, r)) :
    Calls Try.prog 48 #[v, .int .u64 x, .int .i64 n] w (RetBE w m r) := by
  unfold fixR at h
  by_cases hk : fixOk x n = true
  · rw [if_pos hk] at h
    injection h with h1 h2
    subst h1 h2
    exact appendFixed_good_len w v l x n hr hl hk
  · rw [if_neg hk] at h
    injection h with h1 h2
    subst h1 h2
    exact appendFixed_bad_len w v x n (by simpa using hk)

theorem readFixed_at_len (w : World) (v : Value) (l : List UInt8) (n x r : Int) (hr : Rd w v l) (h : readF l n = (x, r)) :
    Calls Try.prog 49 #[v, .int .i64 n] w fun e w' => e = .returned (.tuple #[.int .u64 x, .int .i64 r]) ∧ w = w' := by
  unfold readF at h
  by_cases h1 : n < 1 ∨ 8 < n
  · rw [if_pos h1] at h
    injection h with h2 h3
    subst h2 h3
    exact readFixed_arg_len w v n h1
  · rw [if_neg h1] at h
    by_cases h4 : (l.length : Int) < n
    · rw [if_pos h4] at h
      injection h with h2 h3
      subst h2 h3
      exact readFixed_short_len w v l n hr (by omega) (by omega) h4
    · rw [if_neg h4] at h
      injection h with h2 h3
      subst h2 h3
      exact readFixed_good_len w v l n hr (by omega) (by omega) (by omega)

theorem appendFixed_at_ref (w : World) (v : Value) (l : List UInt8) (x n : Int) (m : List UInt8) (r : Int) (hr : Rd w v l) (hl : l.length ≤ 9000000) (h : fixR l x n = (m, r)) :
    Calls Try.prog 58 #[v, .int .u64 x, .int .i64 n] w (RetBE w m r) := by
  unfold fixR at h
  by_cases hk : fixOk x n = true
  · rw [if_pos hk] at h
    injection h with h1 h2
    subst h1 h2
    exact appendFixed_good_ref w v l x n hr hl hk
  · rw [if_neg hk] at h
    injection h with h1 h2
    subst h1 h2
    exact appendFixed_bad_ref w v x n (by simpa using hk)

theorem readFixed_at_ref (w : World) (v : Value) (l : List UInt8) (n x r : Int) (hr : Rd w v l) (h : readF l n = (x, r)) :
    Calls Try.prog 59 #[v, .int .i64 n] w fun e w' => e = .returned (.tuple #[.int .u64 x, .int .i64 r]) ∧ w = w' := by
  unfold readF at h
  by_cases h1 : n < 1 ∨ 8 < n
  · rw [if_pos h1] at h
    injection h with h2 h3
    subst h2 h3
    exact readFixed_arg_ref w v n h1
  · rw [if_neg h1] at h
    by_cases h4 : (l.length : Int) < n
    · rw [if_pos h4] at h
      injection h with h2 h3
      subst h2 h3
      exact readFixed_short_ref w v l n hr (by omega) (by omega) h4
    · rw [if_neg h4] at h
      injection h with h2 h3
      subst h2 h3
      exact readFixed_good_ref w v l n hr (by omega) (by omega) (by omega)
end Go.Proofs.Ytdjnjhlgpflcjaa
