/- Plain laws: what was written is read back. No condition; no program. -/
import Derived.Test.YtdjnjhlgpflcjaaSpecB
namespace Go.Proofs.Ytdjnjhlgpflcjaa

theorem leN_fixB (x : Nat) (n : Nat) : leN (fixB (x : Int) n) = x % 2 ^ (8 * n) := by
  induction n with
  | zero => simp [fixB, leN, Nat.mod_one]
  | succ n ih =>
    rw [fixB_succ, leN_append, fixB_length, ih]
    have e : (UInt8.ofNat ((x : Int) / 2 ^ (8 * n) % 256).toNat).toNat = x / 2 ^ (8 * n) % 256 := by
      have : ((x : Int) / 2 ^ (8 * n) % 256) = ((x / 2 ^ (8 * n) % 256 : Nat) : Int) := by simp
      rw [this, Int.toNat_natCast, UInt8.toNat_ofNat']
      omega
    rw [e, show 8 * (n + 1) = 8 * n + 8 by omega, Nat.pow_add, Nat.mod_mul, Nat.mul_comm (2 ^ (8 * n))]

theorem intB_cases (x : Int) : (x ≤ 250 ∧ intB x = fixB x 1 ∧ sizeI x = 1) ∨ (250 < x ∧ x < 65536 ∧ intB x = 252 :: fixB x 2 ∧ sizeI x = 3) ∨
    (65536 ≤ x ∧ x < 16777216 ∧ intB x = 253 :: fixB x 3 ∧ sizeI x = 4) ∨ (16777216 ≤ x ∧ intB x = 254 :: fixB x 8 ∧ sizeI x = 9) := by
  unfold intB sizeI
  by_cases h1 : x ≤ 250
  · exact .inl ⟨h1, if_pos h1, if_pos h1⟩
  · by_cases h2 : x < 65536
    · exact .inr (.inl ⟨by omega, h2, by rw [if_neg h1, if_pos h2], by rw [if_neg h1, if_pos h2]⟩)
    · by_cases h3 : x < 16777216
      · exact .inr (.inr (.inl ⟨by omega, h3, by rw [if_neg h1, if_neg h2, if_pos h3], by rw [if_neg h1, if_neg h2, if_pos h3]⟩))
      · exact .inr (.inr (.inr ⟨by omega, by rw [if_neg h1, if_neg h2, if_neg h3], by rw [if_neg h1, if_neg h2, if_neg h3]⟩))

theorem readI_wide (c : UInt8) (n : Nat) (hc : (c = 252 ∧ n = 2) ∨ (c = 253 ∧ n = 3) ∨ (c = 254 ∧ n = 8)) (t : List UInt8) :
    readI (c :: t) = if t.length < n then (0, 0, 4) else ((leN (t.take n) : Int), n + 1, 0) := by
  rcases hc with ⟨rfl, rfl⟩ | ⟨rfl, rfl⟩ | ⟨rfl, rfl⟩ <;> rfl

theorem readI_small (c : UInt8) (t : List UInt8) (h : c.toNat ≤ 250) : readI (c :: t) = ((c.toNat : Int), 1, 0) :=
  if_pos h

/-- A counted number is read back, whatever stands behind it. -/
theorem readI_intB (x : Int) (h0 : 0 ≤ x) (h1 : x < 18446744073709551616) (t : List UInt8) : readI (intB x ++ t) = (x, sizeI x, 0) := by
  obtain ⟨X, rfl⟩ : ∃ X : Nat, x = X := ⟨x.toNat, by omega⟩
  rcases intB_cases (X : Int) with ⟨h, e, hs⟩ | ⟨h, h2, e, hs⟩ | ⟨h, h2, e, hs⟩ | ⟨h, e, hs⟩
  · have e2 : fixB (X : Int) 1 = [UInt8.ofNat X] := by
      have : (X : Int) % 256 = X := by omega
      simp [fixB, this]
    have e3 : (UInt8.ofNat X).toNat = X := by rw [UInt8.toNat_ofNat']; omega
    rw [e, e2, hs, List.singleton_append, readI_small _ _ (by rw [e3]; omega), e3]
  all_goals rw [e, hs, List.cons_append]
  · rw [readI_wide 252 2 (.inl ⟨rfl, rfl⟩), if_neg (by rw [List.length_append, fixB_length]; omega), List.take_append_of_le_length (by rw [fixB_length]; omega), List.take_of_length_le (by rw [fixB_length]; omega), leN_fixB, Nat.mod_eq_of_lt (by omega)]
  · rw [readI_wide 253 3 (.inr (.inl ⟨rfl, rfl⟩)), if_neg (by rw [List.length_append, fixB_length]; omega), List.take_append_of_le_length (by rw [fixB_length]; omega), List.take_of_length_le (by rw [fixB_length]; omega), leN_fixB, Nat.mod_eq_of_lt (by omega)]
  · rw [readI_wide 254 8 (.inr (.inr ⟨rfl, rfl⟩)), if_neg (by rw [List.length_append, fixB_length]; omega), List.take_append_of_le_length (by rw [fixB_length]; omega), List.take_of_length_le (by rw [fixB_length]; omega), leN_fixB, Nat.mod_eq_of_lt (by omega)]

/-- What is read is no number that a shorter form would hold. -/
theorem sizeI_of_readI {l : List UInt8} {x : Int} {n : Nat} (h : readI l = (x, n, 0)) : sizeI x ≤ n ∧ 0 ≤ x ∧ x < 18446744073709551616 := by
  rcases readI_cases l with ⟨_, he⟩ | ⟨c, t, rfl, ⟨hc, he⟩ | ⟨_, he⟩ | ⟨_, he⟩ | ⟨m, hm2, ⟨_, he⟩ | ⟨hm, he⟩⟩⟩
  all_goals
    rw [he] at h
    injection h with h1 h2
    injection h2 with h2 h3
  · omega
  · subst h1 h2
    rw [show sizeI (c.toNat : Int) = 1 from if_pos (by omega)]
    omega
  · omega
  · omega
  · omega
  · have hlt := leN_take_lt t m
    subst h1 h2
    have hs := sizeI_le ((leN (t.take m) : Nat) : Int)
    rcases intB_cases ((leN (t.take m) : Nat) : Int) with ⟨h, e, hs⟩ | ⟨h, h2, e, hs⟩ | ⟨h, h2, e, hs⟩ | ⟨h, e, hs⟩
    all_goals rcases hm2 with ⟨_, rfl⟩ | ⟨_, rfl⟩ | ⟨_, rfl⟩ <;> omega
end Go.Proofs.Ytdjnjhlgpflcjaa
