/- Plain laws: texts that were written are read back. No condition; no program. -/
import Derived.Test.YtdjnjhlgpflcjaaSpecC
namespace Go.Proofs.Ytdjnjhlgpflcjaa

/-- Each first part of a number's form is too short. -/
theorem readI_take (x : Int) (i : Nat) (h : i < (intB x).length) : readI ((intB x).take i) = (0, 0, 4) := by
  rcases i with _ | j
  · rfl
  · rcases intB_cases x with ⟨_, e, _⟩ | ⟨_, _, e, _⟩ | ⟨_, _, e, _⟩ | ⟨_, e, _⟩
    all_goals rw [e] at h ⊢
    · rw [fixB_length] at h
      omega
    all_goals
      rw [List.length_cons, fixB_length] at h
      rw [List.take_succ_cons]
    · rw [readI_wide 252 2 (.inl ⟨rfl, rfl⟩), if_pos (by rw [List.length_take]; omega)]
    · rw [readI_wide 253 3 (.inr (.inl ⟨rfl, rfl⟩)), if_pos (by rw [List.length_take]; omega)]
    · rw [readI_wide 254 8 (.inr (.inr ⟨rfl, rfl⟩)), if_pos (by rw [List.length_take]; omega)]

/-- A counted text is read back, whatever stands behind it. -/
theorem readT_textB (s t : List UInt8) (h : (s.length : Int) < 18446744073709551616) : readT (textB s ++ t) = (s, sizeI s.length + s.length, 0) := by
  have hi := readI_intB (s.length : Int) (by omega) h (s ++ t)
  have e : textB s ++ t = intB (s.length : Int) ++ (s ++ t) := by rw [textB, List.append_assoc]
  have hl := intB_length (s.length : Int)
  rw [e]
  unfold readT
  rw [hi]
  refine (if_pos rfl).trans ((if_neg ?_).trans ?_)
  · dsimp only
    rw [List.length_append, List.length_append, hl]
    omega
  · have e2 : sizeI (s.length : Int) + ((s.length : Nat) : Int).toNat = (intB (s.length : Int)).length + s.length := by rw [hl, Int.toNat_natCast]
    simp only [Int.toNat_natCast] at e2 ⊢
    rw [e2, List.take_length_add_append, List.take_left, ← hl, List.drop_left]

/-- An ended text is read back, whatever stands behind it. -/
theorem readZ_ended (s t : List UInt8) (h : s.contains 0 = false) : readZ (s ++ [0] ++ t) = (s, s.length + 1, 0) := by
  have hu : upZ (s ++ [0] ++ t) = s := by
    unfold upZ
    rw [List.append_assoc, List.takeWhile_append_of_pos]
    · simp
    · intro a ha
      have : a ≠ 0 := by
        rintro rfl
        have := List.contains_iff_mem.2 ha
        rw [h] at this
        cases this
      simpa using this
  unfold readZ
  rw [if_pos (by simp), hu]
end Go.Proofs.Ytdjnjhlgpflcjaa
