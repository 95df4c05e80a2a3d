/- Plain laws of numbers and texts as bytes. No condition; no program. -/
import Derived.Test.YtdjnjhlgpflcjaaSpec
namespace Go.Proofs.Ytdjnjhlgpflcjaa

theorem readI_cases (l : List UInt8) : (l = [] ∧ readI l = (0, 0, 4)) ∨
    (∃ c t, l = c :: t ∧ ((c.toNat ≤ 250 ∧ readI l = ((c.toNat : Int), 1, 0)) ∨ (c = 251 ∧ readI l = (0, 0, 5)) ∨ (c = 255 ∧ readI l = (0, 0, 5)) ∨
      ∃ n, ((c = 252 ∧ n = 2) ∨ (c = 253 ∧ n = 3) ∨ (c = 254 ∧ n = 8)) ∧ ((t.length < n ∧ readI l = (0, 0, 4)) ∨ (n ≤ t.length ∧ readI l = ((leN (t.take n) : Int), n + 1, 0))))) := by
  rcases l with _ | ⟨c, t⟩
  · exact .inl ⟨rfl, rfl⟩
  · refine .inr ⟨c, t, rfl, ?_⟩
    have hc := c.toNat_lt
    by_cases h1 : c.toNat ≤ 250
    · exact .inl ⟨h1, by simp [readI, h1]⟩
    · have hcase : c = 251 ∨ c = 252 ∨ c = 253 ∨ c = 254 ∨ c = 255 := by
        have : c.toNat = 251 ∨ c.toNat = 252 ∨ c.toNat = 253 ∨ c.toNat = 254 ∨ c.toNat = 255 := by omega
        rcases this with h | h | h | h | h
        · exact .inl (UInt8.toNat.inj h)
        · exact .inr (.inl (UInt8.toNat.inj h))
        · exact .inr (.inr (.inl (UInt8.toNat.inj h)))
        · exact .inr (.inr (.inr (.inl (UInt8.toNat.inj h))))
        · exact .inr (.inr (.inr (.inr (UInt8.toNat.inj h))))
      rcases hcase with rfl | rfl | rfl | rfl | rfl
      · exact .inr (.inl ⟨rfl, by simp [readI]⟩)
      · refine .inr (.inr (.inr ⟨2, .inl ⟨rfl, rfl⟩, ?_⟩))
        by_cases h : t.length < 2
        · exact .inl ⟨h, by simp [readI, wide, h]⟩
        · exact .inr ⟨by omega, by simp [readI, wide, h]⟩
      · refine .inr (.inr (.inr ⟨3, .inr (.inl ⟨rfl, rfl⟩), ?_⟩))
        by_cases h : t.length < 3
        · exact .inl ⟨h, by simp [readI, wide, h]⟩
        · exact .inr ⟨by omega, by simp [readI, wide, h]⟩
      · refine .inr (.inr (.inr ⟨8, .inr (.inr ⟨rfl, rfl⟩), ?_⟩))
        by_cases h : t.length < 8
        · exact .inl ⟨h, by simp [readI, wide, h]⟩
        · exact .inr ⟨by omega, by simp [readI, wide, h]⟩
      · exact .inr (.inr (.inl ⟨rfl, by simp [readI]⟩))

theorem readI_ok {l : List UInt8} {x : Int} {n : Nat} (h : readI l = (x, n, 0)) : 1 ≤ n ∧ n ≤ l.length ∧ 0 ≤ x := by
  rcases readI_cases l with ⟨_, he⟩ | ⟨c, t, rfl, ⟨_, he⟩ | ⟨_, he⟩ | ⟨_, he⟩ | ⟨m, _, ⟨_, he⟩ | ⟨hm, he⟩⟩⟩
  all_goals
    rw [he] at h
    injection h with h1 h2
    injection h2 with h2 h3
  · omega
  · subst h1 h2
    simp
  · omega
  · omega
  · omega
  · subst h1 h2
    rw [List.length_cons]
    omega

theorem readI_err {l : List UInt8} {x : Int} {n : Nat} {e : Int} (h : readI l = (x, n, e)) : e = 0 ∨ (x = 0 ∧ n = 0 ∧ (e = 4 ∨ e = 5)) := by
  rcases readI_cases l with ⟨_, he⟩ | ⟨c, t, rfl, ⟨_, he⟩ | ⟨_, he⟩ | ⟨_, he⟩ | ⟨m, _, ⟨_, he⟩ | ⟨hm, he⟩⟩⟩
  all_goals
    rw [he] at h
    injection h with h1 h2
    injection h2 with h2 h3
    omega

/-- A counted text. -/
def textB (s : List UInt8) : List UInt8 := intB (s.length : Int) ++ s

/-- What is read of a counted text. -/
def readT (l : List UInt8) : List UInt8 × Nat × Int :=
  if (readI l).2.2 = 0 then
    if ((l.length : Int) - (readI l).2.1) < (readI l).1 then ([], 0, 4)
    else ((l.take ((readI l).2.1 + (readI l).1.toNat)).drop (readI l).2.1, (readI l).2.1 + (readI l).1.toNat, 0)
  else ([], 0, (readI l).2.2)

/-- The bytes ahead of the first nought. -/
def upZ (l : List UInt8) : List UInt8 := l.takeWhile (· != 0)

/-- What is read of an ended text. -/
def readZ (l : List UInt8) : List UInt8 × Nat × Int := if l.contains 0 then (upZ l, (upZ l).length + 1, 0) else ([], 0, 4)

theorem upZ_take (l : List UInt8) : l.take (upZ l).length = upZ l := by
  unfold upZ
  induction l with
  | nil => rfl
  | cons a t ih =>
    rw [List.takeWhile_cons]
    split
    · rw [List.length_cons, List.take_succ_cons, ih]
    · rfl

theorem upZ_le (l : List UInt8) : (upZ l).length ≤ l.length := by
  have := congrArg List.length (upZ_take l)
  rw [List.length_take] at this
  omega

theorem upZ_lt : ∀ (l : List UInt8), l.contains 0 = true → (upZ l).length < l.length
  | [], h => by simp at h
  | a :: t, h => by
    by_cases ha : a = 0
    · subst ha
      simp [upZ]
    · have h2 : upZ (a :: t) = a :: upZ t := by simp [upZ, ha]
      have h3 : t.contains 0 = true := by
        rw [List.contains_cons] at h
        have : ((0 : UInt8) == a) = false := by simpa using Ne.symm ha
        rwa [this, Bool.false_or] at h
      have := upZ_lt t h3
      rw [h2, List.length_cons, List.length_cons]
      omega

theorem upZ_at : ∀ (l : List UInt8) (k : Nat), k < l.length → l.getD k 0 = 0 → (∀ j, j < k → l.getD j 0 ≠ 0) → (upZ l).length = k ∧ l.contains 0 = true
  | [], k, h, _, _ => by simp at h
  | a :: t, 0, _, h0, _ => by
    have : a = 0 := by simpa using h0
    subst this
    exact ⟨by simp [upZ], by simp⟩
  | a :: t, k + 1, h, h0, hj => by
    have ha : a ≠ 0 := by simpa using hj 0 (by omega)
    obtain ⟨h1, h2⟩ := upZ_at t k (by simpa using h) (by simpa using h0) (fun j hk => by simpa using hj (j + 1) (by omega))
    refine ⟨?_, ?_⟩
    · have : upZ (a :: t) = a :: upZ t := by simp [upZ, ha]
      rw [this, List.length_cons, h1]
    · simp only [List.contains_cons, h2, Bool.or_true]

theorem upZ_none (l : List UInt8) (h : ∀ j, j < l.length → l.getD j 0 ≠ 0) : l.contains 0 = false := by
  rw [Bool.eq_false_iff]
  intro hc
  have hm : (0 : UInt8) ∈ l := by simpa using hc
  obtain ⟨j, hj, e⟩ := List.getElem_of_mem hm
  exact h j hj (by rw [List.getD_eq_getElem?_getD, List.getElem?_eq_getElem hj]; exact e)
end Go.Proofs.Ytdjnjhlgpflcjaa
