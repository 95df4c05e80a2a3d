/- What was written of replies is read back: plain laws. -/
import Derived.Test.YtnlfcknpmemhfaaRepJ
import Derived.Test.YtnlfcknpmemhfaaSpecD
import Derived.Laws.BitsAllLaws
namespace Go.Proofs.Ytnlfcknpmemhfaa
open Go.RowKit

theorem rF_fix (x : Int) (n : Nat) (hx : 0 ≤ x) (hx2 : x < 2 ^ (8 * n)) (h1 : 1 ≤ n) (h8 : n ≤ 8) (t : List UInt8) : rF (n : Int) (fixB x n ++ t, 0) = (x, (t, 0)) := by
  obtain ⟨X, rfl⟩ : ∃ X : Nat, x = X := ⟨x.toNat, by omega⟩
  have hl : (fixB (X : Int) n).length = n := fixB_length _ _
  have hX : X < 2 ^ (8 * n) := by exact_mod_cast hx2
  have hr : readF (fixB (X : Int) n ++ t) (n : Int) = ((X : Int), 0) := by
    unfold readF
    rw [if_neg (by omega), if_neg (by rw [List.length_append, hl]; omega)]
    have e : (fixB (X : Int) n ++ t).take (n : Int).toNat = fixB (X : Int) n := by
      have e := List.take_left (l₁ := fixB (X : Int) n) (l₂ := t)
      rw [hl] at e
      rw [Int.toNat_natCast]
      exact e
    rw [e, leN_fixB, Nat.mod_eq_of_lt hX]
  unfold rF
  dsimp only
  rw [if_pos rfl, hr, if_pos rfl, Int.toNat_natCast]
  have e := List.drop_left (l₁ := fixB (X : Int) n) (l₂ := t)
  rw [hl] at e
  rw [e]

theorem rI_int (x : Int) (h0 : 0 ≤ x) (h1 : x < 18446744073709551616) (t : List UInt8) : rI (intB x ++ t, 0) = (x, (t, 0)) := by
  have hr := readI_intB x h0 h1 t
  unfold rI
  dsimp only
  rw [if_pos rfl, hr, if_pos rfl]
  have e : (intB x ++ t).drop (sizeI x) = t := by
    rw [← intB_length x]
    exact List.drop_left
  rw [e]

theorem rT_text (s t : List UInt8) (h : s.length ≤ 9000000) : rT (textB s ++ t, 0) = (s, (t, 0)) := by
  have hr := readT_textB s t (by omega)
  unfold rT
  dsimp only
  rw [if_pos rfl, hr, if_pos rfl]
  have hl : (textB s).length = sizeI (s.length : Int) + s.length := by rw [textB, List.length_append, intB_length]
  have e : (textB s ++ t).drop (sizeI (s.length : Int) + s.length) = t := by
    rw [← hl]
    exact List.drop_left
  rw [e]

theorem must_head (m : List UInt8) (b : UInt8) (t : List UInt8) (h : m.contains b = true) : rMust m (b :: t, 0) = (t, 0) := by
  rw [must_byte (b := b) (s1 := (t, 0)) m rfl, h]
  rfl

theorem rO_done : rO ([], 0) = ([], 0) := rfl

theorem okS_back (c a i st wn : Int) (info trk : List UInt8) (k : Bool) (ha : 0 ≤ a ∧ a < 18446744073709551616) (hi : 0 ≤ i ∧ i < 18446744073709551616) (hst : 0 ≤ st ∧ st < 65536) (hwn : 0 ≤ wn ∧ wn < 65536)
    (hn : info.length ≤ 100000) (ht : trk.length ≤ 100000) (h : trk = [] ∨ trackB c st = true) : okS (okHead k a i st wn ++ okTail c st info trk) c = ((a, i, st, wn, info, trk), 0) := by
  have e1 : rMust [0, 254] (okHead k a i st wn ++ okTail c st info trk, 0) = (intB a ++ (intB i ++ (fixB st 2 ++ (fixB wn 2 ++ okTail c st info trk))), 0) := by
    have hb : ([0, 254] : List UInt8).contains (if k then 254 else 0) = true := by cases k <;> rfl
    have := must_head [0, 254] (if k then 254 else 0) (intB a ++ (intB i ++ (fixB st 2 ++ (fixB wn 2 ++ okTail c st info trk)))) hb
    simpa [okHead, List.append_assoc] using this
  have e2 := rI_int a ha.1 ha.2 (intB i ++ (fixB st 2 ++ (fixB wn 2 ++ okTail c st info trk)))
  have e3 := rI_int i hi.1 hi.2 (fixB st 2 ++ (fixB wn 2 ++ okTail c st info trk))
  have e4 := rF_fix st 2 hst.1 (by omega) (by omega) (by omega) (fixB wn 2 ++ okTail c st info trk)
  have e5 := rF_fix wn 2 hwn.1 (by omega) (by omega) (by omega) (okTail c st info trk)
  simp only [Int.cast_ofNat_Int] at e4 e5
  have m1 : st % 65536 = st := by omega
  have m2 : wn % 65536 = wn := by omega
  have e6 : okT c st (okTail c st info trk, 0) = ((info, trk), ([], 0)) := by
    cases hq : hasB c 8388608 with
    | false =>
      have htr : trackB c st = false := by unfold trackB; rw [hq]; rfl
      have ht0 : trk = [] := by rcases h with h | h; exact h; rw [htr] at h; cases h
      subst ht0
      rw [okT_has hq]
      simp [okTail, hq, rR]
    | true =>
      cases htr : trackB c st with
      | true =>
        have f1 := rT_text info (textB trk) (by omega)
        have f2 := rT_text trk [] (by omega)
        rw [List.append_nil] at f2
        rw [okT_track htr]
        simp only [okTail, hq, htr, ↓reduceIte, f1, f2]
      | false =>
        have ht0 : trk = [] := by rcases h with h | h; exact h; rw [htr] at h; cases h
        subst ht0
        have f1 := rT_text info [] (by omega)
        have hp : 0 < (textB info ++ ([] : List UInt8)).length := by
          rw [textB, List.append_nil, List.length_append, intB_length]
          have := sizeI_le (info.length : Int)
          omega
        have ht : okTail c st info [] = textB info ++ [] := by simp [okTail, hq, htr]
        rw [ht, okT_text hq htr hp, f1]
  unfold okS
  dsimp only
  rw [e1]
  (try dsimp only)
  rw [e2]
  dsimp only
  rw [e3]
  (try dsimp only)
  rw [e4]
  dsimp only
  rw [e5, m1]
  dsimp only
  rw [e6]
  dsimp only
  rw [rO_done, m2]
  rfl

theorem errS_back (c : Int) (s t : List UInt8) (hc : 0 ≤ c ∧ c < 65536) (hs : s.length = 5) : errS (errB c s t) = ((c, s, t), 0) := by
  have e1 : rMust [255] (errB c s t, 0) = (fixB c 2 ++ (35 :: (s ++ t)), 0) := by
    have := must_head [255] 255 (fixB c 2 ++ (35 :: (s ++ t))) rfl
    simpa [errB, List.append_assoc] using this
  have e2 := rF_fix c 2 hc.1 (by omega) (by omega) (by omega) (35 :: (s ++ t))
  simp only [Int.cast_ofNat_Int] at e2
  have e3 : rMust [35] (35 :: (s ++ t), 0) = (s ++ t, 0) := must_head [35] 35 _ rfl
  have h1 : (s ++ t).take 5 = s := by rw [← hs]; exact List.take_left
  have h2 : (s ++ t).drop 5 = t := by rw [← hs]; exact List.drop_left
  have h3 : ¬ (s ++ t).length < 5 := by rw [List.length_append]; omega
  have m : c % 65536 = c := by omega
  unfold errS
  dsimp only
  rw [e1]
  (try dsimp only)
  rw [e2]
  dsimp only
  rw [e3]
  (try dsimp only)
  rw [if_pos rfl, if_neg h3, h1, h2, m]

theorem fileS_back (s : List UInt8) (h : s ≠ []) : readFileS (fileB s) = (s, 0) := by
  have e1 : rMust [251] (fileB s, 0) = (s, 0) := must_head [251] 251 s rfl
  unfold readFileS
  rw [e1]
  have : 0 < s.length := List.length_pos_iff.2 h
  simp [this]

theorem eofS_back (a b : Int) (ha : 0 ≤ a ∧ a < 65536) (hb : 0 ≤ b ∧ b < 65536) : eofS (eofB a b) = ((a, b), 0) := by
  have e1 : rMust [254] (eofB a b, 0) = (fixB a 2 ++ fixB b 2, 0) := must_head [254] 254 _ rfl
  have e2 := rF_fix a 2 ha.1 (by omega) (by omega) (by omega) (fixB b 2)
  have e3 := rF_fix b 2 hb.1 (by omega) (by omega) (by omega) []
  simp only [Int.cast_ofNat_Int, List.append_nil] at e2 e3
  have m1 : a % 65536 = a := by omega
  have m2 : b % 65536 = b := by omega
  unfold eofS
  rw [e1, e2]
  dsimp only
  rw [e3]
  (try dsimp only)
  rw [rO_done, m1, m2]
  rfl

theorem prepS_back (i x y z : Int) (hi : 0 ≤ i ∧ i < 4294967296) (hx : 0 ≤ x ∧ x < 65536) (hy : 0 ≤ y ∧ y < 65536) (hz : 0 ≤ z ∧ z < 65536) : prepS (prepB i x y z) = ((i, x, y, z), 0) := by
  have e1 : rMust [0] (prepB i x y z, 0) = (fixB i 4 ++ (fixB x 2 ++ (fixB y 2 ++ (0 :: fixB z 2))), 0) := must_head [0] 0 _ rfl
  have e2 := rF_fix i 4 hi.1 (by omega) (by omega) (by omega) (fixB x 2 ++ (fixB y 2 ++ (0 :: fixB z 2)))
  have e3 := rF_fix x 2 hx.1 (by omega) (by omega) (by omega) (fixB y 2 ++ (0 :: fixB z 2))
  have e4 := rF_fix y 2 hy.1 (by omega) (by omega) (by omega) (0 :: fixB z 2)
  have e5 : rMust [0] (0 :: fixB z 2, 0) = (fixB z 2, 0) := must_head [0] 0 _ rfl
  have e6 := rF_fix z 2 hz.1 (by omega) (by omega) (by omega) []
  simp only [Int.cast_ofNat_Int, List.append_nil] at e2 e3 e4 e6
  have m0 : i % 4294967296 = i := by omega
  have m1 : x % 65536 = x := by omega
  have m2 : y % 65536 = y := by omega
  have m3 : z % 65536 = z := by omega
  unfold prepS
  dsimp only
  rw [e1]
  (try dsimp only)
  rw [e2]
  dsimp only
  rw [e3]
  (try dsimp only)
  rw [e4]
  dsimp only
  rw [e5]
  (try dsimp only)
  rw [e6]
  dsimp only
  rw [rO_done, m0, m1, m2, m3]
  rfl

theorem has_or (c : Int) (x : Nat) (h0 : 0 ≤ c) (h1 : c < 4294967296) (hx : x < 4294967296) (hn : x ≠ 0) : hasB (bits .or .u32 c (x : Int)) (x : Int) = true := by
  obtain ⟨C, rfl⟩ : ∃ C : Nat, c = C := ⟨c.toNat, by omega⟩
  have hC : C < 4294967296 := by omega
  have hlt : C ||| x < 4294967296 := Nat.or_lt_two_pow (n := 32) hC hx
  unfold hasB
  rw [u32_or_nat C x hC hx, u32_and_nat _ x hlt hx]
  have e : (C ||| x) &&& x = x := by
    apply Nat.eq_of_testBit_eq
    intro i
    simp only [Nat.testBit_and, Nat.testBit_or]
    cases C.testBit i <;> cases x.testBit i <;> rfl
  rw [e]
  simp only [bne_iff_ne, ne_eq]
  omega
theorem has_not (c : Int) (h0 : 0 ≤ c) (h1 : c < 4294967296) : hasB (bits .andNot .u32 c 16777216) 16777216 = false := by
  obtain ⟨C, rfl⟩ : ∃ C : Nat, c = C := ⟨c.toNat, by omega⟩
  have hC : C < 4294967296 := by omega
  have e1 := u32_andNot_nat C 16777216 hC (by omega)
  have hlt : C &&& (4294967295 - 16777216) < 4294967296 := Nat.lt_of_le_of_lt Nat.and_le_left hC
  have e2 := u32_and_nat (C &&& (4294967295 - 16777216)) 16777216 hlt (by omega)
  unfold hasB
  simp only [Int.cast_ofNat_Int] at e1 e2
  rw [e1, e2, Nat.and_assoc]
  have : ((4294967295 - 16777216) &&& 16777216 : Nat) = 0 := by decide
  rw [this, Nat.and_zero]
  rfl

/-- Kinds by the first byte. -/
theorem first_ok (a i st wn c : Int) (t : List UInt8) : firstR (okHead false a i st wn ++ t) c = 1 := rfl
theorem last_okk (a i st wn c : Int) (t : List UInt8) (hc : hasB c 16777216 = true) (hl : (okHead true a i st wn ++ t).length < 16777215) : lastR (okHead true a i st wn ++ t) c = 1 := by
  have e : okHead true a i st wn ++ t = 254 :: (intB a ++ (intB i ++ (fixB st 2 ++ fixB wn 2)) ++ t) := rfl
  rw [e] at hl ⊢
  generalize (intB a ++ (intB i ++ (fixB st 2 ++ fixB wn 2)) ++ t) = u at hl ⊢
  rw [List.length_cons] at hl
  show (if (254 : UInt8) = 255 then 2 else if (254 : UInt8) ≠ 254 then 0 else if hasB c 16777216 = true then (if u.length + 1 < 16777215 then 1 else 0) else if u.length + 1 = 5 then 3 else 0) = (1 : Int)
  rw [if_neg (by decide), if_neg (by decide), if_pos hc, if_pos hl]
theorem first_err (n c : Int) (s t : List UInt8) : firstR (errB n s t) c = 2 := by unfold errB; simp [firstR]
theorem last_err (n c : Int) (s t : List UInt8) : lastR (errB n s t) c = 2 := by unfold errB; simp [lastR]
theorem first_file (c : Int) (s : List UInt8) (hc : hasB c 128 = true) : firstR (fileB s) c = 4 := by
  show (if (251 : UInt8) = 0 then 1 else if (251 : UInt8) = 255 then 2 else if (251 : UInt8) = 251 ∧ hasB c 128 = true then 4 else 0) = (4 : Int)
  rw [if_neg (by decide), if_neg (by decide), if_pos ⟨rfl, hc⟩]
theorem last_eof (a b c : Int) (hc : hasB c 16777216 = false) : lastR (eofB a b) c = 3 := by
  have h1 : (fixB a 2).length = 2 := fixB_length a 2
  have h2 : (fixB b 2).length = 2 := fixB_length b 2
  have hl : (fixB a 2 ++ fixB b 2).length + 1 = 5 := by rw [List.length_append]; omega
  show (if (254 : UInt8) = 255 then 2 else if (254 : UInt8) ≠ 254 then 0 else if hasB c 16777216 = true then (if (fixB a 2 ++ fixB b 2).length + 1 < 16777215 then 1 else 0) else if (fixB a 2 ++ fixB b 2).length + 1 = 5 then 3 else 0) = (3 : Int)
  rw [if_neg (by decide), if_neg (by decide), if_neg (by rw [hc]; decide), if_pos hl]
end Go.Proofs.Ytnlfcknpmemhfaa
