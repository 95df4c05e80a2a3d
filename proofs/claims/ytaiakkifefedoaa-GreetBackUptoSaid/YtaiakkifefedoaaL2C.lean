import Derived.Test.YtaiakkifefedoaaL1C
import Derived.Lib.BytesEntry
import Derived.Laws.OwnMore
import Derived.WalkKit
import Derived.WalkSpells
import Derived.Lib.Hide
import Derived.Laws.BitsAllLaws
import Derived.Laws.ResultCell
/- Plain laws of numbers and texts as bytes. No condition; no program. -/
namespace Go.Proofs.Ytaiakkifefedoaa

theorem readI_cases (l : List UInt8) : (l = [] ∧ readI l = (0, 0, 4)) ∨
    (∃ c t, l = c :: t ∧ ((c.toNat ≤ 250 ∧ readI l = ((c.toNat : Int), 1, 0)) ∨ (c = 251 ∧ readI l = (0, 0, 5)) ∨ (c = 255 ∧ readI l = (0, 0, 5)) ∨
      ∃ n, ((c = 252 ∧ n = 2) ∨ (c = 253 ∧ n = 3) ∨ (c = 254 ∧ n = 8)) ∧ ((t.length < n ∧ readI l = (0, 0, 4)) ∨ (n ≤ t.length ∧ readI l = ((leN (t.take n) : Int), n + 1, 0))))) := by
  rcases l with _ | ⟨c, t⟩
  · exact .inl ⟨rfl, rfl⟩
  · refine .inr ⟨c, t, rfl, ?_⟩
    have hc := c.toNat_lt
    by_cases h1 : c.toNat ≤ 250
    · exact .inl ⟨h1, by simp [readI, h1]⟩
    · have hcase : c = 251 ∨ c = 252 ∨ c = 253 ∨ c = 254 ∨ c = 255 := by
        have : c.toNat = 251 ∨ c.toNat = 252 ∨ c.toNat = 253 ∨ c.toNat = 254 ∨ c.toNat = 255 := by omega
        rcases this with h | h | h | h | h
        · exact .inl (UInt8.toNat.inj h)
        · exact .inr (.inl (UInt8.toNat.inj h))
        · exact .inr (.inr (.inl (UInt8.toNat.inj h)))
        · exact .inr (.inr (.inr (.inl (UInt8.toNat.inj h))))
        · exact .inr (.inr (.inr (.inr (UInt8.toNat.inj h))))
      rcases hcase with rfl | rfl | rfl | rfl | rfl
      · exact .inr (.inl ⟨rfl, by simp [readI]⟩)
      · refine .inr (.inr (.inr ⟨2, .inl ⟨rfl, rfl⟩, ?_⟩))
        by_cases h : t.length < 2
        · exact .inl ⟨h, by simp [readI, wide, h]⟩
        · exact .inr ⟨by omega, by simp [readI, wide, h]⟩
      · refine .inr (.inr (.inr ⟨3, .inr (.inl ⟨rfl, rfl⟩), ?_⟩))
        by_cases h : t.length < 3
        · exact .inl ⟨h, by simp [readI, wide, h]⟩
        · exact .inr ⟨by omega, by simp [readI, wide, h]⟩
      · refine .inr (.inr (.inr ⟨8, .inr (.inr ⟨rfl, rfl⟩), ?_⟩))
        by_cases h : t.length < 8
        · exact .inl ⟨h, by simp [readI, wide, h]⟩
        · exact .inr ⟨by omega, by simp [readI, wide, h]⟩
      · exact .inr (.inr (.inl ⟨rfl, by simp [readI]⟩))

theorem readI_ok {l : List UInt8} {x : Int} {n : Nat} (h : readI l = (x, n, 0)) : 1 ≤ n ∧ n ≤ l.length ∧ 0 ≤ x := by
  rcases readI_cases l with ⟨_, he⟩ | ⟨c, t, rfl, ⟨_, he⟩ | ⟨_, he⟩ | ⟨_, he⟩ | ⟨m, _, ⟨_, he⟩ | ⟨hm, he⟩⟩⟩
  all_goals
    rw [he] at h
    injection h with h1 h2
    injection h2 with h2 h3
  · omega
  · subst h1 h2
    simp
  · omega
  · omega
  · omega
  · subst h1 h2
    rw [List.length_cons]
    omega

theorem readI_err {l : List UInt8} {x : Int} {n : Nat} {e : Int} (h : readI l = (x, n, e)) : e = 0 ∨ (x = 0 ∧ n = 0 ∧ (e = 4 ∨ e = 5)) := by
  rcases readI_cases l with ⟨_, he⟩ | ⟨c, t, rfl, ⟨_, he⟩ | ⟨_, he⟩ | ⟨_, he⟩ | ⟨m, _, ⟨_, he⟩ | ⟨hm, he⟩⟩⟩
  all_goals
    rw [he] at h
    injection h with h1 h2
    injection h2 with h2 h3
    omega

/-- A counted text. -/
def textB (s : List UInt8) : List UInt8 := intB (s.length : Int) ++ s

/-- What is read of a counted text. -/
def readT (l : List UInt8) : List UInt8 × Nat × Int :=
  if (readI l).2.2 = 0 then
    if ((l.length : Int) - (readI l).2.1) < (readI l).1 then ([], 0, 4)
    else ((l.take ((readI l).2.1 + (readI l).1.toNat)).drop (readI l).2.1, (readI l).2.1 + (readI l).1.toNat, 0)
  else ([], 0, (readI l).2.2)

/-- The bytes ahead of the first nought. -/
def upZ (l : List UInt8) : List UInt8 := l.takeWhile (· != 0)

/-- What is read of an ended text. -/
def readZ (l : List UInt8) : List UInt8 × Nat × Int := if l.contains 0 then (upZ l, (upZ l).length + 1, 0) else ([], 0, 4)

theorem upZ_take (l : List UInt8) : l.take (upZ l).length = upZ l := by
  unfold upZ
  induction l with
  | nil => rfl
  | cons a t ih =>
    rw [List.takeWhile_cons]
    split
    · rw [List.length_cons, List.take_succ_cons, ih]
    · rfl

theorem upZ_le (l : List UInt8) : (upZ l).length ≤ l.length := by
  have := congrArg List.length (upZ_take l)
  rw [List.length_take] at this
  omega

theorem upZ_lt : ∀ (l : List UInt8), l.contains 0 = true → (upZ l).length < l.length
  | [], h => by simp at h
  | a :: t, h => by
    by_cases ha : a = 0
    · subst ha
      simp [upZ]
    · have h2 : upZ (a :: t) = a :: upZ t := by simp [upZ, ha]
      have h3 : t.contains 0 = true := by
        rw [List.contains_cons] at h
        have : ((0 : UInt8) == a) = false := by simpa using Ne.symm ha
        rwa [this, Bool.false_or] at h
      have := upZ_lt t h3
      rw [h2, List.length_cons, List.length_cons]
      omega

theorem upZ_at : ∀ (l : List UInt8) (k : Nat), k < l.length → l.getD k 0 = 0 → (∀ j, j < k → l.getD j 0 ≠ 0) → (upZ l).length = k ∧ l.contains 0 = true
  | [], k, h, _, _ => by simp at h
  | a :: t, 0, _, h0, _ => by
    have : a = 0 := by simpa using h0
    subst this
    exact ⟨by simp [upZ], by simp⟩
  | a :: t, k + 1, h, h0, hj => by
    have ha : a ≠ 0 := by simpa using hj 0 (by omega)
    obtain ⟨h1, h2⟩ := upZ_at t k (by simpa using h) (by simpa using h0) (fun j hk => by simpa using hj (j + 1) (by omega))
    refine ⟨?_, ?_⟩
    · have : upZ (a :: t) = a :: upZ t := by simp [upZ, ha]
      rw [this, List.length_cons, h1]
    · simp only [List.contains_cons, h2, Bool.or_true]

theorem upZ_none (l : List UInt8) (h : ∀ j, j < l.length → l.getD j 0 ≠ 0) : l.contains 0 = false := by
  rw [Bool.eq_false_iff]
  intro hc
  have hm : (0 : UInt8) ∈ l := by simpa using hc
  obtain ⟨j, hj, e⟩ := List.getElem_of_mem hm
  exact h j hj (by rw [List.getD_eq_getElem?_getD, List.getElem?_eq_getElem hj]; exact e)
end Go.Proofs.Ytaiakkifefedoaa
/- The contracts of the functions that write and read counted numbers. -/
namespace Go.Proofs.Ytaiakkifefedoaa
open Go.RowKit

set_option maxHeartbeats 400000 in
theorem form_c (w : World) (x : Int) (a b : Int) (h : (x ≤ 250 ∧ a = 0 ∧ b = 1) ∨ (250 < x ∧ x < 65536 ∧ a = 252 ∧ b = 2) ∨ (65536 ≤ x ∧ x < 16777216 ∧ a = 253 ∧ b = 3) ∨ (16777216 ≤ x ∧ a = 254 ∧ b = 8)) :
    Calls Try.prog 58 #[.int .u64 x] w fun e w' => e = .returned (.tuple #[.int .u8 a, .int .i64 b]) ∧ w = w' := by
  rcases h with ⟨h, rfl, rfl⟩ | ⟨h, h2, rfl, rfl⟩ | ⟨h, h2, rfl, rfl⟩ | ⟨h, rfl, rfl⟩
  all_goals
    go_enter Try.func58, Try.ntmps58
    go_wp2_with fail
    go_ret2
    exact ⟨rfl, rfl⟩

theorem size_cases (x : Int) : (x ≤ 250 ∧ sizeI x = 1) ∨ (250 < x ∧ x < 65536 ∧ sizeI x = 3) ∨ (65536 ≤ x ∧ x < 16777216 ∧ sizeI x = 4) ∨ (16777216 ≤ x ∧ sizeI x = 9) := by
  unfold sizeI
  split
  · omega
  · split
    · omega
    · split <;> omega

/-- Three results of a counted number's reading; nothing turns. -/
def RetI (w : World) (r : Int × Nat × Int) (e : Ending) (w' : World) : Prop := e = .returned (.tuple #[.int .u64 r.1, .int .i64 (r.2.1 : Int), .int .i64 r.2.2]) ∧ w = w'

set_option maxHeartbeats 1000000 in
theorem readInt_len (w : World) (v : Value) (l : List UInt8) (hr : Rd w v l) :
    Calls Try.prog 57 #[v] w (RetI w (readI l)) := by
  rcases readI_cases l with ⟨rfl, he⟩ | ⟨c, t, rfl, hx⟩
  · rw [he]
    clear he
    obtain ⟨A, cap, rfl, hle, hm, hA, hc⟩ := hr
    clear hA hc
    go_enter Try.func57, Try.ntmps57
    go_wp2_with fail
    go_ret3
    exact ⟨rfl, rfl⟩
  · have HR := Lib.hid hr
    obtain ⟨A, cap, rfl, hle, hm, hA, hc⟩ := hr
    obtain ⟨b, o, rfl, hc2⟩ := hc (by simp)
    have hcell : w.cell? ⟨b, o, none⟩ = some (.int .u8 (c.toNat : Int)) := by simpa using hc2 0 (by simp)
    clear hA hc hc2
    unfold maxLen at hm
    rcases hx with ⟨h, he⟩ | ⟨rfl, he⟩ | ⟨rfl, he⟩ | ⟨n, hn, hx⟩
    · rw [he]
      clear he
      go_enter Try.func57, Try.ntmps57
      go_wp2_with fail
      go_ret3
      exact ⟨rfl, rfl⟩
    · rw [he]
      clear he
      have hcell2 : w.cell? ⟨b, o, none⟩ = some (.int .u8 251) := hcell
      clear hcell
      go_enter Try.func57, Try.ntmps57
      go_wp2_with fail
      go_ret3
      exact ⟨rfl, rfl⟩
    · rw [he]
      clear he
      have hcell2 : w.cell? ⟨b, o, none⟩ = some (.int .u8 255) := hcell
      clear hcell
      go_enter Try.func57, Try.ntmps57
      go_wp2_with fail
      go_ret3
      exact ⟨rfl, rfl⟩
    · rcases hx with ⟨hx, he⟩ | ⟨hx, he⟩
      all_goals
        rw [he]
        clear he
      · rcases hn with ⟨rfl, rfl⟩ | ⟨rfl, rfl⟩ | ⟨rfl, rfl⟩
        · have hcell2 : w.cell? ⟨b, o, none⟩ = some (.int .u8 252) := hcell
          clear hcell
          go_enter Try.func57, Try.ntmps57
          go_wp2_with (first | ((with_reducible show wpList _ _ _ (_ :: _) _ _); refine wpl_slice_lo bt HR.out 1 (by omega) (by rw [List.length_cons]; omega) rfl _ _ _ rfl rfl rfl ?_; intro v2 hr2; replace hr2 : Rd w v2 t := hr2) | (go_at_call 51; refine (readFixed_short_len _ _ _ _ hr2 (by omega) (by omega) (by omega)).mono ?_; rintro e w1 ⟨rfl, rfl⟩))
          go_ret3
          exact ⟨rfl, rfl⟩
        · have hcell2 : w.cell? ⟨b, o, none⟩ = some (.int .u8 253) := hcell
          clear hcell
          go_enter Try.func57, Try.ntmps57
          go_wp2_with (first | ((with_reducible show wpList _ _ _ (_ :: _) _ _); refine wpl_slice_lo bt HR.out 1 (by omega) (by rw [List.length_cons]; omega) rfl _ _ _ rfl rfl rfl ?_; intro v2 hr2; replace hr2 : Rd w v2 t := hr2) | (go_at_call 51; refine (readFixed_short_len _ _ _ _ hr2 (by omega) (by omega) (by omega)).mono ?_; rintro e w1 ⟨rfl, rfl⟩))
          go_ret3
          exact ⟨rfl, rfl⟩
        · have hcell2 : w.cell? ⟨b, o, none⟩ = some (.int .u8 254) := hcell
          clear hcell
          go_enter Try.func57, Try.ntmps57
          go_wp2_with (first | ((with_reducible show wpList _ _ _ (_ :: _) _ _); refine wpl_slice_lo bt HR.out 1 (by omega) (by rw [List.length_cons]; omega) rfl _ _ _ rfl rfl rfl ?_; intro v2 hr2; replace hr2 : Rd w v2 t := hr2) | (go_at_call 51; refine (readFixed_short_len _ _ _ _ hr2 (by omega) (by omega) (by omega)).mono ?_; rintro e w1 ⟨rfl, rfl⟩))
          go_ret3
          exact ⟨rfl, rfl⟩
      · rcases hn with ⟨rfl, rfl⟩ | ⟨rfl, rfl⟩ | ⟨rfl, rfl⟩
        · have hcell2 : w.cell? ⟨b, o, none⟩ = some (.int .u8 252) := hcell
          clear hcell
          go_enter Try.func57, Try.ntmps57
          go_wp2_with (first | ((with_reducible show wpList _ _ _ (_ :: _) _ _); refine wpl_slice_lo bt HR.out 1 (by omega) (by rw [List.length_cons]; omega) rfl _ _ _ rfl rfl rfl ?_; intro v2 hr2; replace hr2 : Rd w v2 t := hr2) | (go_at_call 51; refine (readFixed_good_len _ _ _ _ hr2 (by omega) (by omega) (by omega)).mono ?_; rintro e w1 ⟨rfl, rfl⟩))
          go_ret3
          exact ⟨rfl, rfl⟩
        · have hcell2 : w.cell? ⟨b, o, none⟩ = some (.int .u8 253) := hcell
          clear hcell
          go_enter Try.func57, Try.ntmps57
          go_wp2_with (first | ((with_reducible show wpList _ _ _ (_ :: _) _ _); refine wpl_slice_lo bt HR.out 1 (by omega) (by rw [List.length_cons]; omega) rfl _ _ _ rfl rfl rfl ?_; intro v2 hr2; replace hr2 : Rd w v2 t := hr2) | (go_at_call 51; refine (readFixed_good_len _ _ _ _ hr2 (by omega) (by omega) (by omega)).mono ?_; rintro e w1 ⟨rfl, rfl⟩))
          go_ret3
          exact ⟨rfl, rfl⟩
        · have hcell2 : w.cell? ⟨b, o, none⟩ = some (.int .u8 254) := hcell
          clear hcell
          go_enter Try.func57, Try.ntmps57
          go_wp2_with (first | ((with_reducible show wpList _ _ _ (_ :: _) _ _); refine wpl_slice_lo bt HR.out 1 (by omega) (by rw [List.length_cons]; omega) rfl _ _ _ rfl rfl rfl ?_; intro v2 hr2; replace hr2 : Rd w v2 t := hr2) | (go_at_call 51; refine (readFixed_good_len _ _ _ _ hr2 (by omega) (by omega) (by omega)).mono ?_; rintro e w1 ⟨rfl, rfl⟩))
          go_ret3
          exact ⟨rfl, rfl⟩

end Go.Proofs.Ytaiakkifefedoaa
/- The contracts of the functions that write counted numbers. -/
namespace Go.Proofs.Ytaiakkifefedoaa
open Go.RowKit

theorem fixOk_1 (x : Int) (h0 : 0 ≤ x) (h : x < 256) : fixOk x 1 = true := by
  simp [fixOk]; omega
theorem fixOk_2 (x : Int) (h0 : 0 ≤ x) (h : x < 65536) : fixOk x 2 = true := by
  simp [fixOk]; omega
theorem fixOk_3 (x : Int) (h0 : 0 ≤ x) (h : x < 16777216) : fixOk x 3 = true := by
  simp [fixOk]; omega
theorem fixOk_8 (x : Int) (_h0 : 0 ≤ x) (_h : x < 18446744073709551616) : fixOk x 8 = true := by
  simp [fixOk]
theorem fixB_one (x : Int) (h0 : 0 ≤ x) (h : x < 256) : fixB x 1 = [UInt8.ofNat x.toNat] := by
  have : x % 256 = x := Int.emod_eq_of_lt h0 h
  simp [fixB, this]

set_option maxHeartbeats 1000000 in
theorem appendInt_len (w : World) (v : Value) (l : List UInt8) (x : Int) (hr : Rd w v l) (hx0 : 0 ≤ x) (hx9 : x < 18446744073709551616) (hl : l.length ≤ 8000000) :
    Calls Try.prog 54 #[v, .int .u64 x] w (RetB w (l ++ intB x)) := by
  have HR := Lib.hid hr
  clear hr
  rcases size_cases x with ⟨h, hs⟩ | ⟨h, h2, hs⟩ | ⟨h, h2, hs⟩ | ⟨h, hs⟩
  · have HE := Lib.hid (show intB x = fixB x 1 by unfold intB; rw [if_pos h])
    have HK := Lib.hid (show fixOk x 1 = true from fixOk_1 x hx0 (by omega))
    have HS := Lib.hid hs
    clear hs
    go_enter Try.func54, Try.ntmps54
    go_wp2_with (first | (go_at_call 58; refine (form_c _ _ 0 1 (by first | exact .inl ⟨by assumption, rfl, rfl⟩ | exact .inr (.inl ⟨by assumption, by assumption, rfl, rfl⟩) | exact .inr (.inr (.inl ⟨by assumption, by assumption, rfl, rfl⟩)) | exact .inr (.inr (.inr ⟨by assumption, rfl, rfl⟩)))).mono ?_; rintro e w0 ⟨rfl, rfl⟩) | (go_at_call 28; refine (clone_c _ _ _ HR.out (by omega)).mono ?_; rintro e w1 ⟨v1, rfl, ho1, hx1⟩) | (go_at_call 53; refine (appendFixed_good_len _ _ _ _ _ ho1.rd (by first | omega | (simp; omega)) HK.out).mono ?_; rintro e w3 ⟨v3, rfl, ho3, hx3⟩))
    go_ret
    refine ⟨_, rfl, ?_, hx1.trans hx3⟩
    rw [HE.out]
    exact ho3.more (Ext.size hx1)
  · have HE := Lib.hid (show intB x = 252 :: fixB x 2 by unfold intB; rw [if_neg (by omega), if_pos h2])
    have HK := Lib.hid (show fixOk x 2 = true from fixOk_2 x hx0 (by omega))
    have HS := Lib.hid hs
    clear hs
    go_enter Try.func54, Try.ntmps54
    go_wp2_with (first | (go_at_call 58; refine (form_c _ _ 252 2 (by first | exact .inl ⟨by assumption, rfl, rfl⟩ | exact .inr (.inl ⟨by assumption, by assumption, rfl, rfl⟩) | exact .inr (.inr (.inl ⟨by assumption, by assumption, rfl, rfl⟩)) | exact .inr (.inr (.inr ⟨by assumption, rfl, rfl⟩)))).mono ?_; rintro e w0 ⟨rfl, rfl⟩) | (go_at_call 28; refine (clone_c _ _ _ HR.out (by omega)).mono ?_; rintro e w1 ⟨v1, rfl, ho1, hx1⟩) | (at_builtin; refine wpl_append_one bt 252 ho1 (by omega) (by omega) rfl _ _ rfl rfl rfl (by omega) (Ext.size hx1) ?_; intro v2 w2 ho2 hb2) | (go_at_call 53; refine (appendFixed_good_len _ _ _ _ _ ho2.rd (by first | omega | (simp; omega)) HK.out).mono ?_; rintro e w3 ⟨v3, rfl, ho3, hx3⟩))
    go_ret
    refine ⟨_, rfl, ?_, (hx1.below hb2 (Nat.le_refl _)).trans hx3⟩
    rw [HE.out]
    have e : l ++ (252 :: fixB x 2) = l ++ [UInt8.ofNat (252 : Int).toNat] ++ fixB x (2 : Int).toNat := by rw [List.append_assoc]; rfl
    rw [e]
    exact ho3.more (Ext.size (hx1.below hb2 (Nat.le_refl _)))
  · have HE := Lib.hid (show intB x = 253 :: fixB x 3 by unfold intB; rw [if_neg (by omega), if_neg (by omega), if_pos h2])
    have HK := Lib.hid (show fixOk x 3 = true from fixOk_3 x hx0 (by omega))
    have HS := Lib.hid hs
    clear hs
    go_enter Try.func54, Try.ntmps54
    go_wp2_with (first | (go_at_call 58; refine (form_c _ _ 253 3 (by first | exact .inl ⟨by assumption, rfl, rfl⟩ | exact .inr (.inl ⟨by assumption, by assumption, rfl, rfl⟩) | exact .inr (.inr (.inl ⟨by assumption, by assumption, rfl, rfl⟩)) | exact .inr (.inr (.inr ⟨by assumption, rfl, rfl⟩)))).mono ?_; rintro e w0 ⟨rfl, rfl⟩) | (go_at_call 28; refine (clone_c _ _ _ HR.out (by omega)).mono ?_; rintro e w1 ⟨v1, rfl, ho1, hx1⟩) | (at_builtin; refine wpl_append_one bt 253 ho1 (by omega) (by omega) rfl _ _ rfl rfl rfl (by omega) (Ext.size hx1) ?_; intro v2 w2 ho2 hb2) | (go_at_call 53; refine (appendFixed_good_len _ _ _ _ _ ho2.rd (by first | omega | (simp; omega)) HK.out).mono ?_; rintro e w3 ⟨v3, rfl, ho3, hx3⟩))
    go_ret
    refine ⟨_, rfl, ?_, (hx1.below hb2 (Nat.le_refl _)).trans hx3⟩
    rw [HE.out]
    have e : l ++ (253 :: fixB x 3) = l ++ [UInt8.ofNat (253 : Int).toNat] ++ fixB x (3 : Int).toNat := by rw [List.append_assoc]; rfl
    rw [e]
    exact ho3.more (Ext.size (hx1.below hb2 (Nat.le_refl _)))
  · have HE := Lib.hid (show intB x = 254 :: fixB x 8 by unfold intB; rw [if_neg (by omega), if_neg (by omega), if_neg (by omega)])
    have HK := Lib.hid (show fixOk x 8 = true from fixOk_8 x hx0 (by omega))
    have HS := Lib.hid hs
    clear hs
    go_enter Try.func54, Try.ntmps54
    go_wp2_with (first | (go_at_call 58; refine (form_c _ _ 254 8 (by first | exact .inl ⟨by assumption, rfl, rfl⟩ | exact .inr (.inl ⟨by assumption, by assumption, rfl, rfl⟩) | exact .inr (.inr (.inl ⟨by assumption, by assumption, rfl, rfl⟩)) | exact .inr (.inr (.inr ⟨by assumption, rfl, rfl⟩)))).mono ?_; rintro e w0 ⟨rfl, rfl⟩) | (go_at_call 28; refine (clone_c _ _ _ HR.out (by omega)).mono ?_; rintro e w1 ⟨v1, rfl, ho1, hx1⟩) | (at_builtin; refine wpl_append_one bt 254 ho1 (by omega) (by omega) rfl _ _ rfl rfl rfl (by omega) (Ext.size hx1) ?_; intro v2 w2 ho2 hb2) | (go_at_call 53; refine (appendFixed_good_len _ _ _ _ _ ho2.rd (by first | omega | (simp; omega)) HK.out).mono ?_; rintro e w3 ⟨v3, rfl, ho3, hx3⟩))
    go_ret
    refine ⟨_, rfl, ?_, (hx1.below hb2 (Nat.le_refl _)).trans hx3⟩
    rw [HE.out]
    have e : l ++ (254 :: fixB x 8) = l ++ [UInt8.ofNat (254 : Int).toNat] ++ fixB x (8 : Int).toNat := by rw [List.append_assoc]; rfl
    rw [e]
    exact ho3.more (Ext.size (hx1.below hb2 (Nat.le_refl _)))

end Go.Proofs.Ytaiakkifefedoaa
/- The contracts of the functions that write and read counted texts. -/
namespace Go.Proofs.Ytaiakkifefedoaa
open Go.RowKit

/-- Three results of a text's reading; nothing turns. -/
def RetT (w : World) (r : List UInt8 × Nat × Int) (e : Ending) (w' : World) : Prop := e = .returned (.tuple #[.string (strL r.1), .int .i64 (r.2.1 : Int), .int .i64 r.2.2]) ∧ w = w'

set_option maxHeartbeats 400000 in
theorem appendText_len (w : World) (v : Value) (l : List UInt8) (s : ByteArray) (hr : Rd w v l) (hs : s.size ≤ 1000000) (hl : l.length ≤ 7000000) :
    Calls Try.prog 41 #[v, .string s] w (RetB w (l ++ textB s.data.toList)) := by
  have HR := Lib.hid hr
  clear hr
  have hi := intB_length (s.size : Int)
  have hi2 := sizeI_le (s.size : Int)
  rw [← hi] at hi2
  clear hi
  have HE := Lib.hid (show intB (s.size : Int) ++ s.data.toList = textB s.data.toList by unfold textB; rw [size_toList])
  go_enter Try.func41, Try.ntmps41
  go_wp2_with (first | (go_at_call 54; refine (appendInt_len _ _ _ (s.size : Int) HR.out (by omega) (by omega) (by omega)).mono ?_; rintro e w1 ⟨v1, rfl, ho1, hx1⟩) | (at_builtin; refine wpl_append_st bt s ho1 rfl _ _ rfl rfl rfl (by rw [List.length_append]; omega) (Ext.size hx1) ?_; intro v2 w2 ho2 hb2))
  go_ret
  refine ⟨_, rfl, ?_, hx1.below hb2 (Nat.le_refl _)⟩
  rw [← HE.out, ← List.append_assoc]
  exact ho2

theorem readInt_at_len (w : World) (v : Value) (l : List UInt8) (x : Int) (n : Nat) (r : Int) (hr : Rd w v l) (h : readI l = (x, n, r)) :
    Calls Try.prog 57 #[v] w fun e w' => e = .returned (.tuple #[.int .u64 x, .int .i64 n, .int .i64 r]) ∧ w = w' := by
  have := readInt_len w v l hr
  rw [h] at this
  exact this

set_option maxHeartbeats 1000000 in
theorem readText_len (w : World) (v : Value) (l : List UInt8) (hr : Rd w v l) :
    Calls Try.prog 52 #[v] w (RetT w (readT l)) := by
  obtain ⟨x, n, r, h⟩ : ∃ x n r, readI l = (x, n, r) := ⟨_, _, _, rfl⟩
  have H := Lib.hid h
  have HR := Lib.hid hr
  obtain ⟨A, cap, rfl, hle, hm, hA, hc⟩ := hr
  clear hA hc
  unfold maxLen at hm
  rcases readI_err h with rfl | ⟨rfl, rfl, rfl | rfl⟩
  · obtain ⟨hn1, hn2, hx0⟩ := readI_ok h
    by_cases hx : (l.length : Int) - n < x
    · have HT := Lib.hid (show readT l = ([], 0, 4) by unfold readT; rw [h]; exact (if_pos rfl).trans (if_pos hx))
      clear h
      rw [HT.out]
      go_enter Try.func52, Try.ntmps52
      go_wp2_with (go_at_call 57; refine (readInt_at_len _ _ _ _ _ _ HR.out H.out).mono ?_; rintro e w1 ⟨rfl, rfl⟩)
      go_ret3
      exact ⟨rfl, rfl⟩
    · have HT := Lib.hid (show readT l = ((l.take (n + x.toNat)).drop n, n + x.toNat, 0) by unfold readT; rw [h]; exact (if_pos rfl).trans (if_neg hx))
      clear h
      have hx2 : x ≤ (l.length : Int) - n := by omega
      obtain ⟨X, rfl⟩ : ∃ X : Nat, x = X := ⟨x.toNat, by omega⟩
      rw [HT.out]
      clear hx
      go_enter Try.func52, Try.ntmps52
      go_wp2_with (first | (go_at_call 57; refine (readInt_at_len _ _ _ _ _ _ HR.out H.out).mono ?_; rintro e w1 ⟨rfl, rfl⟩) | ((with_reducible show wpList _ _ _ (_ :: _) _ _); refine wpl_slice_lohi bt HR.out (n : Int) ((n : Int) + (X : Int)) (by omega) (by omega) (by omega) rfl _ _ _ _ _ rfl rfl rfl rfl ?_; intro v2 hr2) | ((with_reducible show wpList _ _ _ (_ :: _) _ _); refine wpl_str bt hr2 rfl _ rfl rfl ?_))
      go_ret3
      refine ⟨?_, rfl⟩
      have e2 : ((n + X : Nat) : Int) = (n : Int) + (X : Int) := by omega
      simp only [Int.toNat_natCast, e2]
      rfl
  all_goals
    have HT := Lib.hid (show readT l = ([], 0, (readI l).2.2) by unfold readT; rw [h]; simp)
    clear h
    rw [HT.out, H.out]
    go_enter Try.func52, Try.ntmps52
    go_wp2_with (go_at_call 57; refine (readInt_at_len _ _ _ _ _ _ HR.out H.out).mono ?_; rintro e w1 ⟨rfl, rfl⟩)
    go_ret3
    exact ⟨rfl, rfl⟩

end Go.Proofs.Ytaiakkifefedoaa
/- What readers read: the bytes that are left, the first error. -/
namespace Go.Proofs.Ytaiakkifefedoaa
open Go.RowKit

/-- What is read: a fixed number, a counted number, a counted text, one byte of some; the bytes that are left, the error. -/
def rF (n : Int) (s : List UInt8 × Int) : Int × (List UInt8 × Int) := if s.2 = 0 then (if (readF s.1 n).2 = 0 then ((readF s.1 n).1, (s.1.drop n.toNat, 0)) else ((readF s.1 n).1, (s.1, (readF s.1 n).2))) else (0, s)
def rI (s : List UInt8 × Int) : Int × (List UInt8 × Int) := if s.2 = 0 then (if (readI s.1).2.2 = 0 then ((readI s.1).1, (s.1.drop (readI s.1).2.1, 0)) else ((readI s.1).1, (s.1, (readI s.1).2.2))) else (0, s)
def rT (s : List UInt8 × Int) : List UInt8 × (List UInt8 × Int) := if s.2 = 0 then (if (readT s.1).2.2 = 0 then ((readT s.1).1, (s.1.drop (readT s.1).2.1, 0)) else ((readT s.1).1, (s.1, (readT s.1).2.2))) else ([], s)
/-- What is read is wrong. -/
def rW (bad : Bool) (s : List UInt8 × Int) : List UInt8 × Int := if s.2 = 0 ∧ bad = true then (s.1, 5) else s
/-- A byte that is one of these. -/
def rM (p : UInt8 → Bool) (s : List UInt8 × Int) : List UInt8 × Int := rW (!p (UInt8.ofNat (rF 1 s).1.toNat)) (rF 1 s).2
/-- Bytes that are left are wrong. -/
def rO (s : List UInt8 × Int) : List UInt8 × Int := rW (decide (0 < s.1.length)) s

/-- A method that gives one value. -/
def RetR (a w : World) (g : Nat) (v : Value) (s : List UInt8 × Int) (e : Ending) (w' : World) : Prop := e = .returned v ∧ Rdr a w' g s ∧ On g w w'
end Go.Proofs.Ytaiakkifefedoaa
/- The contracts of bytes.IndexByte and strings.IndexByte: where a byte stands first. -/
namespace Go.Proofs.Ytaiakkifefedoaa
open Go.RowKit

theorem bytesOf_map (l : List UInt8) : Lib.bytesOf (l.map fun c => (c.toNat : Int)) = l := by
  unfold Lib.bytesOf
  rw [List.map_map]
  conv => rhs; rw [← List.map_id l]
  refine List.map_congr_left fun c _ => ?_
  simp

/-- Where the first nought stands. -/
theorem idx_zero : ∀ l : List UInt8, Lib.indexByte l 0 = if l.contains 0 then ((upZ l).length : Int) else -1
  | [] => rfl
  | a :: t => by
    unfold Lib.indexByte
    by_cases ha : a = 0
    · subst ha
      simp [upZ]
    · have h1 : (a == 0) = false := by simpa using ha
      have h2 : upZ (a :: t) = a :: upZ t := by simp [upZ, ha]
      have h3 : (a :: t).contains 0 = t.contains 0 := by
        rw [List.contains_cons]
        have : ((0 : UInt8) == a) = false := by simpa using Ne.symm ha
        rw [this, Bool.false_or]
      rw [h1, h2, h3, idx_zero t]
      by_cases hc : t.contains 0 = true
      · rw [if_pos hc, if_pos hc]
        have : ((((upZ t).length : Nat) : Int) == -1) = false := by
          rw [beq_eq_false_iff_ne]
          omega
        simp [this]
      · rw [if_neg hc, if_neg hc]
        simp

theorem run_idx {P : Program} (w : World) (v : Value) (l : List UInt8) (c : Int) (hr : Rd w v l) :
    (Extern.BytealgIndexByte.indexByte #[v, .int .u8 c]).run P w = .ok (.int .i64 (Lib.indexByte l c.toNat.toUInt8)) w := by
  obtain ⟨A, cap, rfl, hle, hm, hA, hc⟩ := hr
  by_cases hl : l = []
  · subst hl
    rcases A with _ | ad
    · exact Lib.run_indexByteNil w _ _ c
    · have hl := Lib.run_loadBytesX (P := P) w [] ad .empty (fun j x hj => by simp at hj)
      have hs := Lib.run_indexByteString (P := P) .empty c w
      have he : (⟨ByteArray.empty.data ++ (Lib.bytesOf []).toArray⟩ : ByteArray) = .empty := by
        apply ByteArray.ext
        simp [Lib.bytesOf]
      rw [he] at hl
      change Sem.run P (do
        let b ← Extern.Bytes.bytesOf (.slice (some ad) 0 cap)
        let c ← Extern.Bytes.asByte (.int .u8 c)
        match (List.range b.size).find? fun i => b[i]! == c with
        | some i => pure (goInt i)
        | none => pure (goInt (-1))) w = _
      change Sem.run P (do
        let b ← Extern.Bytes.bytesOf (.string .empty)
        let c ← Extern.Bytes.asByte (.int .u8 c)
        match (List.range b.size).find? fun i => b[i]! == c with
        | some i => pure (goInt i)
        | none => pure (goInt (-1))) w = _ at hs
      simp only [Extern.Bytes.bytesOf, Sem.run_bind, Sem.run_pure, List.length_nil] at hl hs ⊢
      rw [hl]
      exact hs
  · obtain ⟨b, o, rfl, hc2⟩ := hc hl
    rw [Lib.run_indexByteSlice w b o l.length cap (l.map fun c => (c.toNat : Int)) (by simp) (fun i hi => by
      rw [hc2 i hi]
      simp [List.getD, List.getElem?_eq_getElem hi]) c, bytesOf_map]

set_option maxRecDepth 100000 in
theorem idx_b (w : World) (v : Value) (l : List UInt8) (c : Int) (hr : Rd w v l) :
    Calls Try.prog 46 #[v, .int .u8 c] w fun e w' => e = .returned (.int .i64 (Lib.indexByte l c.toNat.toUInt8)) ∧ w = w' := by
  go_enter Try.func46, Try.ntmps46
  go_wp2
  rw [run_callFunc_extern Try.func56 (by kernel_rfl) (by kernel_rfl) (by kernel_rfl) (e := Extern.BytealgIndexByte.indexByte) (by kernel_rfl), run_idx w v l c hr]
  simp only [Result.andThen]
  rw [Oper.upon_value]
  go_wp2
  go_ret
  exact ⟨rfl, rfl⟩

set_option maxRecDepth 100000 in
theorem idx_s (w : World) (s : ByteArray) (c : Int) :
    Calls Try.prog 45 #[.string s, .int .u8 c] w fun e w' => e = .returned (.int .i64 (Lib.indexByte s.data.toList c.toNat.toUInt8)) ∧ w = w' := by
  go_enter Try.func45, Try.ntmps45
  go_wp2
  rw [run_callFunc_extern Try.func59 (by kernel_rfl) (by kernel_rfl) (by kernel_rfl) (e := Extern.BytealgIndexByte.indexByte) (by kernel_rfl), Lib.run_indexByteString s c w]
  simp only [Result.andThen]
  rw [Oper.upon_value]
  go_wp2
  go_ret
  exact ⟨rfl, rfl⟩
end Go.Proofs.Ytaiakkifefedoaa
/- The contracts of the readers' methods in the package on replies. -/
namespace Go.Proofs.Ytaiakkifefedoaa
open Go.RowKit

theorem readF_err {l : List UInt8} {n x r : Int} (h : readF l n = (x, r)) : r = 0 → n ≤ l.length ∧ 1 ≤ n := by
  unfold readF at h
  split at h
  · rintro rfl; simp at h
  · split at h
    · rintro rfl; simp at h
    · intro _; omega

section
variable {P : Program} {ops : Array Oper} {rest : List Oper} {o : Oper} {a : Act} {w : World} {Q : Exit → Act → World → Prop}
/-- A slice that reads in one world is cut in another: what it reads in the first. -/
theorem wpl_cut_lo (hT : BT P) {b : World} {v : Value} {l : List UInt8} (hr : Rd b v l) (i : Int) (h0 : 0 ≤ i) (h1 : i ≤ l.length)
    (hgd : o.guard = none) (x lo : Operand) (k : IntKind) (ho : o.op = .slice 22 x (some lo) none none) (hx : a.eval x = v) (hlo : a.eval lo = .int k i)
    (h : ∀ A' m c', Rd b (.slice A' m c') (l.drop i.toNat) → wpList P ops Q rest (a.put o.dst (.slice A' m c')) w) : wpList P ops Q (o :: rest) a w := by
  obtain ⟨A, cap, rfl, hle, hm, _⟩ := id hr
  have hc := Rd.cut hr i.toNat l.length (by omega) (Nat.le_refl _)
  rw [List.take_length] at hc
  refine wpl_val hgd (v := .slice (if cap = i.toNat then A else A.map (·.add (i.toNat * 1))) (l.length - i.toNat) (cap - i.toNat)) (w' := w) ?_ (h _ _ _ hc)
  unfold execOp
  simp [ho, hx, hlo, Instr.sliceAt, Instr.slice, run_underlying hT.sl, Instr.sliceBounds, run_sliceBound, h0, h1, sizeOf_u8 hT]
end

theorem readI_le {l : List UInt8} {x : Int} {n : Nat} (h : readI l = (x, n, 0)) : n ≤ l.length := (readI_ok h).2.1
theorem readT_le {l x : List UInt8} {n : Nat} (h : readT l = (x, n, 0)) : n ≤ l.length := by
  obtain ⟨y, m, r, hq⟩ : ∃ y m r, readI l = (y, m, r) := ⟨_, _, _, rfl⟩
  unfold readT at h
  rw [hq] at h
  dsimp only at h
  split at h
  · rename_i h0
    subst h0
    have := readI_ok hq
    split at h
    · simp at h
    · simp only [Prod.mk.injEq] at h
      omega
  · rename_i h0
    simp only [Prod.mk.injEq] at h
    exact absurd h.2.2 h0
theorem readT_at_len (w : World) (v : Value) (l x : List UInt8) (n : Nat) (r : Int) (hr : Rd w v l) (h : readT l = (x, n, r)) :
    Calls Try.prog 52 #[v] w fun e w' => e = .returned (.tuple #[.string (strL x), .int .i64 n, .int .i64 r]) ∧ w = w' := by
  have := readText_len w v l hr
  rw [h] at this
  exact this

end Go.Proofs.Ytaiakkifefedoaa
/- The contracts of 'must' and of the reference's fields. (Printed by gen_rdC.py.) -/
namespace Go.Proofs.Ytaiakkifefedoaa
open Go.RowKit

theorem Rd.on {g : Nat} {w w' : World} {v : Value} {l : List UInt8} (h : Rd w v l) (k : On g w w') (hne : v.ownBlock ≠ some g) : Rd w' v l := by
  obtain ⟨A, cap, rfl, h1, h2, h3, h4⟩ := h
  refine ⟨A, cap, rfl, h1, h2, h3, fun hl => ?_⟩
  obtain ⟨b, o, rfl, hc⟩ := h4 hl
  refine ⟨b, o, rfl, fun j hj => k.cell (hc j hj) (fun e => hne (by simp [Value.ownBlock, ← e]))⟩

/-- Is a byte one of these? As the program asks it. -/
def isOf (m : List UInt8) (x : Int) : Bool := decide (0 ≤ Lib.indexByte m (x % 256).toNat.toUInt8)
def rMust (m : List UInt8) (s : List UInt8 × Int) : List UInt8 × Int := rW (!isOf m (rF 1 s).1) (rF 1 s).2

section
variable {P : Program} {ops : Array Oper} {rest : List Oper} {o : Oper} {a : Act} {w : World} {Q : Exit → Act → World → Prop}
theorem bc_made (n : Nat) : (madeCells (Value.int .u8 0).cells (n * 1)).toList = bc (List.replicate n 0) := by
  show (madeCells #[Value.int .u8 0] (n * 1)).toList = _
  rw [toList_madeCells_one]
  simp [bc]

/-- 'make([]byte, n)'. -/
theorem wpl_makeN (hT : BT P) (n : Nat) (hn : n ≤ 100000000)
    (hgd : o.guard = none) (x c : Operand) (kl kc : IntKind) (ho : o.op = .makeSlice 22 x c) (hx : a.eval x = .int kl (n : Int)) (hc : a.eval c = .int kc (n : Int))
    (h : ∀ v' w', Own w' w.heap.size v' (List.replicate n 0) → Ext w w' → wpList P ops Q rest (a.put o.dst v') w') : wpList P ops Q (o :: rest) a w := by
  obtain ⟨i, hi, hz, hs1, hb1⟩ := hT.info
  obtain ⟨w', hrun, h1, h2⟩ := run_make_full (P := P) w w.heap.size 22 5 i (.int .u8 0) 1 hT.sl hi hz hs1 kl kc n (by rw [hb1]; omega) (by unfold maxLen; omega) (Nat.le_refl _)
  refine wpl_val hgd (v := .slice (some ⟨w.heap.size, 0, none⟩) n n) (w' := w') ?_ (h _ _ ?_ ((Below.refl _ w).grown h2 (Nat.le_refl _) (fun k hk => by cases hk)))
  · unfold execOp
    simp only [ho, hx, hc, Sem.run_bind, Sem.run_pure, Result.andThen_ok, hrun]
  · rw [bc_made] at h1
    unfold Own
    rw [List.length_replicate]
    exact h1

theorem wpl_cut_hi (hT : BT P) {b : World} {v : Value} {l : List UInt8} (hr : Rd b v l) (j : Int) (h0 : 0 ≤ j) (h1 : j ≤ l.length)
    (hgd : o.guard = none) (x hi : Operand) (k : IntKind) (ho : o.op = .slice 22 x none (some hi) none) (hx : a.eval x = v) (hhi : a.eval hi = .int k j)
    (h : ∀ A' m c', Rd b (.slice A' m c') (l.take j.toNat) → wpList P ops Q rest (a.put o.dst (.slice A' m c')) w) : wpList P ops Q (o :: rest) a w := by
  obtain ⟨A, cap, rfl, hle, hm, _⟩ := id hr
  have hc := Rd.cut hr 0 j.toNat (by omega) (by omega)
  rw [List.drop_zero] at hc
  refine wpl_val hgd (v := .slice (if cap = 0 then A else A.map (·.add (0 * 1))) (j.toNat - 0) (cap - 0)) (w' := w) ?_ (h _ _ _ hc)
  unfold execOp
  have hb : j ≤ (cap : Int) := by omega
  simp [ho, hx, hhi, Instr.sliceAt, Instr.slice, run_underlying hT.sl, Instr.sliceBounds, run_sliceBound, h0, hb, sizeOf_u8 hT]
end

/-- Bytes that are read: as many as are asked. -/
def rB (n : Nat) (s : List UInt8 × Int) : List UInt8 × (List UInt8 × Int) := if s.2 = 0 then (if s.1.length < n then (List.replicate n 0, (s.1, 4)) else (s.1.take n, (s.1.drop n, 0))) else (List.replicate n 0, s)
theorem rB_length (n : Nat) (s : List UInt8 × Int) : (rB n s).1.length = n := by
  unfold rB
  split
  · split
    · simp
    · simp; omega
  · simp
/-- A method that gives bytes that nobody else has. -/
def RetO (a w : World) (g : Nat) (l : List UInt8) (s : List UInt8 × Int) (e : Ending) (w' : World) : Prop := ∃ v, e = .returned v ∧ Own w' w.heap.size v l ∧ Rdr a w' g s ∧ On g w w'

end Go.Proofs.Ytaiakkifefedoaa
/- The contracts of the functions that write and read ended texts. -/
namespace Go.Proofs.Ytaiakkifefedoaa
open Go.RowKit

/-- What comes of an ended text's writing: refused where a nought stands in it. -/
def RetZ (w : World) (l s : List UInt8) (e : Ending) (w' : World) : Prop :=
  (s.contains 0 = true → RetBE w [] 2 e w') ∧ (s.contains 0 = false → RetBE w (l ++ s ++ [0]) 0 e w')

theorem RetZ.yes {w : World} {l s : List UInt8} {e : Ending} {w' : World} (hc : s.contains 0 = true) (h : RetBE w [] 2 e w') : RetZ w l s e w' :=
  ⟨fun _ => h, fun h' => by rw [hc] at h'; cases h'⟩
theorem RetZ.no {w : World} {l s : List UInt8} {e : Ending} {w' : World} (hc : s.contains 0 = false) (h : RetBE w (l ++ s ++ [0]) 0 e w') : RetZ w l s e w' :=
  ⟨fun h' => (by rw [hc] at h'; cases h'), fun _ => h⟩

theorem str_getD (s : ByteArray) (k : Nat) (h : k < s.size) : s.data.toList.getD k 0 = s[k]'h := by
  have hl : k < s.data.toList.length := by rw [size_toList]; exact h
  rw [List.getD_eq_getElem?_getD, List.getElem?_eq_getElem hl]
  rfl

theorem byte_zero {c : UInt8} (h : ((c.toNat : Int) == 0) = true) : c = 0 := by
  have : (c.toNat : Int) = 0 := by simpa using h
  have h0 : (0 : UInt8).toNat = 0 := rfl
  exact UInt8.toNat.inj (by omega)
theorem byte_nz {c : UInt8} (h : ((c.toNat : Int) == 0) = false) : c ≠ 0 := by
  rintro rfl
  simp at h

set_option maxHeartbeats 400000 in
theorem appendEnded_len (w : World) (v : Value) (l : List UInt8) (s : ByteArray) (hr : Rd w v l) (hs : s.size ≤ 1000000) (hl : l.length ≤ 7000000) :
    Calls Try.prog 47 #[v, .string s] w (RetZ w l s.data.toList) := by
  have HR := Lib.hid hr
  clear hr
  have hz := idx_zero s.data.toList
  by_cases hc : s.data.toList.contains 0 = true
  · rw [if_pos hc] at hz
    have HZ := Lib.hid (show Lib.indexByte s.data.toList (0 : Int).toNat.toUInt8 = _ from hz)
    have HC := Lib.hid hc
    clear hz hc
    go_enter Try.func47, Try.ntmps47
    go_wp2_with (go_at_call 45; refine (idx_s _ _ _).mono ?_; rintro e w1 ⟨rfl, rfl⟩; rw [HZ.out])
    go_ret2
    exact RetZ.yes HC.out ⟨_, rfl, Own.nil _ _, Ext.refl _⟩
  · rw [if_neg hc] at hz
    have HZ := Lib.hid (show Lib.indexByte s.data.toList (0 : Int).toNat.toUInt8 = _ from hz)
    have HC := Lib.hid (show s.data.toList.contains 0 = false by simpa using hc)
    clear hz hc
    have hsz := size_toList s
    go_enter Try.func47, Try.ntmps47
    go_wp2_with (first | (go_at_call 45; refine (idx_s _ _ _).mono ?_; rintro e w1 ⟨rfl, rfl⟩; rw [HZ.out]) | (go_at_call 28; refine (clone_c _ _ _ HR.out (by omega)).mono ?_; rintro e w1 ⟨v1, rfl, ho1, hx1⟩) | (at_builtin; refine wpl_append_st bt s ho1 rfl _ _ rfl rfl rfl (by omega) (Ext.size hx1) ?_; intro v2 w2 ho2 hb2) | (at_builtin; refine wpl_append_one bt 0 ho2 (by omega) (by omega) rfl _ _ rfl rfl rfl (by rw [List.length_append]; omega) (Ext.size (hx1.below hb2 (Nat.le_refl _))) ?_; intro v3 w3 ho3 hb3))
    go_ret2
    exact RetZ.no HC.out ⟨_, rfl, ho3, (hx1.below hb2 (Nat.le_refl _)).below hb3 (Nat.le_refl _)⟩

set_option maxHeartbeats 400000 in
theorem readEnded_len (w : World) (v : Value) (l : List UInt8) (hr : Rd w v l) :
    Calls Try.prog 49 #[v] w (RetT w (readZ l)) := by
  have HR := Lib.hid hr
  have hle := hr.le
  unfold maxLen at hle
  clear hr
  have hz := idx_zero l
  by_cases hc : l.contains 0 = true
  · have HT := Lib.hid (show readZ l = (upZ l, (upZ l).length + 1, 0) from if_pos hc)
    rw [if_pos hc] at hz
    have hu := upZ_lt l hc
    have HZ := Lib.hid (show Lib.indexByte l (0 : Int).toNat.toUInt8 = _ from hz)
    clear hz hc
    rw [HT.out]
    go_enter Try.func49, Try.ntmps49
    go_wp2_with (first | (go_at_call 46; refine (idx_b _ _ _ _ HR.out).mono ?_; rintro e w1 ⟨rfl, rfl⟩; rw [HZ.out]) | ((with_reducible show wpList _ _ _ (_ :: _) _ _); refine wpl_slice_hi bt HR.out ((upZ l).length : Int) (by omega) (by omega) rfl _ _ _ rfl rfl rfl ?_; intro v2 hr2) | ((with_reducible show wpList _ _ _ (_ :: _) _ _); refine wpl_str bt hr2 rfl _ rfl rfl ?_))
    go_ret3
    refine ⟨?_, rfl⟩
    have e2 : (((upZ l).length + 1 : Nat) : Int) = ((upZ l).length : Int) + 1 := by omega
    simp only [e2, upZ_take]
    rfl
  · have HT := Lib.hid (show readZ l = ([], 0, 4) from if_neg hc)
    rw [if_neg hc] at hz
    have HZ := Lib.hid (show Lib.indexByte l (0 : Int).toNat.toUInt8 = _ from hz)
    clear hz hc
    rw [HT.out]
    go_enter Try.func49, Try.ntmps49
    go_wp2_with (go_at_call 46; refine (idx_b _ _ _ _ HR.out).mono ?_; rintro e w1 ⟨rfl, rfl⟩; rw [HZ.out])
    go_ret3
    exact ⟨rfl, rfl⟩

end Go.Proofs.Ytaiakkifefedoaa
/- Words of 32 bits: what is turned to the left. (Printed by gen_shaA.py.) -/
namespace Go.Proofs.Ytaiakkifefedoaa
open Go.RowKit

/-- x turned to the left by n, as the program writes it. -/
def rolS (x : Int) (n : Nat) : Int := bits .or .u32 (IntKind.u32.wrap (x * 2 ^ n)) (x / 2 ^ (32 - n))

end Go.Proofs.Ytaiakkifefedoaa
/- Words of a block, both sides. -/
namespace Go.Proofs.Ytaiakkifefedoaa
open Go.RowKit

/-- Four bytes as a word. -/
def wordS (a b c d : UInt8) : Int := bits .or .u32 (bits .or .u32 (bits .or .u32 (IntKind.u32.wrap (IntKind.u32.wrap (a.toNat : Int) * 16777216)) (IntKind.u32.wrap (IntKind.u32.wrap (b.toNat : Int) * 65536))) (IntKind.u32.wrap (IntKind.u32.wrap (c.toNat : Int) * 256))) (IntKind.u32.wrap (d.toNat : Int))

end Go.Proofs.Ytaiakkifefedoaa
/- Objects of many cells that a walk makes, fills, loads and gives back: one step each, the world behind it a letter. -/
namespace Go.Proofs.Ytaiakkifefedoaa
open Go.RowKit

/-- The object in block g has these cells, and may be written. -/
structure BoxF (W : World) (g : Nat) (cs : List Value) : Prop where
  box : Box W g cs
  free : ∀ j, j < cs.length → W.frozen? ⟨g, j, none⟩ = false
  lt : g < W.heap.size

theorem BoxF.new (w : World) (cs : List Value) (t : TypeId) : BoxF (w.alloc (.cells cs.toArray t)) w.heap.size cs := ⟨Box.new w cs t, fun j _ => World.frozen?_alloc_new _ _ _ _, by simp⟩
theorem BoxF.ext {W W' : World} {g : Nat} {cs : List Value} (h : BoxF W g cs) (k : Ext W W') : BoxF W' g cs :=
  ⟨h.box.ext k, fun j hj => (k.frozen h.lt).trans (h.free j hj), Nat.lt_of_lt_of_le h.lt (Ext.size k)⟩
theorem BoxF.on {W W' : World} {g b : Nat} {cs : List Value} (h : BoxF W g cs) (k : On b W W') (hne : g ≠ b) : BoxF W' g cs :=
  ⟨h.box.on k hne, fun j hj => k.frozen (h.free j hj) h.lt hne, Nat.lt_of_lt_of_le h.lt k.size⟩
theorem BoxF.there {W : World} {g : Nat} {cs : List Value} (h : BoxF W g cs) : W.there g 0 cs.length := fun j hj => by
  rw [Nat.zero_add]
  exact ⟨by rw [h.box j hj]; rfl, h.free j hj⟩
theorem On.sets {g : Nat} (W : World) (o : Nat) (vs : List Value) : On g W (W.setCells g o vs) := by
  induction vs generalizing o W with
  | nil => exact On.refl g W
  | cons v r ih => exact ((On.refl g W).set o v).trans (ih _ _)
theorem BoxF.sets {W : World} {g : Nat} {cs ds : List Value} (h : BoxF W g cs) (hl : cs.length = ds.length) : BoxF (W.setCells g 0 ds) g ds := by
  refine ⟨fun j hj => ?_, fun j hj => ?_, Nat.lt_of_lt_of_le h.lt (On.sets W 0 ds).size⟩
  · have := World.cell?_setCells_in g ds 0 W (fun j hj => (h.there j (by omega)).1) j hj
    rw [Nat.zero_add] at this
    rw [this, List.getD_eq_getElem?_getD, List.getElem?_eq_getElem hj]
    rfl
  · rw [World.frozen?_setCells]
    exact h.free j (by omega)
theorem BoxF.set {W : World} {g : Nat} {cs : List Value} (h : BoxF W g cs) (j : Nat) (u : Value) : BoxF (W.setCell ⟨g, j, none⟩ u) g (cs.set j u) := by
  refine ⟨fun i hi => ?_, fun i hi => ?_, by simpa [World.setCell] using h.lt⟩
  · rw [List.length_set] at hi
    by_cases e : j = i
    · subst e
      rw [World.cell?_setCell_same _ _ _ (h.box j hi), List.getD_eq_getElem?_getD, List.getElem?_set_self hi]
      rfl
    · rw [World.cell?_setCell_other _ _ _ _ (by simp), h.box i hi, List.getD_eq_getElem?_getD, List.getD_eq_getElem?_getD, List.getElem?_set_ne e]
  · rw [World.frozen?_setCell]
    rw [List.length_set] at hi
    exact h.free i hi
theorem BoxF.at {W : World} {g j : Nat} {cs : List Value} {v : Value} (h : BoxF W g cs) (hv : cs[j]? = some v) : W.cell? ⟨g, j, none⟩ = some v := by
  obtain ⟨hj, hv'⟩ := List.getElem?_eq_some_iff.1 hv
  rw [h.box j hj, List.getD_eq_getElem?_getD, hv]
  rfl

section
variable {P : Program} {ops : Array Oper} {rest : List Oper} {o : Oper} {a : Act} {w : World} {Q : Exit → Act → World → Prop} {K : Act → World → Prop} {E : Prop}

/-- A struct is laid over an object. -/
theorem wpl_store_box (hgd : o.guard = none) (ty : TypeId) (x y : Operand) (ho : o.op = .store ty x y) (g : Nat) (ds : List Value) (hx : a.eval x = .pointer (some ⟨g, 0, none⟩)) (hy : a.eval y = .agg ds.toArray)
    {cs : List Value} (B : BoxF w g cs) (hl : cs.length = ds.length) (hi : (P.info? ty).map (·.size) = some ds.length) (h1 : ds.all (·.oneCell') = true)
    (h : ∀ w', BoxF w' g ds → On g w w' → wpList P ops Q rest (a.put o.dst undef) w') : wpList P ops Q (o :: rest) a w :=
  wpList_store_mid hgd ty x y ho g 0 ds.toArray hx hy (by have := B.there; rwa [hl] at this) (by simpa using hi) (by simpa using h1) (h _ (by simpa using B.sets hl) (On.sets w 0 _))

theorem step_store_box (hgd : o.guard = none) (ty : TypeId) (x y : Operand) (ho : o.op = .store ty x y) (g : Nat) (ds : List Value) (hx : a.eval x = .pointer (some ⟨g, 0, none⟩)) (hy : a.eval y = .agg ds.toArray)
    {cs : List Value} (B : BoxF w g cs) (hl : cs.length = ds.length) (hi : (P.info? ty).map (·.size) = some ds.length) (h1 : ds.all (·.oneCell') = true)
    (h : ∀ w', BoxF w' g ds → On g w w' → K (a.put o.dst undef) w') : if Region.wanted o (yielded ops a.tmps) = true then Oper.wp P o a w K Q else E := by
  have hw : Region.wanted o (yielded ops a.tmps) = true := by simp [Region.wanted, hgd]
  rw [if_pos hw]
  exact wp_store_mid ty x y ho g 0 ds.toArray hx hy (by have := B.there; rwa [hl] at this) (by simpa using hi) (by simpa using h1) (h _ (by simpa using B.sets hl) (On.sets w 0 _))

theorem run_store_cell (ty : TypeId) (g j : Nat) (v : Value) (hv : v.cells = #[v]) (h1 : v.oneCell' = true) (hi : (P.info? ty).map (·.size) = some 1) {cs : List Value} (B : BoxF w g cs) (hj : j < cs.length) :
    (storeVar ty ⟨g, j, none⟩ v).run P w = .ok () (w.setCell ⟨g, j, none⟩ v) := by
  have := run_storeCells_cells (P := P) g j [v] 0 w (fun i hi => by simp at hi; subst hi; show (w.cell? ⟨g, j, none⟩).isSome = true; rw [B.box j hj]; rfl)
    (fun i hi => by simp at hi; subst hi; exact B.free j hj) (fun u hu => by simp at hu; subst hu; exact h1)
  cases hq : P.info? ty with
  | none => simp [hq] at hi
  | some i =>
    have hs : i.size = 1 := by simpa [hq] using hi
    simp only [Nat.add_zero] at this
    simp [storeVar, sizeOf, typeInfo, hq, hs, hv, this, World.setCells]

/-- One field of an object is set. -/
theorem wpl_store_cell (hgd : o.guard = none) (ty : TypeId) (x y : Operand) (ho : o.op = .store ty x y) (g j : Nat) (v : Value) (hx : a.eval x = .pointer (some ⟨g, j, none⟩)) (hy : a.eval y = v)
    (hv : v.cells = #[v]) (h1 : v.oneCell' = true) (hi : (P.info? ty).map (·.size) = some 1) {cs : List Value} (B : BoxF w g cs) (hj : j < cs.length)
    (h : ∀ w', BoxF w' g (cs.set j v) → On g w w' → wpList P ops Q rest (a.put o.dst undef) w') : wpList P ops Q (o :: rest) a w := by
  refine wpList_plain hgd fun K hK => ?_
  unfold Oper.wp execOp
  simp only [ho, hx, hy, Instr.storeAt, Instr.sureAddr, Sem.run_bind, Sem.run_pure, Result.andThen_ok, run_store_cell ty g j v hv h1 hi B hj]
  exact hK _ _ (h _ (B.set j v) ((On.refl g w).set j v))

theorem step_store_cell (hgd : o.guard = none) (ty : TypeId) (x y : Operand) (ho : o.op = .store ty x y) (g j : Nat) (v : Value) (hx : a.eval x = .pointer (some ⟨g, j, none⟩)) (hy : a.eval y = v)
    (hv : v.cells = #[v]) (h1 : v.oneCell' = true) (hi : (P.info? ty).map (·.size) = some 1) {cs : List Value} (B : BoxF w g cs) (hj : j < cs.length)
    (h : ∀ w', BoxF w' g (cs.set j v) → On g w w' → K (a.put o.dst undef) w') : if Region.wanted o (yielded ops a.tmps) = true then Oper.wp P o a w K Q else E := by
  have hw : Region.wanted o (yielded ops a.tmps) = true := by simp [Region.wanted, hgd]
  rw [if_pos hw]
  unfold Oper.wp execOp
  simp only [ho, hx, hy, Instr.storeAt, Instr.sureAddr, Sem.run_bind, Sem.run_pure, Result.andThen_ok, run_store_cell ty g j v hv h1 hi B hj]
  exact h _ (B.set j v) ((On.refl g w).set j v)

/-- A struct is read whole. -/
theorem wpl_load_box (hgd : o.guard = none) (ty : TypeId) (x : Operand) (ho : o.op = .load ty x) (g : Nat) (hx : a.eval x = .pointer (some ⟨g, 0, none⟩)) {cs : List Value} {d : TypeDesc} (B : BoxF w g cs)
    (hu : P.underlying ty = some d) (hd : d.isRow = true) (hi : (P.info? ty).map (·.size) = some cs.length)
    (h : wpList P ops Q rest (a.put o.dst (.agg cs.toArray)) w) : wpList P ops Q (o :: rest) a w :=
  wpList_load_mid hgd ty x ho g 0 hx cs d B.box.range hu hd hi h

/-- '[]byte(s)'. -/
theorem wpl_bytes (hT : BT P) (s : ByteArray) (hn : s.size ≤ maxLen) (hgd : o.guard = none) (x : Operand) (ho : o.op = .convert 9 22 x) (hx : a.eval x = .string s)
    (h : ∀ A m c w', Rd w' (.slice A m c) s.data.toList → (Value.slice A m c).ownBlock = some w.heap.size → Ext w w' → wpList P ops Q rest (a.put o.dst (.slice A m c)) w') : wpList P ops Q (o :: rest) a w := by
  have hr := Lib.run_convert_string_bytes (P := P) w 9 22 5 s hT.st hT.sl hT.el
  refine wpl_val hgd (v := .slice (some ⟨w.heap.size, 0, none⟩) s.size (grownCap w s.size 0 5)) (w' := Lib.bytesWorld w 5 s) ?_ (h _ _ _ _ ?_ rfl ?_)
  · unfold execOp
    simp only [ho, hx, hr, Sem.run_bind, Sem.run_pure, Result.andThen_ok]
  · refine ⟨_, _, by rw [size_toList], by rw [size_toList]; exact grownCap_ge _ _ _ _, grownCap_le_maxLen _ _ _ _ hn, (fun h => by cases h), fun _ => ⟨_, 0, rfl, fun j hj => ?_⟩⟩
    rw [size_toList] at hj
    rw [Nat.zero_add]
    exact Lib.bytesWorld_cell w 5 s j hj
  · exact ⟨rfl, rfl, rfl, by rw [Lib.bytesWorld_size]; omega, fun k hk => Lib.bytesWorld_at_old w 5 s k hk⟩

/-- The end of a function that gives an object and an error. -/
theorem ret_box {fn : Func} {R : Ending → World → Prop} {p u : Tmp} {ty : TypeId} {g : Nat} {cs : List Value} {d : TypeDesc} {r : Value} (h : fn.results = #[.cell p ty, .tmp u]) (hd : a.defers = [])
    (hp : a.tmps.getD p undef = .pointer (some ⟨g, 0, none⟩)) (hr : a.tmps.getD u undef = r) (B : BoxF w g cs) (hu : P.underlying ty = some d) (hrow : d.isRow = true) (hi : (P.info? ty).map (·.size) = some cs.length)
    (hR : R (.returned (.tuple #[.agg cs.toArray, r])) w) : bodyPost P fn R .ret a w := by
  refine bodyPost_ret (v := .tuple #[.agg cs.toArray, r]) ?_ hd hR
  rw [results_cell_tmp h, hp, hr]
  simp only [asAddr, Sem.run_pure, Result.andThen_ok, run_loadVar_mid w g 0 ty cs d B.box.range hu hrow hi]
end
end Go.Proofs.Ytaiakkifefedoaa
/- The object of a hash; arrays of words; the schedule. -/
namespace Go.Proofs.Ytaiakkifefedoaa
open Go.RowKit

/-- The cells of a hash. -/
def hashC (kind : Int) (ws : List Int) (rest : List UInt8) (n all : Int) : List Value := .int .i64 kind :: (ws.map (Value.int .u32) ++ (bc rest ++ [.int .i64 n, .int .i64 all]))
theorem hashC_length (kind : Int) (ws : List Int) (rest : List UInt8) (n all : Int) : (hashC kind ws rest n all).length = ws.length + rest.length + 3 := by simp [hashC, bc_length]; omega
/-- The cells of an array of words that is filled from its head. -/
def arrC (p : List Int) (N : Nat) : List Value := (p ++ List.replicate (N - p.length) 0).map (Value.int .u32)

theorem arrC_length (p : List Int) (N : Nat) (h : p.length ≤ N) : (arrC p N).length = N := by simp [arrC]; omega
theorem arrC_get (p : List Int) (N j : Nat) (h : j < p.length) : (arrC p N)[j]? = some (.int .u32 (p.getD j 0)) := by
  rw [arrC, List.getElem?_map, List.getElem?_append_left h, List.getD_eq_getElem?_getD, List.getElem?_eq_getElem h]
  rfl
theorem arrC_set (p : List Int) (N : Nat) (x : Int) (h : p.length < N) : (arrC p N).set p.length (.int .u32 x) = arrC (p ++ [x]) N := by
  obtain ⟨m, hm⟩ : ∃ m, N - p.length = m + 1 := ⟨N - p.length - 1, by omega⟩
  have h2 : N - (p ++ [x]).length = m := by simp; omega
  rw [arrC, arrC, hm, h2, List.replicate_succ, List.map_append, List.map_cons, List.map_append, List.map_append]
  rw [List.set_append_right _ _ (by simp)]
  simp

/-- The words of a schedule of SHA-1, one behind the other. -/
def sch1 (rest : List UInt8) : Nat → List Int
  | 0 => []
  | t + 1 => sch1 rest t ++ [if t < 16 then wordS (rest.getD (4 * t) 0) (rest.getD (4 * t + 1) 0) (rest.getD (4 * t + 2) 0) (rest.getD (4 * t + 3) 0)
      else rolS (bits .xor .u32 (bits .xor .u32 (bits .xor .u32 ((sch1 rest t).getD (t - 3) 0) ((sch1 rest t).getD (t - 8) 0)) ((sch1 rest t).getD (t - 14) 0)) ((sch1 rest t).getD (t - 16) 0)) 1]
theorem sch1_length (rest : List UInt8) : ∀ t, (sch1 rest t).length = t
  | 0 => rfl
  | t + 1 => by rw [sch1, List.length_append, sch1_length rest t]; rfl

/-- A sum of words. -/
def add32 (x y : Int) : Int := IntKind.u32.wrap (x + y)
/-- f and k of SHA-1. -/
def f1 (t : Nat) (b c d : Int) : Int :=
  if t < 20 then bits .xor .u32 (bits .and .u32 b c) (bits .and .u32 (bits .xor .u32 IntKind.u32.max b) d)
  else if t < 40 then bits .xor .u32 (bits .xor .u32 b c) d
  else if t < 60 then bits .xor .u32 (bits .xor .u32 (bits .and .u32 b c) (bits .and .u32 b d)) (bits .and .u32 c d)
  else bits .xor .u32 (bits .xor .u32 b c) d
def k1 (t : Nat) : Int := if t < 20 then 1518500249 else if t < 40 then 1859775393 else if t < 60 then 2400959708 else 3395469782
/-- A round of SHA-1; so many rounds. -/
def rnd1 (p : List Int) (s : Int × Int × Int × Int × Int) (t : Nat) : Int × Int × Int × Int × Int :=
  (add32 (add32 (add32 (add32 (rolS s.1 5) (f1 t s.2.1 s.2.2.1 s.2.2.2.1)) s.2.2.2.2) (k1 t)) (p.getD t 0), s.1, rolS s.2.1 30, s.2.2.1, s.2.2.2.1)
def rnds1 (p : List Int) (s : Int × Int × Int × Int × Int) : Nat → Int × Int × Int × Int × Int
  | 0 => s
  | t + 1 => rnd1 p (rnds1 p s t) t
theorem f1_a (t : Nat) (b c d : Int) (h : t < 20) : f1 t b c d = bits .xor .u32 (bits .and .u32 b c) (bits .and .u32 (bits .xor .u32 IntKind.u32.max b) d) ∧ k1 t = 1518500249 := by simp [f1, k1, h]
theorem f1_b (t : Nat) (b c d : Int) (h : ¬ t < 20) (h2 : t < 40) : f1 t b c d = bits .xor .u32 (bits .xor .u32 b c) d ∧ k1 t = 1859775393 := by simp [f1, k1, h, h2]
theorem f1_c (t : Nat) (b c d : Int) (h : ¬ t < 20) (h2 : ¬ t < 40) (h3 : t < 60) : f1 t b c d = bits .xor .u32 (bits .xor .u32 (bits .and .u32 b c) (bits .and .u32 b d)) (bits .and .u32 c d) ∧ k1 t = 2400959708 := by simp [f1, k1, h, h2, h3]
theorem f1_d (t : Nat) (b c d : Int) (h : ¬ t < 20) (h2 : ¬ t < 40) (h3 : ¬ t < 60) : f1 t b c d = bits .xor .u32 (bits .xor .u32 b c) d ∧ k1 t = 3395469782 := by simp [f1, k1, h, h2, h3]
theorem rnds1_succ {p : List Int} {s : Int × Int × Int × Int × Int} {t : Nat} {a b c d e f k : Int} (h : rnds1 p s t = (a, b, c, d, e)) (hf : f1 t b c d = f ∧ k1 t = k) :
    rnds1 p s (t + 1) = (add32 (add32 (add32 (add32 (rolS a 5) f) e) k) (p.getD t 0), a, rolS b 30, c, d) := by
  rw [rnds1, h, rnd1]
  dsimp only
  rw [hf.1, hf.2]

/-- The first words, each with a number added. -/
def addW (ws vs : List Int) (j : Nat) : List Int := (List.zipWith add32 ws vs).take j ++ ws.drop j
/-- SHA-1 works on a block. -/
def comp1 (ws : List Int) (rest : List UInt8) : List Int :=
  let r := rnds1 (sch1 rest 80) (ws.getD 0 0, ws.getD 1 0, ws.getD 2 0, ws.getD 3 0, ws.getD 4 0) 80
  addW ws [r.1, r.2.1, r.2.2.1, r.2.2.2.1, r.2.2.2.2] 5

/-- What is not yet worked on, from a place on. -/
theorem hash_rest {W : World} {g : Nat} {kind : Int} {ws : List Int} {rest : List UInt8} {n all : Int} (h : BoxF W g (hashC kind ws rest n all)) (hw : ws.length = 8) (hr : rest.length = 64) (j m : Nat) (hj : j < 64) (hm : m = 64 - j) :
    Rd W (.slice (some ⟨g, 9 + j, none⟩) m m) (rest.drop j) := by
  refine ⟨_, m, by rw [List.length_drop, hr, hm], by rw [List.length_drop]; omega, by unfold maxLen; omega, (fun h => by cases h), fun _ => ⟨g, 9 + j, rfl, fun i hi => ?_⟩⟩
  rw [List.length_drop, hr] at hi
  have hc := bc_get rest (j + i) (by omega)
  refine (h.at (j := 9 + j + i) ?_)
  rw [hashC, show 9 + j + i = (8 + (j + i)) + 1 by omega, List.getElem?_cons_succ, List.getElem?_append_right (by simp [hw]), List.length_map, hw, show 8 + (j + i) - 8 = j + i by omega, List.getElem?_append_left (by rw [bc_length]; omega), hc]
  simp [List.getD_eq_getElem?_getD, List.getElem?_drop]

section
variable {P : Program} {ops : Array Oper} {rest : List Oper} {o : Oper} {a : Act} {w : World} {Q : Exit → Act → World → Prop}
/-- A new variable. -/
theorem wpl_alloc (hgd : o.guard = none) (ty : TypeId) (ho : o.op = .alloc ty) (cs : List Value) (hz : (P.info? ty).map (·.zero) = some (some (.agg cs.toArray)))
    (h : ∀ w', BoxF w' w.heap.size cs → Ext w w' → wpList P ops Q rest (a.put o.dst (.pointer (some ⟨w.heap.size, 0, none⟩))) w') : wpList P ops Q (o :: rest) a w := by
  refine wpl_val hgd (v := .pointer (some ⟨w.heap.size, 0, none⟩)) (w' := w.alloc (.cells cs.toArray ty)) ?_ (h _ (BoxF.new w cs ty) ((Ext.refl w).alloc _))
  cases hq : P.info? ty with
  | none => simp [hq] at hz
  | some i =>
    have hs : i.zero = some (.agg cs.toArray) := by simpa [hq] using hz
    unfold execOp
    simp [ho, Instr.alloc, newVar, newRow, zeroValue, typeInfo, hq, hs, Value.cells]
/-- An array's bytes from a place on. -/
theorem wpl_slice_arr (hgd : o.guard = none) (t e : TypeId) (N : Nat) (ht : P.underlying t = some (.array N e)) (hs : ∀ w, (sizeOf e).run P w = .ok 1 w) (x lo : Operand) (k : IntKind) (ho : o.op = .slice t x (some lo) none none)
    (g b j : Nat) (hx : a.eval x = .pointer (some ⟨g, b, none⟩)) (I : Int) (hlo : a.eval lo = .int k I) (hI : I = (j : Int)) (hj : j < N)
    (h : wpList P ops Q rest (a.put o.dst (.slice (some ⟨g, b + j, none⟩) (N - j) (N - j))) w) : wpList P ops Q (o :: rest) a w := by
  subst hI
  refine wpl_val hgd (v := .slice (some ⟨g, b + j, none⟩) (N - j) (N - j)) (w' := w) ?_ h
  have hl : P.arrayLen t = N := by unfold Program.arrayLen; rw [ht]
  have he : P.elem t = e := by unfold Program.elem; rw [ht]
  have hr := run_sliceAt_array_l (P := P) w t ⟨g, b, none⟩ (by rw [hl, he]; exact ht) k (j : Int) (by omega) (by rw [hl]; omega)
  rw [hl, he, hs w] at hr
  unfold execOp
  simp only [ho, hx, hlo, Option.map_some, Option.map_none, hr, Sem.run_bind, Sem.run_pure, Result.andThen_ok, slicedAt, Int.toNat_natCast, Nat.mul_one]
  rw [if_neg (by omega)]
  simp [Addr.add]
end
end Go.Proofs.Ytaiakkifefedoaa
/- SHA-1 works on a block. -/
namespace Go.Proofs.Ytaiakkifefedoaa
open Go.RowKit

theorem drop4 {l : List UInt8} {j : Nat} (h : j + 3 < l.length) : l.drop j = l.getD j 0 :: l.getD (j + 1) 0 :: l.getD (j + 2) 0 :: l.getD (j + 3) 0 :: l.drop (j + 4) := by
  have g : ∀ i (hi : i < l.length), l.getD i 0 = l[i] := fun i hi => by rw [List.getD_eq_getElem?_getD, List.getElem?_eq_getElem hi]; rfl
  rw [g j (by omega), g (j + 1) (by omega), g (j + 2) (by omega), g (j + 3) (by omega)]
  rw [List.drop_eq_getElem_cons (by omega), List.drop_eq_getElem_cons (i := j + 1) (by omega), List.drop_eq_getElem_cons (i := j + 1 + 1) (by omega), List.drop_eq_getElem_cons (i := j + 1 + 1 + 1) (by omega)]

end Go.Proofs.Ytaiakkifefedoaa
