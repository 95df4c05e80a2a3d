/- The contracts of the functions that write and read counted texts. -/
import Derived.Test.YtdjnjhlgpflcjaaLenE
namespace Go.Proofs.Ytdjnjhlgpflcjaa
open Go.RowKit

/-- Three results of a text's reading; nothing turns. -/
def RetT (w : World) (r : List UInt8 × Nat × Int) (e : Ending) (w' : World) : Prop := e = .returned (.tuple #[.string (strL r.1), .int .i64 (r.2.1 : Int), .int .i64 r.2.2]) ∧ w = w'

set_option maxHeartbeats 400000 in
theorem appendText_len (w : World) (v : Value) (l : List UInt8) (s : ByteArray) (hr : Rd w v l) (hs : s.size ≤ 1000000) (hl : l.length ≤ 7000000) :
    Calls Try.prog 21 #[v, .string s] w (RetB w (l ++ textB s.data.toList)) := by
  have HR := Lib.hid hr
  clear hr
  have hi := intB_length (s.size : Int)
  have hi2 := sizeI_le (s.size : Int)
  rw [← hi] at hi2
  clear hi
  have HE := Lib.hid (show intB (s.size : Int) ++ s.data.toList = textB s.data.toList by unfold textB; rw [size_toList])
  go_enter Try.func21, Try.ntmps21
  go_wp2_with (first | (go_at_call 35; refine (appendInt_len _ _ _ (s.size : Int) HR.out (by omega) (by omega) (by omega)).mono ?_; rintro e w1 ⟨v1, rfl, ho1, hx1⟩) | (at_builtin; refine wpl_append_st bt s ho1 rfl _ _ rfl rfl rfl (by rw [List.length_append]; omega) (Ext.size hx1) ?_; intro v2 w2 ho2 hb2))
  go_ret
  refine ⟨_, rfl, ?_, hx1.below hb2 (Nat.le_refl _)⟩
  rw [← HE.out, ← List.append_assoc]
  exact ho2

set_option maxHeartbeats 400000 in
theorem appendText_ref (w : World) (v : Value) (l : List UInt8) (s : ByteArray) (hr : Rd w v l) (hs : s.size ≤ 1000000) (hl : l.length ≤ 7000000) :
    Calls Try.prog 30 #[v, .string s] w (RetB w (l ++ textB s.data.toList)) := by
  have HR := Lib.hid hr
  clear hr
  have hi := intB_length (s.size : Int)
  have hi2 := sizeI_le (s.size : Int)
  rw [← hi] at hi2
  clear hi
  have HE := Lib.hid (show intB (s.size : Int) ++ s.data.toList = textB s.data.toList by unfold textB; rw [size_toList])
  go_enter Try.func30, Try.ntmps30
  go_wp2_with (first | (go_at_call 44; refine (appendInt_ref _ _ _ (s.size : Int) HR.out (by omega) (by omega) (by omega)).mono ?_; rintro e w1 ⟨v1, rfl, ho1, hx1⟩) | (at_builtin; refine wpl_append_st bt s ho1 rfl _ _ rfl rfl rfl (by rw [List.length_append]; omega) (Ext.size hx1) ?_; intro v2 w2 ho2 hb2))
  go_ret
  refine ⟨_, rfl, ?_, hx1.below hb2 (Nat.le_refl _)⟩
  rw [← HE.out, ← List.append_assoc]
  exact ho2

theorem readInt_at_len (w : World) (v : Value) (l : List UInt8) (x : Int) (n : Nat) (r : Int) (hr : Rd w v l) (h : readI l = (x, n, r)) :
    Calls Try.prog 36 #[v] w fun e w' => e = .returned (.tuple #[.int .u64 x, .int .i64 n, .int .i64 r]) ∧ w = w' := by
  have := readInt_len w v l hr
  rw [h] at this
  exact this

set_option maxHeartbeats 1000000 in
theorem readText_len (w : World) (v : Value) (l : List UInt8) (hr : Rd w v l) :
    Calls Try.prog 23 #[v] w (RetT w (readT l)) := by
  obtain ⟨x, n, r, h⟩ : ∃ x n r, readI l = (x, n, r) := ⟨_, _, _, rfl⟩
  have H := Lib.hid h
  have HR := Lib.hid hr
  obtain ⟨A, cap, rfl, hle, hm, hA, hc⟩ := hr
  clear hA hc
  unfold maxLen at hm
  rcases readI_err h with rfl | ⟨rfl, rfl, rfl | rfl⟩
  · obtain ⟨hn1, hn2, hx0⟩ := readI_ok h
    by_cases hx : (l.length : Int) - n < x
    · have HT := Lib.hid (show readT l = ([], 0, 4) by unfold readT; rw [h]; exact (if_pos rfl).trans (if_pos hx))
      clear h
      rw [HT.out]
      go_enter Try.func23, Try.ntmps23
      go_wp2_with (go_at_call 36; refine (readInt_at_len _ _ _ _ _ _ HR.out H.out).mono ?_; rintro e w1 ⟨rfl, rfl⟩)
      go_ret3
      exact ⟨rfl, rfl⟩
    · have HT := Lib.hid (show readT l = ((l.take (n + x.toNat)).drop n, n + x.toNat, 0) by unfold readT; rw [h]; exact (if_pos rfl).trans (if_neg hx))
      clear h
      have hx2 : x ≤ (l.length : Int) - n := by omega
      obtain ⟨X, rfl⟩ : ∃ X : Nat, x = X := ⟨x.toNat, by omega⟩
      rw [HT.out]
      clear hx
      go_enter Try.func23, Try.ntmps23
      go_wp2_with (first | (go_at_call 36; refine (readInt_at_len _ _ _ _ _ _ HR.out H.out).mono ?_; rintro e w1 ⟨rfl, rfl⟩) | ((with_reducible show wpList _ _ _ (_ :: _) _ _); refine wpl_slice_lohi bt HR.out (n : Int) ((n : Int) + (X : Int)) (by omega) (by omega) (by omega) rfl _ _ _ _ _ rfl rfl rfl rfl ?_; intro v2 hr2) | ((with_reducible show wpList _ _ _ (_ :: _) _ _); refine wpl_str bt hr2 rfl _ rfl rfl ?_))
      go_ret3
      refine ⟨?_, rfl⟩
      have e2 : ((n + X : Nat) : Int) = (n : Int) + (X : Int) := by omega
      simp only [Int.toNat_natCast, e2]
      rfl
  all_goals
    have HT := Lib.hid (show readT l = ([], 0, (readI l).2.2) by unfold readT; rw [h]; simp)
    clear h
    rw [HT.out, H.out]
    go_enter Try.func23, Try.ntmps23
    go_wp2_with (go_at_call 36; refine (readInt_at_len _ _ _ _ _ _ HR.out H.out).mono ?_; rintro e w1 ⟨rfl, rfl⟩)
    go_ret3
    exact ⟨rfl, rfl⟩

theorem readInt_at_ref (w : World) (v : Value) (l : List UInt8) (x : Int) (n : Nat) (r : Int) (hr : Rd w v l) (h : readI l = (x, n, r)) :
    Calls Try.prog 45 #[v] w fun e w' => e = .returned (.tuple #[.int .u64 x, .int .i64 n, .int .i64 r]) ∧ w = w' := by
  have := readInt_ref w v l hr
  rw [h] at this
  exact this

set_option maxHeartbeats 1000000 in
theorem readText_ref (w : World) (v : Value) (l : List UInt8) (hr : Rd w v l) :
    Calls Try.prog 31 #[v] w (RetT w (readT l)) := by
  obtain ⟨x, n, r, h⟩ : ∃ x n r, readI l = (x, n, r) := ⟨_, _, _, rfl⟩
  have H := Lib.hid h
  have HR := Lib.hid hr
  obtain ⟨A, cap, rfl, hle, hm, hA, hc⟩ := hr
  clear hA hc
  unfold maxLen at hm
  rcases readI_err h with rfl | ⟨rfl, rfl, rfl | rfl⟩
  · obtain ⟨hn1, hn2, hx0⟩ := readI_ok h
    by_cases hx : (l.length : Int) - n < x
    · have HT := Lib.hid (show readT l = ([], 0, 4) by unfold readT; rw [h]; exact (if_pos rfl).trans (if_pos hx))
      clear h
      rw [HT.out]
      go_enter Try.func31, Try.ntmps31
      go_wp2_with (go_at_call 45; refine (readInt_at_ref _ _ _ _ _ _ HR.out H.out).mono ?_; rintro e w1 ⟨rfl, rfl⟩)
      go_ret3
      exact ⟨rfl, rfl⟩
    · have HT := Lib.hid (show readT l = ((l.take (n + x.toNat)).drop n, n + x.toNat, 0) by unfold readT; rw [h]; exact (if_pos rfl).trans (if_neg hx))
      clear h
      have hx2 : x ≤ (l.length : Int) - n := by omega
      obtain ⟨X, rfl⟩ : ∃ X : Nat, x = X := ⟨x.toNat, by omega⟩
      rw [HT.out]
      clear hx
      go_enter Try.func31, Try.ntmps31
      go_wp2_with (first | (go_at_call 45; refine (readInt_at_ref _ _ _ _ _ _ HR.out H.out).mono ?_; rintro e w1 ⟨rfl, rfl⟩) | ((with_reducible show wpList _ _ _ (_ :: _) _ _); refine wpl_slice_lohi bt HR.out (n : Int) ((n : Int) + (X : Int)) (by omega) (by omega) (by omega) rfl _ _ _ _ _ rfl rfl rfl rfl ?_; intro v2 hr2) | ((with_reducible show wpList _ _ _ (_ :: _) _ _); refine wpl_str bt hr2 rfl _ rfl rfl ?_))
      go_ret3
      refine ⟨?_, rfl⟩
      have e2 : ((n + X : Nat) : Int) = (n : Int) + (X : Int) := by omega
      simp only [Int.toNat_natCast, e2]
      rfl
  all_goals
    have HT := Lib.hid (show readT l = ([], 0, (readI l).2.2) by unfold readT; rw [h]; simp)
    clear h
    rw [HT.out, H.out]
    go_enter Try.func31, Try.ntmps31
    go_wp2_with (go_at_call 45; refine (readInt_at_ref _ _ _ _ _ _ HR.out H.out).mono ?_; rintro e w1 ⟨rfl, rfl⟩)
    go_ret3
    exact ⟨rfl, rfl⟩
end Go.Proofs.Ytdjnjhlgpflcjaa
