/- The first statements of the chapter on numbers and texts: the walks of their Go functions. -/
import Derived.Test.YtnlfcknpmemhfaaLenG
import Derived.Test.YtnlfcknpmemhfaaKit
import Derived.Test.YtnlfcknpmemhfaaSpecC
namespace Go.Proofs.Ytnlfcknpmemhfaa
open Go.RowKit

theorem readText_at_len (w : World) (v : Value) (l t : List UInt8) (n : Nat) (r : Int) (s : ByteArray) (hr : Rd w v l) (h : readT l = (t, n, r)) (hs : strL t = s) :
    Calls Try.prog 32 #[v] w fun e w' => e = .returned (.tuple #[.string s, .int .i64 n, .int .i64 r]) ∧ w = w' := by
  have := readText_len w v l hr
  rw [h] at this
  subst hs
  exact this
theorem readEnded_at_len (w : World) (v : Value) (l t : List UInt8) (n : Nat) (r : Int) (s : ByteArray) (hr : Rd w v l) (h : readZ l = (t, n, r)) (hs : strL t = s) :
    Calls Try.prog 43 #[v] w fun e w' => e = .returned (.tuple #[.string s, .int .i64 n, .int .i64 r]) ∧ w = w' := by
  have := readEnded_len w v l hr
  rw [h] at this
  subst hs
  exact this

set_option maxRecDepth 100000 in
set_option maxHeartbeats 1000000 in
theorem lives01_c (w : World) : Calls Try.prog 28 #[] w (RetTrue w) := by
  have K1 := Lib.hid (show fixOk 258 2 = true by decide)
  have K2 := Lib.hid (show readI [252, 1, 0, 9] = (1, 3, 0) by decide)
  have K3 := Lib.hid (show readT [2, 97, 98, 99] = ([97, 98], 3, 0) by decide)
  have K4 := Lib.hid (show readZ [97, 0, 98] = ([97], 2, 0) by decide)
  go_enter Try.func28, Try.ntmps28
  go_wp2_with (first | (go_at_call 33; refine (appendFixed_good_len _ _ _ _ _ (Rd.nil _) (by simp) K1.out).mono ?_; rintro e w1 ⟨v1, rfl, ho1, hx1⟩) | (go_at_call 29; refine (readInt_at_len _ _ _ _ _ _ (rd_lit _ _ [252, 1, 0, 9] rfl (by simp) _ _ rfl (by simp)) K2.out).mono ?_; rintro e w2 ⟨rfl, rfl⟩) | (go_at_call 32; refine (readText_at_len _ _ _ _ _ _ ⟨#[97, 98]⟩ (rd_lit _ _ [2, 97, 98, 99] rfl (by simp) _ _ rfl (by simp)) K3.out rfl).mono ?_; rintro e w2 ⟨rfl, rfl⟩) | (go_at_call 43; refine (readEnded_at_len _ _ _ _ _ _ ⟨#[97]⟩ (rd_lit _ _ [97, 0, 98] rfl (by simp) _ _ rfl (by simp)) K4.out rfl).mono ?_; rintro e w2 ⟨rfl, rfl⟩) | (go_at_call 19; refine (same_c _ _ _ _ [2, 1] (ho1.rd.ext ((((Ext.refl _).alloc _).alloc _).alloc _ |>.alloc _)) (rd_lit _ _ [2, 1] rfl (by simp) _ _ rfl (by simp)) true (by decide)).mono ?_; rintro e w2 ⟨rfl, rfl⟩))
  go_ret
  exact ⟨rfl, (((hx1.alloc _).alloc _).alloc _).alloc _⟩

set_option maxRecDepth 100000 in
set_option maxHeartbeats 1000000 in
theorem lenencShort_c (w : World) (v : Value) (l : List UInt8) (hr : Rd w v l) : Calls Try.prog 4 #[v] w (RetTrue w) := by
  have HR := Lib.hid hr
  obtain ⟨A, cap, rfl, hle, hm, hz⟩ := hr
  clear hz
  unfold maxLen at hm
  by_cases hb : 5000 < l.length
  · go_enter Try.func4, Try.ntmps4
    go_wp2_with (go_at_call 28; refine (lives01_c _).mono ?_; rintro e w1 ⟨rfl, hx1⟩)
    go_ret
    exact ⟨rfl, hx1⟩
  · obtain ⟨x, n, r, h⟩ : ∃ x n r, readI l = (x, n, r) := ⟨_, _, _, rfl⟩
    have H := Lib.hid h
    rcases readI_err h with rfl | ⟨rfl, rfl, hr2⟩
    · obtain ⟨hn1, hn2, _⟩ := readI_ok h
      obtain ⟨hs, hx0, hx9⟩ := sizeI_of_readI h
      have hb2 := readI_intB x hx0 hx9 []
      rw [List.append_nil] at hb2
      have hlen := intB_length x
      rw [← hlen] at hs hb2
      have H2 := Lib.hid hb2
      clear h hb2 hlen
      have e1 : (((intB x).length : Nat) : Int) ≤ (n : Int) := by omega
      have e2 : (n : Int) ≤ (l.length : Int) := by omega
      go_enter Try.func4, Try.ntmps4
      go_wp2_with (first | (go_at_call 28; refine (lives01_c _).mono ?_; rintro e w1 ⟨rfl, hx1⟩) | ((with_reducible show Calls _ _ #[.slice A l.length cap] _ _); refine (readInt_at_len _ _ _ _ _ _ (HR.out.ext hx1) H.out).mono ?_; rintro e w2 ⟨rfl, rfl⟩) | (go_at_call 30; refine (appendInt_len _ _ [] x (Rd.nil _) hx0 hx9 (by simp)).mono ?_; rintro e w3 ⟨v3, rfl, ho3, hx3⟩; have hr3 := ho3.rd; rw [List.nil_append] at hr3; have HR3 := Lib.hid hr3; obtain ⟨A3, cap3, rfl, hle3, hm3, hz3⟩ := hr3; clear hz3 ho3; unfold maxLen at hm3) | ((with_reducible show Calls _ _ #[.slice A3 _ cap3] _ _); refine (readInt_at_len _ _ _ _ _ _ HR3.out H2.out).mono ?_; rintro e w2 ⟨rfl, rfl⟩))
      go_ret
      exact ⟨rfl, hx1.trans hx3⟩
    · clear h
      rcases hr2 with rfl | rfl
      all_goals
        go_enter Try.func4, Try.ntmps4
        go_wp2_with (first | (go_at_call 28; refine (lives01_c _).mono ?_; rintro e w1 ⟨rfl, hx1⟩) | (go_at_call 29; refine (readInt_at_len _ _ _ _ _ _ (HR.out.ext hx1) H.out).mono ?_; rintro e w2 ⟨rfl, rfl⟩))
        go_ret
        exact ⟨rfl, hx1⟩
end Go.Proofs.Ytnlfcknpmemhfaa
