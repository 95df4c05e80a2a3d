/- The walk of LenencBack. -/
import Derived.Test.YtnlfcknpmemhfaaLawA
import Derived.Test.YtnlfcknpmemhfaaSpecD
namespace Go.Proofs.Ytnlfcknpmemhfaa
open Go.RowKit

set_option maxRecDepth 100000 in
set_option maxHeartbeats 4000000 in
theorem lenencBack_c (w : World) (x : Int) (s : ByteArray) (v : Value) (l : List UInt8) (hx0 : 0 ≤ x) (hx9 : x < 18446744073709551616) (hr : Rd w v l) (hs : s.size ≤ 9223372036854775807) :
    Calls Try.prog 10 #[.int .u64 x, .string s, v] w (RetTrue w) := by
  have HB := Lib.hid hr
  obtain ⟨A, cap, rfl, hle, hm, hz⟩ := hr
  clear hz
  unfold maxLen at hm
  have HX := Lib.hid (And.intro hx0 hx9)
  clear hx0 hx9
  by_cases hb : 5000 < s.size
  · go_enter Try.func10, Try.ntmps10
    go_wp2_with (go_at_call 28; refine (lives01_c _).mono ?_; rintro e w1 ⟨rfl, hx1⟩)
    go_ret
    exact ⟨rfl, hx1⟩
  · by_cases hb2 : 5000 < l.length
    · go_enter Try.func10, Try.ntmps10
      go_wp2_with (go_at_call 28; refine (lives01_c _).mono ?_; rintro e w1 ⟨rfl, hx1⟩)
      go_ret
      exact ⟨rfl, hx1⟩
    · have HS := Lib.hid (intB_length x).symm
      have hn := sizeI_le x
      have hlen : (intB x).length ≤ 9 := by rw [HS.out.symm]; exact hn.2
      clear hn
      have H1 := Lib.hid (show readI (intB x ++ l) = (x, (intB x).length, 0) by rw [← HS.out]; exact readI_intB x HX.out.1 HX.out.2 l)
      have hsz := size_toList s
      have H2 := Lib.hid (show readT (textB s.data.toList ++ l) = (s.data.toList, sizeI (s.size : Int) + s.size, 0) by
        have := readT_textB s.data.toList l (by omega)
        rw [hsz] at this
        exact this)
      have HT := Lib.hid (show (textB s.data.toList).length = sizeI (s.size : Int) + s.size by rw [textB, List.length_append, intB_length, hsz])
      have hsi := sizeI_le (s.size : Int)
      have HZ := Lib.hid hsz
      clear hsz hle hm hs
      by_cases hc : s.data.toList.contains 0 = true
      all_goals
        have HC := Lib.hid hc
        clear hc
      · go_enter Try.func10, Try.ntmps10
        go_wp2_with (first | (go_at_call 28; refine (lives01_c _).mono ?_; rintro e w1 ⟨rfl, hx1⟩) | (go_at_call 30; refine (appendInt_len _ _ [] x (Rd.nil _) HX.out.1 HX.out.2 (by simp)).mono ?_; rintro e w2 ⟨v2, rfl, ho2, hx2⟩; have hr2 := ho2.rd; rw [List.nil_append] at hr2; have HR2 := Lib.hid hr2; obtain ⟨A2, cap2, rfl, hle2, hm2, hz2⟩ := hr2; clear hz2 ho2; unfold maxLen at hm2) | (go_at_call 38; (with_reducible show Calls _ _ #[.int .u64 x] _ _); refine (size_len _ _).mono ?_; rintro e wx ⟨rfl, rfl⟩; rw [HS.out]) | ((with_reducible show wpList _ _ _ (⟨some 40, _, _, _, _, _⟩ :: _) _ _); refine wpl_clone bt HR2.out rfl _ _ rfl rfl rfl (by omega) ?_; intro v3 w3 ho3 hx3) | ((with_reducible show wpList _ _ _ (⟨some 42, _, _, _, _, _⟩ :: _) _ _); refine wpl_append_rd bt ho3 (HB.out.ext (hx1.trans (hx2.trans hx3))) rfl _ _ rfl rfl rfl (by omega) (Ext.size hx3) ?_; intro v4 w4 ho4 hb4; have hx4 := hx3.below hb4 (Nat.le_refl _); have HR4 := Lib.hid ho4.rd; clear ho3 ho4) | (go_at_call 29; refine (readInt_at_len _ _ _ _ _ _ HR4.out H1.out).mono ?_; rintro e wx ⟨rfl, rfl⟩))
        go_loop [11] (fun i => ∃ k : Nat, k ≤ (intB x).length ∧ i = .int .i64 k) (fun i => (intB x).length - (intOf i).toNat)
        case atStart => exact ⟨0, Nat.zero_le _, rfl⟩
        case round =>
          obtain ⟨k, hk, rfl⟩ := hrel
          by_cases hlt : k < (intB x).length
          · have HI := Lib.hid (readI_take x k hlt)
            go_wp2_with (first | ((with_reducible show wpList _ _ _ (⟨some 69, _, _, _, _, _⟩ :: _) _ _); refine wpl_slice_hi bt (HR2.out.ext hx4) (k : Int) (by omega) (by omega) rfl _ _ _ rfl rfl rfl ?_; intro v9 hr9) | (go_at_call 29; refine (readInt_at_len _ _ _ _ _ _ hr9 HI.out).mono ?_; rintro e wx ⟨rfl, rfl⟩))
            go_round
            case rel => exact ⟨k + 1, by omega, by go_num⟩
            case measure => simp [intOf]; omega
          · go_wp2_with (first | (go_at_call 31; refine (appendText_len _ _ [] s (Rd.nil _) (by omega) (by simp)).mono ?_; rintro e w5 ⟨v5, rfl, ho5, hx5⟩; rw [List.nil_append] at ho5) | ((with_reducible show wpList _ _ _ (⟨some 80, _, _, _, _, _⟩ :: _) _ _); refine wpl_append_rd bt ho5 (HB.out.ext ((hx1.trans (hx2.trans hx4)).trans hx5)) rfl _ _ rfl rfl rfl (by rw [HT.out]; omega) (Ext.size hx5) ?_; intro v6 w6 ho6 hb6; have hx6 := hx5.below hb6 (Nat.le_refl _); have HR6 := Lib.hid ho6.rd; clear ho5 ho6) | (go_at_call 32; refine (readText_at_len _ _ _ _ _ _ s HR6.out H2.out (strL_of s)).mono ?_; rintro e wx ⟨rfl, rfl⟩) | (go_at_call 38; (with_reducible show Calls _ _ #[.int .u64 (s.size : Int)] _ _); refine (size_len _ _).mono ?_; rintro e wx ⟨rfl, rfl⟩) | (go_at_call 44; refine (appendEnded_len _ _ [] s (Rd.nil _) (by omega) (by simp)).mono ?_; intro e w7 hz; obtain ⟨v7, rfl, ho7, hx7⟩ := hz.1 HC.out; clear hz))
            go_ret
            exact ⟨rfl, ((hx1.trans (hx2.trans hx4)).trans hx6).trans hx7⟩
      · have HC2 := Lib.hid (show s.data.toList.contains 0 = false by simpa using HC.out)
        clear HC
        have HC := HC2
        clear HC2
        have H3 := Lib.hid (show readZ (s.data.toList ++ [0] ++ l) = (s.data.toList, s.size + 1, 0) by rw [readZ_ended _ _ HC.out, HZ.out])
        go_enter Try.func10, Try.ntmps10
        go_wp2_with (first | (go_at_call 28; refine (lives01_c _).mono ?_; rintro e w1 ⟨rfl, hx1⟩) | (go_at_call 30; refine (appendInt_len _ _ [] x (Rd.nil _) HX.out.1 HX.out.2 (by simp)).mono ?_; rintro e w2 ⟨v2, rfl, ho2, hx2⟩; have hr2 := ho2.rd; rw [List.nil_append] at hr2; have HR2 := Lib.hid hr2; obtain ⟨A2, cap2, rfl, hle2, hm2, hz2⟩ := hr2; clear hz2 ho2; unfold maxLen at hm2) | (go_at_call 38; (with_reducible show Calls _ _ #[.int .u64 x] _ _); refine (size_len _ _).mono ?_; rintro e wx ⟨rfl, rfl⟩; rw [HS.out]) | ((with_reducible show wpList _ _ _ (⟨some 40, _, _, _, _, _⟩ :: _) _ _); refine wpl_clone bt HR2.out rfl _ _ rfl rfl rfl (by omega) ?_; intro v3 w3 ho3 hx3) | ((with_reducible show wpList _ _ _ (⟨some 42, _, _, _, _, _⟩ :: _) _ _); refine wpl_append_rd bt ho3 (HB.out.ext (hx1.trans (hx2.trans hx3))) rfl _ _ rfl rfl rfl (by omega) (Ext.size hx3) ?_; intro v4 w4 ho4 hb4; have hx4 := hx3.below hb4 (Nat.le_refl _); have HR4 := Lib.hid ho4.rd; clear ho3 ho4) | (go_at_call 29; refine (readInt_at_len _ _ _ _ _ _ HR4.out H1.out).mono ?_; rintro e wx ⟨rfl, rfl⟩))
        go_loop [11] (fun i => ∃ k : Nat, k ≤ (intB x).length ∧ i = .int .i64 k) (fun i => (intB x).length - (intOf i).toNat)
        case atStart => exact ⟨0, Nat.zero_le _, rfl⟩
        case round =>
          obtain ⟨k, hk, rfl⟩ := hrel
          by_cases hlt : k < (intB x).length
          · have HI := Lib.hid (readI_take x k hlt)
            go_wp2_with (first | ((with_reducible show wpList _ _ _ (⟨some 69, _, _, _, _, _⟩ :: _) _ _); refine wpl_slice_hi bt (HR2.out.ext hx4) (k : Int) (by omega) (by omega) rfl _ _ _ rfl rfl rfl ?_; intro v9 hr9) | (go_at_call 29; refine (readInt_at_len _ _ _ _ _ _ hr9 HI.out).mono ?_; rintro e wx ⟨rfl, rfl⟩))
            go_round
            case rel => exact ⟨k + 1, by omega, by go_num⟩
            case measure => simp [intOf]; omega
          · go_wp2_with (first | (go_at_call 31; refine (appendText_len _ _ [] s (Rd.nil _) (by omega) (by simp)).mono ?_; rintro e w5 ⟨v5, rfl, ho5, hx5⟩; rw [List.nil_append] at ho5) | ((with_reducible show wpList _ _ _ (⟨some 80, _, _, _, _, _⟩ :: _) _ _); refine wpl_append_rd bt ho5 (HB.out.ext ((hx1.trans (hx2.trans hx4)).trans hx5)) rfl _ _ rfl rfl rfl (by rw [HT.out]; omega) (Ext.size hx5) ?_; intro v6 w6 ho6 hb6; have hx6 := hx5.below hb6 (Nat.le_refl _); have HR6 := Lib.hid ho6.rd; clear ho5 ho6) | (go_at_call 32; refine (readText_at_len _ _ _ _ _ _ s HR6.out H2.out (strL_of s)).mono ?_; rintro e wx ⟨rfl, rfl⟩) | (go_at_call 38; (with_reducible show Calls _ _ #[.int .u64 (s.size : Int)] _ _); refine (size_len _ _).mono ?_; rintro e wx ⟨rfl, rfl⟩) | (go_at_call 44; refine (appendEnded_len _ _ [] s (Rd.nil _) (by omega) (by simp)).mono ?_; intro e w7 hz; obtain ⟨v7, rfl, ho7, hx7⟩ := hz.2 HC.out; clear hz; rw [List.nil_append] at ho7) | ((with_reducible show wpList _ _ _ (⟨some 113, _, _, _, _, _⟩ :: _) _ _); refine wpl_append_rd bt ho7 (HB.out.ext (((hx1.trans (hx2.trans hx4)).trans hx6).trans hx7)) rfl _ _ rfl rfl rfl (by rw [List.length_append, HZ.out]; simp; omega) (Ext.size hx7) ?_; intro v8 w8 ho8 hb8; have hx8 := hx7.below hb8 (Nat.le_refl _); have HR8 := Lib.hid ho8.rd; clear ho7 ho8) | (go_at_call 43; refine (readEnded_at_len _ _ _ _ _ _ s HR8.out H3.out (strL_of s)).mono ?_; rintro e wx ⟨rfl, rfl⟩))
            go_ret
            exact ⟨rfl, ((hx1.trans (hx2.trans hx4)).trans hx6).trans hx8⟩
end Go.Proofs.Ytnlfcknpmemhfaa
