/- The walk of LenencRow. -/
import Derived.Test.YtnlfcknpmemhfaaLawA
import Derived.Test.YtnlfcknpmemhfaaSpecD
import Derived.Test.YtnlfcknpmemhfaaCells
namespace Go.Proofs.Ytnlfcknpmemhfaa
open Go.RowKit

/-- What stands at the place i of a row of numbers and texts. -/
def partN (xs : List Int) (i : Nat) : List UInt8 := if i < xs.length then intB (xs.getD i 0) else []
def partT (ss : List ByteArray) (i : Nat) : List UInt8 := if i < ss.length ∧ (ss.getD i ByteArray.empty).size ≤ 5000 then textB (ss.getD i ByteArray.empty).data.toList else []
def rowB (xs : List Int) (ss : List ByteArray) (k : Nat) : List UInt8 := (List.range k).flatMap fun i => partN xs i ++ partT ss i
/-- What is left of m places behind the k-th. -/
def rowR (xs : List Int) (ss : List ByteArray) (k : Nat) : Nat → List UInt8
  | 0 => []
  | m + 1 => partN xs k ++ partT ss k ++ rowR xs ss (k + 1) m

theorem rowB_succ (xs : List Int) (ss : List ByteArray) (k : Nat) : rowB xs ss (k + 1) = rowB xs ss k ++ partN xs k ++ partT ss k := by
  simp [rowB, List.range_succ, List.append_assoc]
theorem rowB_rowR (xs : List Int) (ss : List ByteArray) : ∀ (m k : Nat), rowB xs ss k ++ rowR xs ss k m = rowB xs ss (k + m)
  | 0, k => by simp [rowR]
  | m + 1, k => by
    rw [rowR, ← List.append_assoc, ← List.append_assoc, ← rowB_succ, rowB_rowR xs ss m (k + 1), show k + 1 + m = k + (m + 1) by omega]
theorem rowB_all (xs : List Int) (ss : List ByteArray) (m : Nat) : rowB xs ss m = rowR xs ss 0 m := by
  have := rowB_rowR xs ss m 0
  simp only [Nat.zero_add] at this
  rw [← this]
  simp [rowB]
theorem partN_len (xs : List Int) (i : Nat) : (partN xs i).length ≤ 9 := by
  unfold partN
  split
  · rw [intB_length]; exact (sizeI_le _).2
  · simp
theorem partT_len (ss : List ByteArray) (i : Nat) : (partT ss i).length ≤ 5009 := by
  unfold partT
  split
  · rename_i h
    have h1 := sizeI_le ((ss.getD i ByteArray.empty).data.toList.length : Int)
    rw [textB, List.length_append, intB_length, size_toList] at *
    omega
  · simp
theorem rowB_len (xs : List Int) (ss : List ByteArray) (k : Nat) : (rowB xs ss k).length ≤ 5018 * k := by
  induction k with
  | zero => simp [rowB]
  | succ k ih =>
    rw [rowB_succ, List.length_append, List.length_append]
    have h1 := partN_len xs k
    have h2 := partT_len ss k
    omega

set_option maxRecDepth 100000 in
set_option maxHeartbeats 8000000 in
theorem lenencRow_c (w : World) (v0 v1 : Value) (xs : List Int) (ss : List ByteArray) (h0 : Cells w v0 xs.length fun i => .int .u64 (xs.getD i 0)) (h1 : Cells w v1 ss.length fun i => .string (ss.getD i ByteArray.empty))
    (hb : ∀ i, i < xs.length → 0 ≤ xs.getD i 0 ∧ xs.getD i 0 < 18446744073709551616) (hs : ∀ i, i < ss.length → (ss.getD i ByteArray.empty).size ≤ 9223372036854775807) :
    Calls Try.prog 5 #[v0, v1] w (RetTrue w) := by
  obtain ⟨A0, c0, rfl, hl0, hm0, hcx0⟩ := h0
  obtain ⟨A1, c1, rfl, hl1, hm1, hcs0⟩ := h1
  have HCX := Lib.hid hcx0
  have HCS := Lib.hid hcs0
  have HB := Lib.hid hb
  have HSS := Lib.hid hs
  clear hcx0 hcs0 hb hs
  unfold maxLen at hm0 hm1
  by_cases hx1 : 100 < xs.length
  · go_enter Try.func5, Try.ntmps5
    go_wp2_with (go_at_call 28; refine (lives01_c _).mono ?_; rintro e w1 ⟨rfl, hx1⟩)
    go_ret
    exact ⟨rfl, hx1⟩
  by_cases hs1 : 100 < ss.length
  · go_enter Try.func5, Try.ntmps5
    go_wp2_with (go_at_call 28; refine (lives01_c _).mono ?_; rintro e w1 ⟨rfl, hx1⟩)
    go_ret
    exact ⟨rfl, hx1⟩
  obtain ⟨M, hM⟩ : ∃ M, M = max xs.length ss.length := ⟨_, rfl⟩
  have hM1 : xs.length ≤ M := by omega
  have hM2 : ss.length ≤ M := by omega
  have HM := Lib.hid hM
  have hM3 : M ≤ 100 := by omega
  clear hM
  go_enter Try.func5, Try.ntmps5
  go_wp2_with (go_at_call 28; refine (lives01_c _).mono ?_; rintro e w1 ⟨rfl, hx1⟩)
  go_loopw [5, 6] (fun v i wr => ∃ k : Nat, k ≤ M ∧ i = .int .i64 k ∧ Own wr w.heap.size v (rowB xs ss k) ∧ Ext w wr) (fun _ i _ => M - (intOf i).toNat)
  case atStart => exact ⟨0, Nat.zero_le _, rfl, Own.nil _ _, hx1⟩
  case round =>
    obtain ⟨k, hk, rfl, ho, hx⟩ := hrel
    have HO := Lib.hid ho
    have HL := Lib.hid (rowB_len xs ss k)
    have HS := Lib.hid hx.size
    clear ho
    by_cases h1 : k < xs.length
    · by_cases h2 : k < ss.length
      · obtain ⟨b1, o1, rfl, hcs⟩ := HCS.out (by omega)
        have hcell2 := (hx.cell (hcs k h2))
        clear hcs
        obtain ⟨s, hsv⟩ : ∃ s, s = ss.getD k ByteArray.empty := ⟨_, rfl⟩
        have hsz := HSS.out k h2
        rw [← hsv] at hcell2 hsz
        by_cases h3 : s.size ≤ 5000
        · skip
          obtain ⟨b0, o0, rfl, hcx⟩ := HCX.out (by omega)
          have hcell := (hx.cell (hcx k h1))
          clear hcx
          obtain ⟨x, hxv⟩ : ∃ x, x = xs.getD k 0 := ⟨_, rfl⟩
          rw [← hxv] at hcell
          have HX := Lib.hid (HB.out k h1)
          rw [← hxv] at HX
          have HN := Lib.hid (show partN xs k = intB x by unfold partN; rw [if_pos h1, ← hxv])
          have HI := Lib.hid (show (intB x).length ≤ 9 by rw [intB_length]; exact (sizeI_le x).2)
          clear hxv
          have HT := Lib.hid (show partT ss k = textB s.data.toList by unfold partT; rw [← hsv, if_pos ⟨h2, h3⟩])
          clear hsv
          have HXW := Lib.hid hx
          clear hx
          go_wp2_with (first | (go_at_call 30; refine (appendInt_len _ _ _ _ HO.out.rd HX.out.1 HX.out.2 (by have := HL.out; omega)).mono ?_; rintro e w2 ⟨v2, rfl, ho2, hx2⟩; have HO2 := Lib.hid ho2; clear ho2; have hcell3 := hx2.cell hcell2; clear hcell2) | (go_at_call 31; refine (appendText_len _ _ _ s HO2.out.rd (by omega) (by rw [List.length_append]; have := HL.out; have := HI.out; omega)).mono ?_; rintro e w3 ⟨v3, rfl, ho3, hx3⟩; have HO3 := Lib.hid ho3; clear ho3))
          go_roundw
          case rel =>
            refine ⟨k + 1, by omega, by go_num, ?_, HXW.out.trans (hx2.trans hx3)⟩
            rw [rowB_succ, HN.out, HT.out]
            exact HO3.out.more (Nat.le_trans HS.out hx2.size)
          case measure => simp [intOf]; omega
        · skip
          obtain ⟨b0, o0, rfl, hcx⟩ := HCX.out (by omega)
          have hcell := (hx.cell (hcx k h1))
          clear hcx
          obtain ⟨x, hxv⟩ : ∃ x, x = xs.getD k 0 := ⟨_, rfl⟩
          rw [← hxv] at hcell
          have HX := Lib.hid (HB.out k h1)
          rw [← hxv] at HX
          have HN := Lib.hid (show partN xs k = intB x by unfold partN; rw [if_pos h1, ← hxv])
          have HI := Lib.hid (show (intB x).length ≤ 9 by rw [intB_length]; exact (sizeI_le x).2)
          clear hxv
          have HT := Lib.hid (show partT ss k = [] by unfold partT; rw [← hsv]; exact if_neg (by omega))
          clear hsv
          have HXW := Lib.hid hx
          clear hx
          go_wp2_with (first | (go_at_call 30; refine (appendInt_len _ _ _ _ HO.out.rd HX.out.1 HX.out.2 (by have := HL.out; omega)).mono ?_; rintro e w2 ⟨v2, rfl, ho2, hx2⟩; have HO2 := Lib.hid ho2; clear ho2; have hcell3 := hx2.cell hcell2; clear hcell2))
          go_roundw
          case rel =>
            refine ⟨k + 1, by omega, by go_num, ?_, HXW.out.trans hx2⟩
            rw [rowB_succ, HN.out, HT.out, List.append_nil]
            exact HO2.out.more HS.out
          case measure => simp [intOf]; omega
      · skip
        obtain ⟨b0, o0, rfl, hcx⟩ := HCX.out (by omega)
        have hcell := (hx.cell (hcx k h1))
        clear hcx
        obtain ⟨x, hxv⟩ : ∃ x, x = xs.getD k 0 := ⟨_, rfl⟩
        rw [← hxv] at hcell
        have HX := Lib.hid (HB.out k h1)
        rw [← hxv] at HX
        have HN := Lib.hid (show partN xs k = intB x by unfold partN; rw [if_pos h1, ← hxv])
        have HI := Lib.hid (show (intB x).length ≤ 9 by rw [intB_length]; exact (sizeI_le x).2)
        clear hxv
        have HT := Lib.hid (show partT ss k = [] from if_neg (by omega))
        have HXW := Lib.hid hx
        clear hx
        go_wp2_with (first | (go_at_call 30; refine (appendInt_len _ _ _ _ HO.out.rd HX.out.1 HX.out.2 (by have := HL.out; omega)).mono ?_; rintro e w2 ⟨v2, rfl, ho2, hx2⟩; have HO2 := Lib.hid ho2; clear ho2))
        go_roundw
        case rel =>
          refine ⟨k + 1, by omega, by go_num, ?_, HXW.out.trans hx2⟩
          rw [rowB_succ, HN.out, HT.out, List.append_nil]
          exact HO2.out.more HS.out
        case measure => simp [intOf]; omega
    · by_cases h2 : k < ss.length
      · obtain ⟨b1, o1, rfl, hcs⟩ := HCS.out (by omega)
        have hcell2 := (hx.cell (hcs k h2))
        clear hcs
        obtain ⟨s, hsv⟩ : ∃ s, s = ss.getD k ByteArray.empty := ⟨_, rfl⟩
        have hsz := HSS.out k h2
        rw [← hsv] at hcell2 hsz
        by_cases h3 : s.size ≤ 5000
        · skip
          have HN := Lib.hid (show partN xs k = [] from if_neg h1)
          have HT := Lib.hid (show partT ss k = textB s.data.toList by unfold partT; rw [← hsv, if_pos ⟨h2, h3⟩])
          clear hsv
          have HXW := Lib.hid hx
          clear hx
          go_wp2_with (first | (go_at_call 31; refine (appendText_len _ _ _ s HO.out.rd (by omega) (by have := HL.out; omega)).mono ?_; rintro e w3 ⟨v3, rfl, ho3, hx3⟩; have HO3 := Lib.hid ho3; clear ho3))
          go_roundw
          case rel =>
            refine ⟨k + 1, by omega, by go_num, ?_, HXW.out.trans hx3⟩
            rw [rowB_succ, HN.out, HT.out, List.append_nil]
            exact HO3.out.more HS.out
          case measure => simp [intOf]; omega
        · skip
          have HN := Lib.hid (show partN xs k = [] from if_neg h1)
          have HT := Lib.hid (show partT ss k = [] by unfold partT; rw [← hsv]; exact if_neg (by omega))
          clear hsv
          have HXW := Lib.hid hx
          clear hx
          go_wp2_with fail
          go_roundw
          case rel =>
            refine ⟨k + 1, by omega, by go_num, ?_, HXW.out⟩
            rw [rowB_succ, HN.out, HT.out, List.append_nil, List.append_nil]
            exact HO.out
          case measure => simp [intOf]; omega
      · have hkM : k = M := by have := HM.out; omega
        have HKM := Lib.hid hkM
        clear hkM
        have HRR := Lib.hid (show Rd wr _ (rowR xs ss 0 M) by have := HO.out.rd; rw [HKM.out, rowB_all] at this; exact this)
        clear HO HL
        have HXW := Lib.hid hx
        clear hx
        go_wp2_with fail
        go_loop [5, 7] (fun v i => ∃ k : Nat, k ≤ M ∧ i = .int .i64 k ∧ Rd wr v (rowR xs ss k (M - k))) (fun _ i => M - (intOf i).toNat)
        case atStart => exact ⟨0, Nat.zero_le _, rfl, HRR.out⟩
        case round =>
          obtain ⟨j, hj, rfl, hr⟩ := hrel
          clear HRR
          by_cases h1 : j < xs.length
          · by_cases h2 : j < ss.length
            · obtain ⟨b1, o1, rfl, hcs⟩ := HCS.out (by omega)
              have hcell2 := (HXW.out.cell (hcs j h2))
              clear hcs
              obtain ⟨s, hsv⟩ : ∃ s, s = ss.getD j ByteArray.empty := ⟨_, rfl⟩
              have hsz := HSS.out j h2
              rw [← hsv] at hcell2 hsz
              by_cases h3 : s.size ≤ 5000
              · skip
                have HJ := Lib.hid (show M - j = (M - (j + 1)) + 1 by omega)
                obtain ⟨b0, o0, rfl, hcx⟩ := HCX.out (by omega)
                have hcell := (HXW.out.cell (hcx j h1))
                clear hcx
                obtain ⟨x, hxv⟩ : ∃ x, x = xs.getD j 0 := ⟨_, rfl⟩
                rw [← hxv] at hcell
                have hxb := HB.out j h1
                rw [← hxv] at hxb
                have HN := Lib.hid (show partN xs j = intB x by unfold partN; rw [if_pos h1, ← hxv])
                clear hxv
                have HT := Lib.hid (show partT ss j = textB s.data.toList by unfold partT; rw [← hsv, if_pos ⟨h2, h3⟩])
                clear hsv
                obtain ⟨F, hF⟩ : ∃ F, F = rowR xs ss j (M - j) := ⟨_, rfl⟩
                rw [← hF] at hr
                have HF := Lib.hid (show F = (intB x ++ (textB s.data.toList ++ (rowR xs ss (j + 1) (M - (j + 1))))) by rw [hF, HJ.out, rowR, HN.out, HT.out]; simp [List.append_assoc])
                clear hF
                have HR5 := Lib.hid hr
                obtain ⟨A5, c5, rfl, hl5, hm5, hz5⟩ := hr
                clear hz5
                unfold maxLen at hm5
                have HI := Lib.hid (show readI F = (x, sizeI x, 0) by rw [HF.out]; exact readI_intB x hxb.1 hxb.2 (textB s.data.toList ++ (rowR xs ss (j + 1) (M - (j + 1)))))
                have hz1 := sizeI_le x
                have hle := (show sizeI x ≤ F.length by rw [HF.out, List.length_append, intB_length]; omega)
                clear hxb
                obtain ⟨F2, hF2⟩ : ∃ F2, F2 = (textB s.data.toList ++ (rowR xs ss (j + 1) (M - (j + 1)))) := ⟨_, rfl⟩
                have HD := Lib.hid (show F.drop (sizeI x) = F2 by rw [HF.out, ← intB_length x, List.drop_left, hF2])
                have HF2 := Lib.hid hF2
                clear hF2
                have HT2 := Lib.hid (show readT F2 = (s.data.toList, sizeI (s.size : Int) + s.size, 0) by have := readT_textB s.data.toList (rowR xs ss (j + 1) (M - (j + 1))) (by rw [size_toList]; omega); rw [size_toList] at this; rw [HF2.out]; exact this)
                have hz2 := sizeI_le (s.size : Int)
                have hlen2 := (show (textB s.data.toList).length = sizeI (s.size : Int) + s.size by rw [textB, List.length_append, intB_length, size_toList])
                have hle2 := (show sizeI (s.size : Int) + s.size ≤ F2.length by rw [HF2.out, List.length_append, hlen2]; omega)
                have HD2 := Lib.hid (show F2.drop (sizeI (s.size : Int) + s.size) = (rowR xs ss (j + 1) (M - (j + 1))) by rw [HF2.out, ← hlen2, List.drop_left])
                clear hlen2
                go_wp2_with (first | (go_at_call 29; refine (readInt_at_len _ _ _ _ _ _ HR5.out HI.out).mono ?_; rintro e w2 ⟨rfl, rfl⟩) | ((with_reducible show wpList _ _ _ (⟨some 108, _, _, _, _, _⟩ :: _) _ _); refine wpl_slice_lo bt HR5.out (sizeI x : Int) (by omega) (by omega) rfl _ _ _ rfl rfl rfl ?_; intro v6 hr6; rw [Int.toNat_natCast, HD.out] at hr6; have HR6 := Lib.hid hr6; obtain ⟨A6, c6, rfl, hl6, hm6, hz6⟩ := hr6; clear hz6; unfold maxLen at hm6) | (go_at_call 32; refine (readText_at_len _ _ _ _ _ _ s HR6.out HT2.out (strL_of s)).mono ?_; rintro e w2 ⟨rfl, rfl⟩) | ((with_reducible show wpList _ _ _ (⟨some 149, _, _, _, _, _⟩ :: _) _ _); refine wpl_slice_lo bt HR6.out ((sizeI (s.size : Int) + s.size : Nat) : Int) (by omega) (by omega) rfl _ _ _ rfl rfl rfl ?_; intro v7 hr7; rw [Int.toNat_natCast, HD2.out] at hr7; have HR7 := Lib.hid hr7; clear hr7))
                go_round
                case rel => exact ⟨j + 1, by omega, by go_num, HR7.out⟩
                case measure => simp [intOf]; omega
              · skip
                have HJ := Lib.hid (show M - j = (M - (j + 1)) + 1 by omega)
                obtain ⟨b0, o0, rfl, hcx⟩ := HCX.out (by omega)
                have hcell := (HXW.out.cell (hcx j h1))
                clear hcx
                obtain ⟨x, hxv⟩ : ∃ x, x = xs.getD j 0 := ⟨_, rfl⟩
                rw [← hxv] at hcell
                have hxb := HB.out j h1
                rw [← hxv] at hxb
                have HN := Lib.hid (show partN xs j = intB x by unfold partN; rw [if_pos h1, ← hxv])
                clear hxv
                have HT := Lib.hid (show partT ss j = [] by unfold partT; rw [← hsv]; exact if_neg (by omega))
                clear hsv
                obtain ⟨F, hF⟩ : ∃ F, F = rowR xs ss j (M - j) := ⟨_, rfl⟩
                rw [← hF] at hr
                have HF := Lib.hid (show F = (intB x ++ (rowR xs ss (j + 1) (M - (j + 1)))) by rw [hF, HJ.out, rowR, HN.out, HT.out]; simp)
                clear hF
                have HR5 := Lib.hid hr
                obtain ⟨A5, c5, rfl, hl5, hm5, hz5⟩ := hr
                clear hz5
                unfold maxLen at hm5
                have HI := Lib.hid (show readI F = (x, sizeI x, 0) by rw [HF.out]; exact readI_intB x hxb.1 hxb.2 (rowR xs ss (j + 1) (M - (j + 1))))
                have hz1 := sizeI_le x
                have hle := (show sizeI x ≤ F.length by rw [HF.out, List.length_append, intB_length]; omega)
                clear hxb
                obtain ⟨F2, hF2⟩ : ∃ F2, F2 = (rowR xs ss (j + 1) (M - (j + 1))) := ⟨_, rfl⟩
                have HD := Lib.hid (show F.drop (sizeI x) = F2 by rw [HF.out, ← intB_length x, List.drop_left, hF2])
                have HF2 := Lib.hid hF2
                clear hF2
                go_wp2_with (first | (go_at_call 29; refine (readInt_at_len _ _ _ _ _ _ HR5.out HI.out).mono ?_; rintro e w2 ⟨rfl, rfl⟩) | ((with_reducible show wpList _ _ _ (⟨some 108, _, _, _, _, _⟩ :: _) _ _); refine wpl_slice_lo bt HR5.out (sizeI x : Int) (by omega) (by omega) rfl _ _ _ rfl rfl rfl ?_; intro v6 hr6; rw [Int.toNat_natCast, HD.out] at hr6; have HR6 := Lib.hid hr6; clear hr6))
                go_round
                case rel => exact ⟨j + 1, by omega, by go_num, (by have := HR6.out; rw [HF2.out] at this; exact this)⟩
                case measure => simp [intOf]; omega
            · skip
              have HJ := Lib.hid (show M - j = (M - (j + 1)) + 1 by omega)
              obtain ⟨b0, o0, rfl, hcx⟩ := HCX.out (by omega)
              have hcell := (HXW.out.cell (hcx j h1))
              clear hcx
              obtain ⟨x, hxv⟩ : ∃ x, x = xs.getD j 0 := ⟨_, rfl⟩
              rw [← hxv] at hcell
              have hxb := HB.out j h1
              rw [← hxv] at hxb
              have HN := Lib.hid (show partN xs j = intB x by unfold partN; rw [if_pos h1, ← hxv])
              clear hxv
              have HT := Lib.hid (show partT ss j = [] from if_neg (by omega))
              obtain ⟨F, hF⟩ : ∃ F, F = rowR xs ss j (M - j) := ⟨_, rfl⟩
              rw [← hF] at hr
              have HF := Lib.hid (show F = (intB x ++ (rowR xs ss (j + 1) (M - (j + 1)))) by rw [hF, HJ.out, rowR, HN.out, HT.out]; simp)
              clear hF
              have HR5 := Lib.hid hr
              obtain ⟨A5, c5, rfl, hl5, hm5, hz5⟩ := hr
              clear hz5
              unfold maxLen at hm5
              have HI := Lib.hid (show readI F = (x, sizeI x, 0) by rw [HF.out]; exact readI_intB x hxb.1 hxb.2 (rowR xs ss (j + 1) (M - (j + 1))))
              have hz1 := sizeI_le x
              have hle := (show sizeI x ≤ F.length by rw [HF.out, List.length_append, intB_length]; omega)
              clear hxb
              obtain ⟨F2, hF2⟩ : ∃ F2, F2 = (rowR xs ss (j + 1) (M - (j + 1))) := ⟨_, rfl⟩
              have HD := Lib.hid (show F.drop (sizeI x) = F2 by rw [HF.out, ← intB_length x, List.drop_left, hF2])
              have HF2 := Lib.hid hF2
              clear hF2
              go_wp2_with (first | (go_at_call 29; refine (readInt_at_len _ _ _ _ _ _ HR5.out HI.out).mono ?_; rintro e w2 ⟨rfl, rfl⟩) | ((with_reducible show wpList _ _ _ (⟨some 108, _, _, _, _, _⟩ :: _) _ _); refine wpl_slice_lo bt HR5.out (sizeI x : Int) (by omega) (by omega) rfl _ _ _ rfl rfl rfl ?_; intro v6 hr6; rw [Int.toNat_natCast, HD.out] at hr6; have HR6 := Lib.hid hr6; clear hr6))
              go_round
              case rel => exact ⟨j + 1, by omega, by go_num, (by have := HR6.out; rw [HF2.out] at this; exact this)⟩
              case measure => simp [intOf]; omega
          · by_cases h2 : j < ss.length
            · obtain ⟨b1, o1, rfl, hcs⟩ := HCS.out (by omega)
              have hcell2 := (HXW.out.cell (hcs j h2))
              clear hcs
              obtain ⟨s, hsv⟩ : ∃ s, s = ss.getD j ByteArray.empty := ⟨_, rfl⟩
              have hsz := HSS.out j h2
              rw [← hsv] at hcell2 hsz
              by_cases h3 : s.size ≤ 5000
              · skip
                have HJ := Lib.hid (show M - j = (M - (j + 1)) + 1 by omega)
                have HN := Lib.hid (show partN xs j = [] from if_neg h1)
                have HT := Lib.hid (show partT ss j = textB s.data.toList by unfold partT; rw [← hsv, if_pos ⟨h2, h3⟩])
                clear hsv
                obtain ⟨F, hF⟩ : ∃ F, F = rowR xs ss j (M - j) := ⟨_, rfl⟩
                rw [← hF] at hr
                have HF := Lib.hid (show F = (textB s.data.toList ++ (rowR xs ss (j + 1) (M - (j + 1)))) by rw [hF, HJ.out, rowR, HN.out, HT.out]; simp)
                clear hF
                have HR5 := Lib.hid hr
                obtain ⟨A5, c5, rfl, hl5, hm5, hz5⟩ := hr
                clear hz5
                unfold maxLen at hm5
                have HT2 := Lib.hid (show readT F = (s.data.toList, sizeI (s.size : Int) + s.size, 0) by have := readT_textB s.data.toList (rowR xs ss (j + 1) (M - (j + 1))) (by rw [size_toList]; omega); rw [size_toList] at this; rw [HF.out]; exact this)
                have hz2 := sizeI_le (s.size : Int)
                have hlen2 := (show (textB s.data.toList).length = sizeI (s.size : Int) + s.size by rw [textB, List.length_append, intB_length, size_toList])
                have hle2 := (show sizeI (s.size : Int) + s.size ≤ F.length by rw [HF.out, List.length_append, hlen2]; omega)
                have HD2 := Lib.hid (show F.drop (sizeI (s.size : Int) + s.size) = (rowR xs ss (j + 1) (M - (j + 1))) by rw [HF.out, ← hlen2, List.drop_left])
                clear hlen2
                go_wp2_with (first | (go_at_call 32; refine (readText_at_len _ _ _ _ _ _ s HR5.out HT2.out (strL_of s)).mono ?_; rintro e w2 ⟨rfl, rfl⟩) | ((with_reducible show wpList _ _ _ (⟨some 149, _, _, _, _, _⟩ :: _) _ _); refine wpl_slice_lo bt HR5.out ((sizeI (s.size : Int) + s.size : Nat) : Int) (by omega) (by omega) rfl _ _ _ rfl rfl rfl ?_; intro v7 hr7; rw [Int.toNat_natCast, HD2.out] at hr7; have HR7 := Lib.hid hr7; clear hr7))
                go_round
                case rel => exact ⟨j + 1, by omega, by go_num, HR7.out⟩
                case measure => simp [intOf]; omega
              · skip
                have HJ := Lib.hid (show M - j = (M - (j + 1)) + 1 by omega)
                have HN := Lib.hid (show partN xs j = [] from if_neg h1)
                have HT := Lib.hid (show partT ss j = [] by unfold partT; rw [← hsv]; exact if_neg (by omega))
                clear hsv
                obtain ⟨F, hF⟩ : ∃ F, F = rowR xs ss j (M - j) := ⟨_, rfl⟩
                rw [← hF] at hr
                have HF := Lib.hid (show F = (rowR xs ss (j + 1) (M - (j + 1))) by rw [hF, HJ.out, rowR, HN.out, HT.out]; simp)
                clear hF
                have HR5 := Lib.hid hr
                clear hr
                go_wp2_with fail
                go_round
                case rel => exact ⟨j + 1, by omega, by go_num, (by have := HR5.out; rw [HF.out] at this; exact this)⟩
                case measure => simp [intOf]; omega
            · have hjM : j = M := by have := HM.out; omega
              have HE := Lib.hid (show rowR xs ss j (M - j) = [] by rw [hjM, Nat.sub_self]; rfl)
              clear hjM
              rw [HE.out] at hr
              obtain ⟨A5, c5, rfl, hl5, hm5, hz5⟩ := hr
              clear hz5
              go_wp2_with fail
              go_ret
              exact ⟨rfl, HXW.out⟩
end Go.Proofs.Ytnlfcknpmemhfaa
