/- The contracts of the functions that write and read ended texts. -/
import Derived.Test.YtnlfcknpmemhfaaLenF
import Derived.Test.YtnlfcknpmemhfaaIdx
namespace Go.Proofs.Ytnlfcknpmemhfaa
open Go.RowKit

/-- What comes of an ended text's writing: refused where a nought stands in it. -/
def RetZ (w : World) (l s : List UInt8) (e : Ending) (w' : World) : Prop :=
  (s.contains 0 = true → RetBE w [] 2 e w') ∧ (s.contains 0 = false → RetBE w (l ++ s ++ [0]) 0 e w')

theorem RetZ.yes {w : World} {l s : List UInt8} {e : Ending} {w' : World} (hc : s.contains 0 = true) (h : RetBE w [] 2 e w') : RetZ w l s e w' :=
  ⟨fun _ => h, fun h' => by rw [hc] at h'; cases h'⟩
theorem RetZ.no {w : World} {l s : List UInt8} {e : Ending} {w' : World} (hc : s.contains 0 = false) (h : RetBE w (l ++ s ++ [0]) 0 e w') : RetZ w l s e w' :=
  ⟨fun h' => (by rw [hc] at h'; cases h'), fun _ => h⟩

theorem str_getD (s : ByteArray) (k : Nat) (h : k < s.size) : s.data.toList.getD k 0 = s[k]'h := by
  have hl : k < s.data.toList.length := by rw [size_toList]; exact h
  rw [List.getD_eq_getElem?_getD, List.getElem?_eq_getElem hl]
  rfl

theorem byte_zero {c : UInt8} (h : ((c.toNat : Int) == 0) = true) : c = 0 := by
  have : (c.toNat : Int) = 0 := by simpa using h
  have h0 : (0 : UInt8).toNat = 0 := rfl
  exact UInt8.toNat.inj (by omega)
theorem byte_nz {c : UInt8} (h : ((c.toNat : Int) == 0) = false) : c ≠ 0 := by
  rintro rfl
  simp at h

set_option maxHeartbeats 400000 in
theorem appendEnded_len (w : World) (v : Value) (l : List UInt8) (s : ByteArray) (hr : Rd w v l) (hs : s.size ≤ 1000000) (hl : l.length ≤ 7000000) :
    Calls Try.prog 44 #[v, .string s] w (RetZ w l s.data.toList) := by
  have HR := Lib.hid hr
  clear hr
  have hz := idx_zero s.data.toList
  by_cases hc : s.data.toList.contains 0 = true
  · rw [if_pos hc] at hz
    have HZ := Lib.hid (show Lib.indexByte s.data.toList (0 : Int).toNat.toUInt8 = _ from hz)
    have HC := Lib.hid hc
    clear hz hc
    go_enter Try.func44, Try.ntmps44
    go_wp2_with (go_at_call 72; refine (idx_s _ _ _).mono ?_; rintro e w1 ⟨rfl, rfl⟩; rw [HZ.out])
    go_ret2
    exact RetZ.yes HC.out ⟨_, rfl, Own.nil _ _, Ext.refl _⟩
  · rw [if_neg hc] at hz
    have HZ := Lib.hid (show Lib.indexByte s.data.toList (0 : Int).toNat.toUInt8 = _ from hz)
    have HC := Lib.hid (show s.data.toList.contains 0 = false by simpa using hc)
    clear hz hc
    have hsz := size_toList s
    go_enter Try.func44, Try.ntmps44
    go_wp2_with (first | (go_at_call 72; refine (idx_s _ _ _).mono ?_; rintro e w1 ⟨rfl, rfl⟩; rw [HZ.out]) | (go_at_call 64; refine (clone_c _ _ _ HR.out (by omega)).mono ?_; rintro e w1 ⟨v1, rfl, ho1, hx1⟩) | (at_builtin; refine wpl_append_st bt s ho1 rfl _ _ rfl rfl rfl (by omega) (Ext.size hx1) ?_; intro v2 w2 ho2 hb2) | (at_builtin; refine wpl_append_one bt 0 ho2 (by omega) (by omega) rfl _ _ rfl rfl rfl (by rw [List.length_append]; omega) (Ext.size (hx1.below hb2 (Nat.le_refl _))) ?_; intro v3 w3 ho3 hb3))
    go_ret2
    exact RetZ.no HC.out ⟨_, rfl, ho3, (hx1.below hb2 (Nat.le_refl _)).below hb3 (Nat.le_refl _)⟩

set_option maxHeartbeats 400000 in
theorem appendEnded_ref (w : World) (v : Value) (l : List UInt8) (s : ByteArray) (hr : Rd w v l) (hs : s.size ≤ 1000000) (hl : l.length ≤ 7000000) :
    Calls Try.prog 45 #[v, .string s] w (RetZ w l s.data.toList) := by
  have HR := Lib.hid hr
  clear hr
  have hsz := Lib.hid (size_toList s)
  go_enter Try.func45, Try.ntmps45
  go_wp2_with fail
  go_loop [6] (fun i => ∃ k : Nat, k ≤ s.size ∧ i = .int .i64 k ∧ ∀ j, j < k → s.data.toList.getD j 0 ≠ 0) (fun i => s.size - (intOf i).toNat)
  case atStart => exact ⟨0, Nat.zero_le _, rfl, fun j hj => by omega⟩
  case round =>
    obtain ⟨k, hk, rfl, hj⟩ := hrel
    have HJ := Lib.hid hj
    clear hj
    by_cases hlt : k < s.size
    · go_wp2_with fail
      · have ht : (((s[k]'hlt).toNat : Int) == 0) = true := by assumption
        go_ret2
        refine RetZ.yes ?_ ⟨_, rfl, Own.nil _ _, Ext.refl _⟩
        exact (upZ_at s.data.toList k (by rw [hsz.out]; exact hlt) (by rw [str_getD s k hlt]; exact byte_zero ht) HJ.out).2
      · have ht : (((s[k]'hlt).toNat : Int) == 0) = false := by assumption
        go_round
        case rel =>
          refine ⟨k + 1, by omega, by go_num, fun j hj => ?_⟩
          rcases Nat.lt_or_ge j k with h | h
          · exact HJ.out j h
          · obtain rfl : j = k := by omega
            rw [str_getD s j hlt]
            exact byte_nz ht
        case measure => simp [intOf]; omega
    · obtain rfl : k = s.size := by omega
      have HC := Lib.hid (upZ_none s.data.toList (by rw [hsz.out]; exact HJ.out))
      go_wp2_with (first | (at_builtin; refine wpl_clone bt HR.out rfl _ _ rfl rfl rfl (by omega) ?_; intro v1 w1 ho1 hx1) | (at_builtin; refine wpl_append_st bt s ho1 rfl _ _ rfl rfl rfl (by omega) (Ext.size hx1) ?_; intro v2 w2 ho2 hb2) | (at_builtin; refine wpl_append_one bt 0 ho2 (by omega) (by omega) rfl _ _ rfl rfl rfl (by rw [List.length_append, hsz.out]; omega) (Ext.size (hx1.below hb2 (Nat.le_refl _))) ?_; intro v3 w3 ho3 hb3))
      go_ret2
      exact RetZ.no HC.out ⟨_, rfl, ho3, (hx1.below hb2 (Nat.le_refl _)).below hb3 (Nat.le_refl _)⟩

set_option maxHeartbeats 400000 in
theorem readEnded_len (w : World) (v : Value) (l : List UInt8) (hr : Rd w v l) :
    Calls Try.prog 43 #[v] w (RetT w (readZ l)) := by
  have HR := Lib.hid hr
  have hle := hr.le
  unfold maxLen at hle
  clear hr
  have hz := idx_zero l
  by_cases hc : l.contains 0 = true
  · have HT := Lib.hid (show readZ l = (upZ l, (upZ l).length + 1, 0) from if_pos hc)
    rw [if_pos hc] at hz
    have hu := upZ_lt l hc
    have HZ := Lib.hid (show Lib.indexByte l (0 : Int).toNat.toUInt8 = _ from hz)
    clear hz hc
    rw [HT.out]
    go_enter Try.func43, Try.ntmps43
    go_wp2_with (first | (go_at_call 71; refine (idx_b _ _ _ _ HR.out).mono ?_; rintro e w1 ⟨rfl, rfl⟩; rw [HZ.out]) | ((with_reducible show wpList _ _ _ (_ :: _) _ _); refine wpl_slice_hi bt HR.out ((upZ l).length : Int) (by omega) (by omega) rfl _ _ _ rfl rfl rfl ?_; intro v2 hr2) | ((with_reducible show wpList _ _ _ (_ :: _) _ _); refine wpl_str bt hr2 rfl _ rfl rfl ?_))
    go_ret3
    refine ⟨?_, rfl⟩
    have e2 : (((upZ l).length + 1 : Nat) : Int) = ((upZ l).length : Int) + 1 := by omega
    simp only [e2, upZ_take]
    rfl
  · have HT := Lib.hid (show readZ l = ([], 0, 4) from if_neg hc)
    rw [if_neg hc] at hz
    have HZ := Lib.hid (show Lib.indexByte l (0 : Int).toNat.toUInt8 = _ from hz)
    clear hz hc
    rw [HT.out]
    go_enter Try.func43, Try.ntmps43
    go_wp2_with (go_at_call 71; refine (idx_b _ _ _ _ HR.out).mono ?_; rintro e w1 ⟨rfl, rfl⟩; rw [HZ.out])
    go_ret3
    exact ⟨rfl, rfl⟩

set_option maxHeartbeats 1000000 in
theorem readEnded_ref (w : World) (v : Value) (l : List UInt8) (hr : Rd w v l) :
    Calls Try.prog 49 #[v] w (RetT w (readZ l)) := by
  have HR := Lib.hid hr
  obtain ⟨A, cap, rfl, hle, hm, hA, hc⟩ := hr
  have HC := Lib.hid hc
  clear hc hA
  unfold maxLen at hm
  go_enter Try.func49, Try.ntmps49
  go_wp2_with fail
  go_loop [5] (fun i => ∃ k : Nat, k ≤ l.length ∧ i = .int .i64 k ∧ ∀ j, j < k → l.getD j 0 ≠ 0) (fun i => l.length - (intOf i).toNat)
  case atStart => exact ⟨0, Nat.zero_le _, rfl, fun j hj => by omega⟩
  case round =>
    obtain ⟨k, hk, rfl, hj⟩ := hrel
    have HJ := Lib.hid hj
    clear hj
    by_cases hlt : k < l.length
    · obtain ⟨b, o, rfl, hc2⟩ := HC.out (by intro h; subst h; simp at hlt)
      have hcell := hc2 k hlt
      clear hc2
      obtain ⟨c, hcv⟩ : ∃ c, c = l.getD k 0 := ⟨_, rfl⟩
      rw [← hcv] at hcell
      have HV := Lib.hid hcv
      clear hcv
      go_wp2_with (first | ((with_reducible show wpList _ _ _ (⟨some 19, _, _, _, _, _⟩ :: _) _ _); refine wpl_slice_hi bt HR.out (k : Int) (by omega) (by omega) rfl _ _ _ rfl rfl rfl ?_; intro v2 hr2) | ((with_reducible show wpList _ _ _ (⟨some 20, _, _, _, _, _⟩ :: _) _ _); refine wpl_str bt hr2 rfl _ rfl rfl ?_))
      · have ht : ((c.toNat : Int) == 0) = true := by assumption
        obtain ⟨hu, hcon⟩ := upZ_at l k hlt (by rw [← HV.out]; exact byte_zero ht) HJ.out
        go_ret3
        refine ⟨?_, rfl⟩
        have e : readZ l = (l.take k, k + 1, 0) := by
          unfold readZ
          rw [if_pos hcon, ← hu, upZ_take]
        rw [e]
        rfl
      · have ht : ((c.toNat : Int) == 0) = false := by assumption
        go_round
        case rel =>
          refine ⟨k + 1, by omega, by go_num, fun j hj => ?_⟩
          rcases Nat.lt_or_ge j k with h | h
          · exact HJ.out j h
          · obtain rfl : j = k := by omega
            rw [← HV.out]
            exact byte_nz ht
        case measure => simp [intOf]; omega
    · obtain rfl : k = l.length := by omega
      have HE := Lib.hid (show readZ l = ([], 0, 4) by unfold readZ; rw [upZ_none l HJ.out]; rfl)
      go_wp2_with fail
      go_ret3
      rw [HE.out]
      exact ⟨rfl, rfl⟩
end Go.Proofs.Ytnlfcknpmemhfaa
