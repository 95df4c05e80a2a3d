/- The contracts of the functions that write counted numbers. -/
import Derived.Test.YtdjnjhlgpflcjaaLenD
namespace Go.Proofs.Ytdjnjhlgpflcjaa
open Go.RowKit

theorem fixOk_1 (x : Int) (h0 : 0 ≤ x) (h : x < 256) : fixOk x 1 = true := by
  simp [fixOk]; omega
theorem fixOk_2 (x : Int) (h0 : 0 ≤ x) (h : x < 65536) : fixOk x 2 = true := by
  simp [fixOk]; omega
theorem fixOk_3 (x : Int) (h0 : 0 ≤ x) (h : x < 16777216) : fixOk x 3 = true := by
  simp [fixOk]; omega
theorem fixOk_8 (x : Int) (_h0 : 0 ≤ x) (_h : x < 18446744073709551616) : fixOk x 8 = true := by
  simp [fixOk]
theorem fixB_one (x : Int) (h0 : 0 ≤ x) (h : x < 256) : fixB x 1 = [UInt8.ofNat x.toNat] := by
  have : x % 256 = x := Int.emod_eq_of_lt h0 h
  simp [fixB, this]

set_option maxHeartbeats 1000000 in
theorem appendInt_len (w : World) (v : Value) (l : List UInt8) (x : Int) (hr : Rd w v l) (hx0 : 0 ≤ x) (hx9 : x < 18446744073709551616) (hl : l.length ≤ 8000000) :
    Calls Try.prog 35 #[v, .int .u64 x] w (RetB w (l ++ intB x)) := by
  have HR := Lib.hid hr
  clear hr
  rcases size_cases x with ⟨h, hs⟩ | ⟨h, h2, hs⟩ | ⟨h, h2, hs⟩ | ⟨h, hs⟩
  · have HE := Lib.hid (show intB x = fixB x 1 by unfold intB; rw [if_pos h])
    have HK := Lib.hid (show fixOk x 1 = true from fixOk_1 x hx0 (by omega))
    have HS := Lib.hid hs
    clear hs
    go_enter Try.func35, Try.ntmps35
    go_wp2_with (first | (go_at_call 46; refine (form_c _ _ 0 1 (by first | exact .inl ⟨by assumption, rfl, rfl⟩ | exact .inr (.inl ⟨by assumption, by assumption, rfl, rfl⟩) | exact .inr (.inr (.inl ⟨by assumption, by assumption, rfl, rfl⟩)) | exact .inr (.inr (.inr ⟨by assumption, rfl, rfl⟩)))).mono ?_; rintro e w0 ⟨rfl, rfl⟩) | (go_at_call 47; refine (clone_c _ _ _ HR.out (by omega)).mono ?_; rintro e w1 ⟨v1, rfl, ho1, hx1⟩) | (go_at_call 48; refine (appendFixed_good_len _ _ _ _ _ ho1.rd (by first | omega | (simp; omega)) HK.out).mono ?_; rintro e w3 ⟨v3, rfl, ho3, hx3⟩))
    go_ret
    refine ⟨_, rfl, ?_, hx1.trans hx3⟩
    rw [HE.out]
    exact ho3.more (Ext.size hx1)
  · have HE := Lib.hid (show intB x = 252 :: fixB x 2 by unfold intB; rw [if_neg (by omega), if_pos h2])
    have HK := Lib.hid (show fixOk x 2 = true from fixOk_2 x hx0 (by omega))
    have HS := Lib.hid hs
    clear hs
    go_enter Try.func35, Try.ntmps35
    go_wp2_with (first | (go_at_call 46; refine (form_c _ _ 252 2 (by first | exact .inl ⟨by assumption, rfl, rfl⟩ | exact .inr (.inl ⟨by assumption, by assumption, rfl, rfl⟩) | exact .inr (.inr (.inl ⟨by assumption, by assumption, rfl, rfl⟩)) | exact .inr (.inr (.inr ⟨by assumption, rfl, rfl⟩)))).mono ?_; rintro e w0 ⟨rfl, rfl⟩) | (go_at_call 47; refine (clone_c _ _ _ HR.out (by omega)).mono ?_; rintro e w1 ⟨v1, rfl, ho1, hx1⟩) | (at_builtin; refine wpl_append_one bt 252 ho1 (by omega) (by omega) rfl _ _ rfl rfl rfl (by omega) (Ext.size hx1) ?_; intro v2 w2 ho2 hb2) | (go_at_call 48; refine (appendFixed_good_len _ _ _ _ _ ho2.rd (by first | omega | (simp; omega)) HK.out).mono ?_; rintro e w3 ⟨v3, rfl, ho3, hx3⟩))
    go_ret
    refine ⟨_, rfl, ?_, (hx1.below hb2 (Nat.le_refl _)).trans hx3⟩
    rw [HE.out]
    have e : l ++ (252 :: fixB x 2) = l ++ [UInt8.ofNat (252 : Int).toNat] ++ fixB x (2 : Int).toNat := by rw [List.append_assoc]; rfl
    rw [e]
    exact ho3.more (Ext.size (hx1.below hb2 (Nat.le_refl _)))
  · have HE := Lib.hid (show intB x = 253 :: fixB x 3 by unfold intB; rw [if_neg (by omega), if_neg (by omega), if_pos h2])
    have HK := Lib.hid (show fixOk x 3 = true from fixOk_3 x hx0 (by omega))
    have HS := Lib.hid hs
    clear hs
    go_enter Try.func35, Try.ntmps35
    go_wp2_with (first | (go_at_call 46; refine (form_c _ _ 253 3 (by first | exact .inl ⟨by assumption, rfl, rfl⟩ | exact .inr (.inl ⟨by assumption, by assumption, rfl, rfl⟩) | exact .inr (.inr (.inl ⟨by assumption, by assumption, rfl, rfl⟩)) | exact .inr (.inr (.inr ⟨by assumption, rfl, rfl⟩)))).mono ?_; rintro e w0 ⟨rfl, rfl⟩) | (go_at_call 47; refine (clone_c _ _ _ HR.out (by omega)).mono ?_; rintro e w1 ⟨v1, rfl, ho1, hx1⟩) | (at_builtin; refine wpl_append_one bt 253 ho1 (by omega) (by omega) rfl _ _ rfl rfl rfl (by omega) (Ext.size hx1) ?_; intro v2 w2 ho2 hb2) | (go_at_call 48; refine (appendFixed_good_len _ _ _ _ _ ho2.rd (by first | omega | (simp; omega)) HK.out).mono ?_; rintro e w3 ⟨v3, rfl, ho3, hx3⟩))
    go_ret
    refine ⟨_, rfl, ?_, (hx1.below hb2 (Nat.le_refl _)).trans hx3⟩
    rw [HE.out]
    have e : l ++ (253 :: fixB x 3) = l ++ [UInt8.ofNat (253 : Int).toNat] ++ fixB x (3 : Int).toNat := by rw [List.append_assoc]; rfl
    rw [e]
    exact ho3.more (Ext.size (hx1.below hb2 (Nat.le_refl _)))
  · have HE := Lib.hid (show intB x = 254 :: fixB x 8 by unfold intB; rw [if_neg (by omega), if_neg (by omega), if_neg (by omega)])
    have HK := Lib.hid (show fixOk x 8 = true from fixOk_8 x hx0 (by omega))
    have HS := Lib.hid hs
    clear hs
    go_enter Try.func35, Try.ntmps35
    go_wp2_with (first | (go_at_call 46; refine (form_c _ _ 254 8 (by first | exact .inl ⟨by assumption, rfl, rfl⟩ | exact .inr (.inl ⟨by assumption, by assumption, rfl, rfl⟩) | exact .inr (.inr (.inl ⟨by assumption, by assumption, rfl, rfl⟩)) | exact .inr (.inr (.inr ⟨by assumption, rfl, rfl⟩)))).mono ?_; rintro e w0 ⟨rfl, rfl⟩) | (go_at_call 47; refine (clone_c _ _ _ HR.out (by omega)).mono ?_; rintro e w1 ⟨v1, rfl, ho1, hx1⟩) | (at_builtin; refine wpl_append_one bt 254 ho1 (by omega) (by omega) rfl _ _ rfl rfl rfl (by omega) (Ext.size hx1) ?_; intro v2 w2 ho2 hb2) | (go_at_call 48; refine (appendFixed_good_len _ _ _ _ _ ho2.rd (by first | omega | (simp; omega)) HK.out).mono ?_; rintro e w3 ⟨v3, rfl, ho3, hx3⟩))
    go_ret
    refine ⟨_, rfl, ?_, (hx1.below hb2 (Nat.le_refl _)).trans hx3⟩
    rw [HE.out]
    have e : l ++ (254 :: fixB x 8) = l ++ [UInt8.ofNat (254 : Int).toNat] ++ fixB x (8 : Int).toNat := by rw [List.append_assoc]; rfl
    rw [e]
    exact ho3.more (Ext.size (hx1.below hb2 (Nat.le_refl _)))

set_option maxHeartbeats 1000000 in
theorem appendInt_ref (w : World) (v : Value) (l : List UInt8) (x : Int) (hr : Rd w v l) (hx0 : 0 ≤ x) (hx9 : x < 18446744073709551616) (hl : l.length ≤ 8000000) :
    Calls Try.prog 44 #[v, .int .u64 x] w (RetB w (l ++ intB x)) := by
  have HR := Lib.hid hr
  clear hr
  rcases size_cases x with ⟨h, hs⟩ | ⟨h, h2, hs⟩ | ⟨h, h2, hs⟩ | ⟨h, hs⟩
  · have HE := Lib.hid (show intB x = fixB x 1 by unfold intB; rw [if_pos h])
    have HK := Lib.hid (show fixOk x 1 = true from fixOk_1 x hx0 (by omega))
    have HS := Lib.hid hs
    clear hs
    go_enter Try.func44, Try.ntmps44
    go_wp2_with (first | (go_at_call 57; refine (size_ref _ _).mono ?_; rintro e w0 ⟨rfl, rfl⟩; rw [HS.out]) | (at_builtin; refine wpl_clone bt HR.out rfl _ _ rfl rfl rfl (by omega) ?_; intro v1 w1 ho1 hx1) | (at_builtin; refine wpl_append_one bt x ho1 hx0 (by omega) rfl _ _ rfl rfl rfl (by omega) (Ext.size hx1) ?_; intro v2 w2 ho2 hb2))
    go_ret
    refine ⟨_, rfl, ?_, hx1.below hb2 (Nat.le_refl _)⟩
    rw [HE.out, fixB_one x hx0 (by omega)]
    exact ho2
  · have HE := Lib.hid (show intB x = 252 :: fixB x 2 by unfold intB; rw [if_neg (by omega), if_pos h2])
    have HK := Lib.hid (show fixOk x 2 = true from fixOk_2 x hx0 (by omega))
    have HS := Lib.hid hs
    clear hs
    go_enter Try.func44, Try.ntmps44
    go_wp2_with (first | (go_at_call 57; refine (size_ref _ _).mono ?_; rintro e w0 ⟨rfl, rfl⟩; rw [HS.out]) | (at_builtin; refine wpl_clone bt HR.out rfl _ _ rfl rfl rfl (by omega) ?_; intro v1 w1 ho1 hx1) | (at_builtin; refine wpl_append_one bt 252 ho1 (by omega) (by omega) rfl _ _ rfl rfl rfl (by omega) (Ext.size hx1) ?_; intro v2 w2 ho2 hb2) | (go_at_call 58; refine (appendFixed_good_ref _ _ _ _ _ ho2.rd (by first | omega | (simp; omega)) HK.out).mono ?_; rintro e w3 ⟨v3, rfl, ho3, hx3⟩))
    go_ret
    refine ⟨_, rfl, ?_, (hx1.below hb2 (Nat.le_refl _)).trans hx3⟩
    rw [HE.out]
    have e : l ++ (252 :: fixB x 2) = l ++ [UInt8.ofNat (252 : Int).toNat] ++ fixB x (2 : Int).toNat := by rw [List.append_assoc]; rfl
    rw [e]
    exact ho3.more (Ext.size (hx1.below hb2 (Nat.le_refl _)))
  · have HE := Lib.hid (show intB x = 253 :: fixB x 3 by unfold intB; rw [if_neg (by omega), if_neg (by omega), if_pos h2])
    have HK := Lib.hid (show fixOk x 3 = true from fixOk_3 x hx0 (by omega))
    have HS := Lib.hid hs
    clear hs
    go_enter Try.func44, Try.ntmps44
    go_wp2_with (first | (go_at_call 57; refine (size_ref _ _).mono ?_; rintro e w0 ⟨rfl, rfl⟩; rw [HS.out]) | (at_builtin; refine wpl_clone bt HR.out rfl _ _ rfl rfl rfl (by omega) ?_; intro v1 w1 ho1 hx1) | (at_builtin; refine wpl_append_one bt 253 ho1 (by omega) (by omega) rfl _ _ rfl rfl rfl (by omega) (Ext.size hx1) ?_; intro v2 w2 ho2 hb2) | (go_at_call 58; refine (appendFixed_good_ref _ _ _ _ _ ho2.rd (by first | omega | (simp; omega)) HK.out).mono ?_; rintro e w3 ⟨v3, rfl, ho3, hx3⟩))
    go_ret
    refine ⟨_, rfl, ?_, (hx1.below hb2 (Nat.le_refl _)).trans hx3⟩
    rw [HE.out]
    have e : l ++ (253 :: fixB x 3) = l ++ [UInt8.ofNat (253 : Int).toNat] ++ fixB x (3 : Int).toNat := by rw [List.append_assoc]; rfl
    rw [e]
    exact ho3.more (Ext.size (hx1.below hb2 (Nat.le_refl _)))
  · have HE := Lib.hid (show intB x = 254 :: fixB x 8 by unfold intB; rw [if_neg (by omega), if_neg (by omega), if_neg (by omega)])
    have HK := Lib.hid (show fixOk x 8 = true from fixOk_8 x hx0 (by omega))
    have HS := Lib.hid hs
    clear hs
    go_enter Try.func44, Try.ntmps44
    go_wp2_with (first | (go_at_call 57; refine (size_ref _ _).mono ?_; rintro e w0 ⟨rfl, rfl⟩; rw [HS.out]) | (at_builtin; refine wpl_clone bt HR.out rfl _ _ rfl rfl rfl (by omega) ?_; intro v1 w1 ho1 hx1) | (at_builtin; refine wpl_append_one bt 254 ho1 (by omega) (by omega) rfl _ _ rfl rfl rfl (by omega) (Ext.size hx1) ?_; intro v2 w2 ho2 hb2) | (go_at_call 58; refine (appendFixed_good_ref _ _ _ _ _ ho2.rd (by first | omega | (simp; omega)) HK.out).mono ?_; rintro e w3 ⟨v3, rfl, ho3, hx3⟩))
    go_ret
    refine ⟨_, rfl, ?_, (hx1.below hb2 (Nat.le_refl _)).trans hx3⟩
    rw [HE.out]
    have e : l ++ (254 :: fixB x 8) = l ++ [UInt8.ofNat (254 : Int).toNat] ++ fixB x (8 : Int).toNat := by rw [List.append_assoc]; rfl
    rw [e]
    exact ho3.more (Ext.size (hx1.below hb2 (Nat.le_refl _)))
end Go.Proofs.Ytdjnjhlgpflcjaa
