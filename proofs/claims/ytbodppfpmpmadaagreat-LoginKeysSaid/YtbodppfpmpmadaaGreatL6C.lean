import Derived.Test.YtbodppfpmpmadaaGreatL5C
import Derived.Test.YtbodppfpmpmadaaGreatL3C
import Derived.Test.YtbodppfpmpmadaaGreatL1C
import Derived.IntWalk
import Derived.Test.YtbodppfpmpmadaaGreatL2C
namespace Go.Proofs.YtbodppfpmpmadaaGreat
open Go.RowKit

theorem fixOk_1 (x : Int) (h0 : 0 ≤ x) (h : x < 256) : fixOk x 1 = true := by
  simp [fixOk]; omega
theorem fixOk_2 (x : Int) (h0 : 0 ≤ x) (h : x < 65536) : fixOk x 2 = true := by
  simp [fixOk]; omega
theorem fixOk_3 (x : Int) (h0 : 0 ≤ x) (h : x < 16777216) : fixOk x 3 = true := by
  simp [fixOk]; omega
theorem fixOk_8 (x : Int) (_h0 : 0 ≤ x) (_h : x < 18446744073709551616) : fixOk x 8 = true := by
  simp [fixOk]
theorem fixB_one (x : Int) (h0 : 0 ≤ x) (h : x < 256) : fixB x 1 = [UInt8.ofNat x.toNat] := by
  have : x % 256 = x := Int.emod_eq_of_lt h0 h
  simp [fixB, this]

set_option maxHeartbeats 1000000 in
theorem appendInt_len (w : World) (v : Value) (l : List UInt8) (x : Int) (hr : Rd w v l) (hx0 : 0 ≤ x) (hx9 : x < 18446744073709551616) (hl : l.length ≤ 8000000) :
    Calls Tryz.prog 183 #[v, .int .u64 x] w (RetB w (l ++ intB x)) := by
  have HR := Lib.hid hr
  clear hr
  rcases size_cases x with ⟨h, hs⟩ | ⟨h, h2, hs⟩ | ⟨h, h2, hs⟩ | ⟨h, hs⟩
  · have HE := Lib.hid (show intB x = fixB x 1 by unfold intB; rw [if_pos h])
    have HK := Lib.hid (show fixOk x 1 = true from fixOk_1 x hx0 (by omega))
    have HS := Lib.hid hs
    clear hs
    go_enter Tryz.func183, Tryz.ntmps183
    go_wp2_with (first | (go_at_call 203; refine (form_c _ _ 0 1 (by first | exact .inl ⟨by assumption, rfl, rfl⟩ | exact .inr (.inl ⟨by assumption, by assumption, rfl, rfl⟩) | exact .inr (.inr (.inl ⟨by assumption, by assumption, rfl, rfl⟩)) | exact .inr (.inr (.inr ⟨by assumption, rfl, rfl⟩)))).mono ?_; rintro e w0 ⟨rfl, rfl⟩) | (go_at_call 97; refine (clone_c _ _ _ HR.out (by omega)).mono ?_; rintro e w1 ⟨v1, rfl, ho1, hx1⟩) | (go_at_call 153; refine (appendFixed_good_len _ _ _ _ _ ho1.rd (by first | omega | (simp; omega)) HK.out).mono ?_; rintro e w3 ⟨v3, rfl, ho3, hx3⟩))
    go_ret
    refine ⟨_, rfl, ?_, hx1.trans hx3⟩
    rw [HE.out]
    exact ho3.more (Ext.size hx1)
  · have HE := Lib.hid (show intB x = 252 :: fixB x 2 by unfold intB; rw [if_neg (by omega), if_pos h2])
    have HK := Lib.hid (show fixOk x 2 = true from fixOk_2 x hx0 (by omega))
    have HS := Lib.hid hs
    clear hs
    go_enter Tryz.func183, Tryz.ntmps183
    go_wp2_with (first | (go_at_call 203; refine (form_c _ _ 252 2 (by first | exact .inl ⟨by assumption, rfl, rfl⟩ | exact .inr (.inl ⟨by assumption, by assumption, rfl, rfl⟩) | exact .inr (.inr (.inl ⟨by assumption, by assumption, rfl, rfl⟩)) | exact .inr (.inr (.inr ⟨by assumption, rfl, rfl⟩)))).mono ?_; rintro e w0 ⟨rfl, rfl⟩) | (go_at_call 97; refine (clone_c _ _ _ HR.out (by omega)).mono ?_; rintro e w1 ⟨v1, rfl, ho1, hx1⟩) | (at_builtin; refine wpl_append_one bt 252 ho1 (by omega) (by omega) rfl _ _ rfl rfl rfl (by omega) (Ext.size hx1) ?_; intro v2 w2 ho2 hb2) | (go_at_call 153; refine (appendFixed_good_len _ _ _ _ _ ho2.rd (by first | omega | (simp; omega)) HK.out).mono ?_; rintro e w3 ⟨v3, rfl, ho3, hx3⟩))
    go_ret
    refine ⟨_, rfl, ?_, (hx1.below hb2 (Nat.le_refl _)).trans hx3⟩
    rw [HE.out]
    have e : l ++ (252 :: fixB x 2) = l ++ [UInt8.ofNat (252 : Int).toNat] ++ fixB x (2 : Int).toNat := by rw [List.append_assoc]; rfl
    rw [e]
    exact ho3.more (Ext.size (hx1.below hb2 (Nat.le_refl _)))
  · have HE := Lib.hid (show intB x = 253 :: fixB x 3 by unfold intB; rw [if_neg (by omega), if_neg (by omega), if_pos h2])
    have HK := Lib.hid (show fixOk x 3 = true from fixOk_3 x hx0 (by omega))
    have HS := Lib.hid hs
    clear hs
    go_enter Tryz.func183, Tryz.ntmps183
    go_wp2_with (first | (go_at_call 203; refine (form_c _ _ 253 3 (by first | exact .inl ⟨by assumption, rfl, rfl⟩ | exact .inr (.inl ⟨by assumption, by assumption, rfl, rfl⟩) | exact .inr (.inr (.inl ⟨by assumption, by assumption, rfl, rfl⟩)) | exact .inr (.inr (.inr ⟨by assumption, rfl, rfl⟩)))).mono ?_; rintro e w0 ⟨rfl, rfl⟩) | (go_at_call 97; refine (clone_c _ _ _ HR.out (by omega)).mono ?_; rintro e w1 ⟨v1, rfl, ho1, hx1⟩) | (at_builtin; refine wpl_append_one bt 253 ho1 (by omega) (by omega) rfl _ _ rfl rfl rfl (by omega) (Ext.size hx1) ?_; intro v2 w2 ho2 hb2) | (go_at_call 153; refine (appendFixed_good_len _ _ _ _ _ ho2.rd (by first | omega | (simp; omega)) HK.out).mono ?_; rintro e w3 ⟨v3, rfl, ho3, hx3⟩))
    go_ret
    refine ⟨_, rfl, ?_, (hx1.below hb2 (Nat.le_refl _)).trans hx3⟩
    rw [HE.out]
    have e : l ++ (253 :: fixB x 3) = l ++ [UInt8.ofNat (253 : Int).toNat] ++ fixB x (3 : Int).toNat := by rw [List.append_assoc]; rfl
    rw [e]
    exact ho3.more (Ext.size (hx1.below hb2 (Nat.le_refl _)))
  · have HE := Lib.hid (show intB x = 254 :: fixB x 8 by unfold intB; rw [if_neg (by omega), if_neg (by omega), if_neg (by omega)])
    have HK := Lib.hid (show fixOk x 8 = true from fixOk_8 x hx0 (by omega))
    have HS := Lib.hid hs
    clear hs
    go_enter Tryz.func183, Tryz.ntmps183
    go_wp2_with (first | (go_at_call 203; refine (form_c _ _ 254 8 (by first | exact .inl ⟨by assumption, rfl, rfl⟩ | exact .inr (.inl ⟨by assumption, by assumption, rfl, rfl⟩) | exact .inr (.inr (.inl ⟨by assumption, by assumption, rfl, rfl⟩)) | exact .inr (.inr (.inr ⟨by assumption, rfl, rfl⟩)))).mono ?_; rintro e w0 ⟨rfl, rfl⟩) | (go_at_call 97; refine (clone_c _ _ _ HR.out (by omega)).mono ?_; rintro e w1 ⟨v1, rfl, ho1, hx1⟩) | (at_builtin; refine wpl_append_one bt 254 ho1 (by omega) (by omega) rfl _ _ rfl rfl rfl (by omega) (Ext.size hx1) ?_; intro v2 w2 ho2 hb2) | (go_at_call 153; refine (appendFixed_good_len _ _ _ _ _ ho2.rd (by first | omega | (simp; omega)) HK.out).mono ?_; rintro e w3 ⟨v3, rfl, ho3, hx3⟩))
    go_ret
    refine ⟨_, rfl, ?_, (hx1.below hb2 (Nat.le_refl _)).trans hx3⟩
    rw [HE.out]
    have e : l ++ (254 :: fixB x 8) = l ++ [UInt8.ofNat (254 : Int).toNat] ++ fixB x (8 : Int).toNat := by rw [List.append_assoc]; rfl
    rw [e]
    exact ho3.more (Ext.size (hx1.below hb2 (Nat.le_refl _)))

set_option maxHeartbeats 1000000 in
theorem appendInt_ref (w : World) (v : Value) (l : List UInt8) (x : Int) (hr : Rd w v l) (hx0 : 0 ≤ x) (hx9 : x < 18446744073709551616) (hl : l.length ≤ 8000000) :
    Calls Tryz.prog 164 #[v, .int .u64 x] w (RetB w (l ++ intB x)) := by
  have HR := Lib.hid hr
  clear hr
  rcases size_cases x with ⟨h, hs⟩ | ⟨h, h2, hs⟩ | ⟨h, h2, hs⟩ | ⟨h, hs⟩
  · have HE := Lib.hid (show intB x = fixB x 1 by unfold intB; rw [if_pos h])
    have HK := Lib.hid (show fixOk x 1 = true from fixOk_1 x hx0 (by omega))
    have HS := Lib.hid hs
    clear hs
    go_enter Tryz.func164, Tryz.ntmps164
    go_wp2_with (first | (go_at_call 185; refine (size_ref _ _).mono ?_; rintro e w0 ⟨rfl, rfl⟩; rw [HS.out]) | (at_builtin; refine wpl_clone bt HR.out rfl _ _ rfl rfl rfl (by omega) ?_; intro v1 w1 ho1 hx1) | (at_builtin; refine wpl_append_one bt x ho1 hx0 (by omega) rfl _ _ rfl rfl rfl (by omega) (Ext.size hx1) ?_; intro v2 w2 ho2 hb2))
    go_ret
    refine ⟨_, rfl, ?_, hx1.below hb2 (Nat.le_refl _)⟩
    rw [HE.out, fixB_one x hx0 (by omega)]
    exact ho2
  · have HE := Lib.hid (show intB x = 252 :: fixB x 2 by unfold intB; rw [if_neg (by omega), if_pos h2])
    have HK := Lib.hid (show fixOk x 2 = true from fixOk_2 x hx0 (by omega))
    have HS := Lib.hid hs
    clear hs
    go_enter Tryz.func164, Tryz.ntmps164
    go_wp2_with (first | (go_at_call 185; refine (size_ref _ _).mono ?_; rintro e w0 ⟨rfl, rfl⟩; rw [HS.out]) | (at_builtin; refine wpl_clone bt HR.out rfl _ _ rfl rfl rfl (by omega) ?_; intro v1 w1 ho1 hx1) | (at_builtin; refine wpl_append_one bt 252 ho1 (by omega) (by omega) rfl _ _ rfl rfl rfl (by omega) (Ext.size hx1) ?_; intro v2 w2 ho2 hb2) | (go_at_call 158; refine (appendFixed_good_ref _ _ _ _ _ ho2.rd (by first | omega | (simp; omega)) HK.out).mono ?_; rintro e w3 ⟨v3, rfl, ho3, hx3⟩))
    go_ret
    refine ⟨_, rfl, ?_, (hx1.below hb2 (Nat.le_refl _)).trans hx3⟩
    rw [HE.out]
    have e : l ++ (252 :: fixB x 2) = l ++ [UInt8.ofNat (252 : Int).toNat] ++ fixB x (2 : Int).toNat := by rw [List.append_assoc]; rfl
    rw [e]
    exact ho3.more (Ext.size (hx1.below hb2 (Nat.le_refl _)))
  · have HE := Lib.hid (show intB x = 253 :: fixB x 3 by unfold intB; rw [if_neg (by omega), if_neg (by omega), if_pos h2])
    have HK := Lib.hid (show fixOk x 3 = true from fixOk_3 x hx0 (by omega))
    have HS := Lib.hid hs
    clear hs
    go_enter Tryz.func164, Tryz.ntmps164
    go_wp2_with (first | (go_at_call 185; refine (size_ref _ _).mono ?_; rintro e w0 ⟨rfl, rfl⟩; rw [HS.out]) | (at_builtin; refine wpl_clone bt HR.out rfl _ _ rfl rfl rfl (by omega) ?_; intro v1 w1 ho1 hx1) | (at_builtin; refine wpl_append_one bt 253 ho1 (by omega) (by omega) rfl _ _ rfl rfl rfl (by omega) (Ext.size hx1) ?_; intro v2 w2 ho2 hb2) | (go_at_call 158; refine (appendFixed_good_ref _ _ _ _ _ ho2.rd (by first | omega | (simp; omega)) HK.out).mono ?_; rintro e w3 ⟨v3, rfl, ho3, hx3⟩))
    go_ret
    refine ⟨_, rfl, ?_, (hx1.below hb2 (Nat.le_refl _)).trans hx3⟩
    rw [HE.out]
    have e : l ++ (253 :: fixB x 3) = l ++ [UInt8.ofNat (253 : Int).toNat] ++ fixB x (3 : Int).toNat := by rw [List.append_assoc]; rfl
    rw [e]
    exact ho3.more (Ext.size (hx1.below hb2 (Nat.le_refl _)))
  · have HE := Lib.hid (show intB x = 254 :: fixB x 8 by unfold intB; rw [if_neg (by omega), if_neg (by omega), if_neg (by omega)])
    have HK := Lib.hid (show fixOk x 8 = true from fixOk_8 x hx0 (by omega))
    have HS := Lib.hid hs
    clear hs
    go_enter Tryz.func164, Tryz.ntmps164
    go_wp2_with (first | (go_at_call 185; refine (size_ref _ _).mono ?_; rintro e w0 ⟨rfl, rfl⟩; rw [HS.out]) | (at_builtin; refine wpl_clone bt HR.out rfl _ _ rfl rfl rfl (by omega) ?_; intro v1 w1 ho1 hx1) | (at_builtin; refine wpl_append_one bt 254 ho1 (by omega) (by omega) rfl _ _ rfl rfl rfl (by omega) (Ext.size hx1) ?_; intro v2 w2 ho2 hb2) | (go_at_call 158; refine (appendFixed_good_ref _ _ _ _ _ ho2.rd (by first | omega | (simp; omega)) HK.out).mono ?_; rintro e w3 ⟨v3, rfl, ho3, hx3⟩))
    go_ret
    refine ⟨_, rfl, ?_, (hx1.below hb2 (Nat.le_refl _)).trans hx3⟩
    rw [HE.out]
    have e : l ++ (254 :: fixB x 8) = l ++ [UInt8.ofNat (254 : Int).toNat] ++ fixB x (8 : Int).toNat := by rw [List.append_assoc]; rfl
    rw [e]
    exact ho3.more (Ext.size (hx1.below hb2 (Nat.le_refl _)))
end Go.Proofs.YtbodppfpmpmadaaGreat

namespace Go.Proofs.YtbodppfpmpmadaaGreat
open Go.RowKit

def hasB (c x : Int) : Bool := bits .and .u32 c x != 0

theorem has_at (w : World) (c x : Int) (r : Bool) (h : hasB c x = r) :
    Calls Tryz.prog 189 #[.int .u32 c, .int .u32 x] w fun e w' => e = .returned (.bool r) ∧ w = w' := by
  have H := Lib.hid h
  clear h
  go_enter Tryz.func189, Tryz.ntmps189
  go_wp2_with fail
  go_ret
  rw [← H.out]
  exact ⟨rfl, rfl⟩

theorem fixed_c (w : World) (v : Value) (l : List UInt8) (x n : Int) (hr : Rd w v l) (hl : l.length ≤ 9000000) (h : fixOk x n = true) :
    Calls Tryz.prog 176 #[v, .int .u64 x, .int .i64 n] w (RetB w (l ++ fixB x n.toNat)) := by
  have HR := Lib.hid hr
  have HK := Lib.hid h
  clear hr h
  go_enter Tryz.func176, Tryz.ntmps176
  go_wp2_with (go_at_call 153; refine (appendFixed_good_len _ _ _ _ _ HR.out hl HK.out).mono ?_; rintro e w1 ⟨v1, rfl, ho, hx⟩)
  go_ret
  exact ⟨_, rfl, ho, hx⟩

def errB (c : Int) (s t : List UInt8) : List UInt8 := [255] ++ fixB c 2 ++ [35] ++ s ++ t

theorem Box.held0 {W0 W : World} {g : Nat} {cs : List Value} {v : Value} (h : Box W0 g cs) (hv : cs.head? = some v) (k : Ext W0 W) : W.cell? ⟨g, 0, none⟩ = some v ∧ Ext W0 W := by
  cases cs with
  | nil => simp at hv
  | cons a b => simp at hv; subst hv; exact ⟨(h.ext k) 0 (by simp), k⟩

theorem Box.held2 {W0 W : World} {g j k : Nat} {cs : List Value} {v u : Value} (h : Box W0 g cs) (hv : cs[j]? = some v) (hu : cs[k]? = some u) (e : Ext W0 W) : W.cell? ⟨g, j, none⟩ = some v ∧ W.cell? ⟨g, k, none⟩ = some u ∧ Ext W0 W := by
  obtain ⟨hj, hv⟩ := List.getElem?_eq_some_iff.1 hv
  obtain ⟨hk, hu⟩ := List.getElem?_eq_some_iff.1 hu
  have h1 := (h.ext e) j hj
  have h2 := (h.ext e) k hk
  simp [List.getD, hj, hv] at h1
  simp [List.getD, hk, hu] at h2
  exact ⟨h1, h2, e⟩

set_option maxRecDepth 100000 in
set_option maxHeartbeats 1000000 in
theorem appendErr_good (w : World) (v : Value) (l : List UInt8) (c : Int) (s t : ByteArray) (hr : Rd w v l) (hl : l.length ≤ 1000000) (h : s.size = 5) (ht : t.size ≤ 1000000) (hc : 0 ≤ c ∧ c < 65536) :
    Calls Tryz.prog 138 #[v, .agg #[.int .u16 c, .string s, .string t]] w (RetBE w (l ++ errB c s.data.toList t.data.toList) 0) := by
  have HR := Lib.hid hr
  clear hr
  have hb : ((s.size : Int) == 5) = true := by simp [h]
  have HW := Lib.hid (show IntKind.u64.wrap c = c from IntWalk.u64_in c (by omega))
  have HK := Lib.hid (show fixOk c 2 = true by simp [fixOk]; omega)
  go_enter Tryz.func138, Tryz.ntmps138
  go_wp2_with fail
  generalize hW0 : w.alloc _ = W0
  have hbox : Box W0 w.heap.size [.int .u16 c, .string s, .string t] := by rw [← hW0]; exact Box.new w _ _
  have hx0 : Ext w W0 := by rw [← hW0]; exact (Ext.refl w).alloc _
  clear hW0
  have hlt : w.heap.size < W0.heap.size := World.block_lt_of_cell? W0 _ (hbox 0 (by simp))
  go_region_held3 (fun W' => W'.cell? ⟨w.heap.size, 0, none⟩ = some (.int .u16 c) ∧ Ext W0 W') ((go_split_ands; refine Box.held0 hbox (by simp) ?_; first | exact (Ext.refl _).drew | exact ((Ext.refl _).alloc _).drew | exact Ext.trans (by assumption) hx1 | exact Ext.below (by assumption) hb2 (Nat.le_refl _) | exact Ext.trans (by assumption) hx3 | exact Ext.alloc (by assumption) _))
    (first
      | (go_at_call 97; go_must (go_split_ands; refine (clone_c _ _ _ (HR.out.ext (hx0.trans (by assumption))) ?_).mono ?_; omega; rintro e w1 ⟨v1, rfl, ho1', hx1⟩; have ho1 := ho1'.more (base' := W0.heap.size) (Ext.size (by assumption)); clear ho1'))
      | (go_at_call 176; rw [HW.out]; go_must (go_split_ands; refine (fixed_c _ _ _ c 2 ho2.rd ?_ HK.out).mono ?_; (simp; omega); rintro e w3 ⟨v3, rfl, ho3', hx3⟩; have ho3 := ho3'.more (base' := W0.heap.size) (Ext.size (by assumption)); clear ho3'))
      | ((with_reducible show (if Region.wanted (⟨some 14, _, _, _, _, _⟩ : Oper) _ = true then _ else _)); go_split_ands; refine step_append_rd bt (ho1.ext ((Ext.refl _).alloc _)) (rd_lit w1 _ [255] (by rfl) (by simp) 1 _ (by rfl) (by rfl)) (by rfl) _ _ (by rfl) (by rfl) (by rfl) ?_ ?_ ?_; (simp; omega); (exact Ext.size (by assumption)); intro v2 w2 ho2 hb2)
      | ((with_reducible show (if Region.wanted (⟨some 14, _, _, _, _, _⟩ : Oper) _ = true then _ else _)); go_split_ands; refine step_append_rd bt ho1 ((rd_lit _ _ [255] (by rfl) (by simp) 1 _ (by rfl) (by rfl)).ext ((Ext.refl _).drew.trans hx1)) (by rfl) _ _ (by rfl) (by rfl) (by rfl) ?_ ?_ ?_; (simp; omega); (exact Ext.size (by assumption)); intro v2 w2 ho2 hb2))
  all_goals
    go_split_ands
    rename Ext W0 w3 => hx03
    have hc1 := (hbox.ext hx03) 1 (by simp)
    have hc2 := (hbox.ext hx03) 2 (by simp)
    have hf : (fixB c 2).length = 2 := fixB_length c 2
    clear hx1 hb2 hx3 ho1 ho2
    go_wp2_with fail
    go_region_held3 (fun W' => W'.cell? ⟨w.heap.size, 1, none⟩ = some (.string s) ∧ W'.cell? ⟨w.heap.size, 2, none⟩ = some (.string t) ∧ Ext W0 W') ((go_split_ands; refine Box.held2 hbox (j := 1) (k := 2) (by simp) (by simp) ?_; first | exact hx03.drew | exact (hx03.alloc _).drew | exact Ext.below (by assumption) hb4 (Nat.le_refl _)))
      (first
        | ((with_reducible show (if Region.wanted (⟨some 21, _, _, _, _, _⟩ : Oper) _ = true then _ else _)); go_split_ands; refine step_append_rd bt (ho3.ext (((Ext.refl _).alloc _).drew)) ((rd_lit w3 _ [35] (by rfl) (by simp) 1 _ (by rfl) (by rfl)).ext (Ext.refl _).drew) (by rfl) _ _ (by rfl) (by rfl) (by rfl) ?_ ?_ ?_; (simp; omega); (exact Ext.size (by assumption)); intro v4 w4 ho4 hb4)
        | ((with_reducible show (if Region.wanted (⟨some 24, _, _, _, _, _⟩ : Oper) _ = true then _ else _)); go_split_ands; refine step_append_st bt s ho4 (by rfl) _ _ (by rfl) (by rfl) (by rfl) ?_ ?_ ?_; (simp; omega); (exact Ext.size (by assumption)); clear hb4; intro v5 w5 ho5 hb4)
        | ((with_reducible show (if Region.wanted (⟨some 27, _, _, _, _, _⟩ : Oper) _ = true then _ else _)); go_split_ands; refine step_append_st bt t ho5 (by rfl) _ _ (by rfl) (by rfl) (by rfl) ?_ ?_ ?_; (simp; omega); (exact Ext.size (by assumption)); clear hb4; intro v6 w6 ho6 hb4))
    go_split_ands
    rename Ext W0 w6 => hx06
    clear hb4 ho5 ho4
    go_wp2_with fail
    go_ret2
    refine ⟨_, rfl, ?_, hx0.trans hx06⟩
    have := ho6.more (base' := w.heap.size) (by omega)
    simpa [errB] using this
end Go.Proofs.YtbodppfpmpmadaaGreat

namespace Go.Proofs.YtbodppfpmpmadaaGreat
open Go.RowKit

def respPl (pl pw n : List UInt8) : List UInt8 := if pl == fastL then respP 2 pw n else respP 1 pw n
set_option maxHeartbeats 1000000 in
theorem dresponse_c (w : World) (pl pw : List UInt8) (vn : Value) (n : List UInt8) (hp : pw.length ≤ 1000000) (hn : Rd w vn n) :
    Calls Tryz.prog 123 #[.string (strL pl), .string (strL pw), vn] w fun e w' => ∃ v', e = .returned v' ∧ Rd w' v' (respPl pl pw n) ∧ Ext w w' := by
  have HN := Lib.hid hn
  have HP := Lib.hid (show (strL pw).size ≤ 1000000 by rw [strL_size]; exact hp)
  obtain ⟨q5, e5⟩ : ∃ q, q = (pl == fastL) := ⟨_, rfl⟩
  have g5 : ((strL pl).toList == [99, 97, 99, 104, 105, 110, 103, 95, 115, 104, 97, 50, 95, 112, 97, 115, 115, 119, 111, 114, 100]) = q5 := by rw [strL_tl]; exact e5.symm
  unfold respPl
  rw [← e5]
  clear e5 hn
  cases q5 with
  | true =>
    go_enter Tryz.func123, Tryz.ntmps123
    go_wp2_with (first
      | (go_at_call 168; refine (fast_c _ (strL pw) _ n HP.out HN.out).mono ?_; rintro e w1 ⟨v1, rfl, hr1, hx1⟩)
      | fail)
    go_ret
    exact ⟨_, rfl, hr1, hx1⟩
  | false =>
    go_enter Tryz.func123, Tryz.ntmps123
    go_wp2_with (first
      | (go_at_call 50; refine (ntv_c _ (strL pw) _ n HP.out HN.out).mono ?_; rintro e w1 ⟨v1, rfl, hr1, hx1⟩)
      | fail)
    go_ret
    exact ⟨_, rfl, hr1, hx1⟩
end Go.Proofs.YtbodppfpmpmadaaGreat

namespace Go.Proofs.YtbodppfpmpmadaaGreat
open Go.RowKit

def ListsN (w : World) (base : Nat) (v : Value) (ls : List (List UInt8)) : Prop :=
  ∃ (A : Option Addr) (cap : Nat), v = .slice A ls.length cap ∧ ls.length ≤ cap ∧ cap ≤ maxLen ∧
    (ls ≠ [] → ∃ b o, A = some ⟨b, o, none⟩ ∧ base ≤ b ∧ ∀ j, j < ls.length → ∃ u, w.cell? ⟨b, o + j, none⟩ = some u ∧ Own w base u (ls.getD j []))
theorem ListsN.lists {w : World} {base : Nat} {v : Value} {ls : List (List UInt8)} (h : ListsN w base v ls) : Lists w v ls := by
  obtain ⟨A, cap, h1, h2, h3, h4⟩ := h
  refine ⟨A, cap, h1, h2, h3, fun hn => ?_⟩
  obtain ⟨b, o, hA, _, hc⟩ := h4 hn
  refine ⟨b, o, hA, fun j hj => ?_⟩
  obtain ⟨u, hu, ho⟩ := hc j hj
  exact ⟨u, hu, ho.rd⟩
theorem own_far {g base : Nat} {w w' : World} {v : Value} {l : List UInt8} (h : Own w base v l) (k : On g w w') (hg : g < base) : Own w' base v l :=
  World.ownsRow.kept h k (.inr (fun e => by have := (World.ownsRow.lt h g e).1; omega))
theorem ListsN.on {g : Nat} {w w' : World} {base : Nat} {v : Value} {ls : List (List UInt8)} (h : ListsN w base v ls) (k : On g w w') (hg : g < base) : ListsN w' base v ls := by
  obtain ⟨A, cap, h1, h2, h3, h4⟩ := h
  refine ⟨A, cap, h1, h2, h3, fun hn => ?_⟩
  obtain ⟨b, o, hA, hb, hc⟩ := h4 hn
  refine ⟨b, o, hA, hb, fun j hj => ?_⟩
  obtain ⟨u, hu, ho⟩ := hc j hj
  exact ⟨u, k.cell hu (by show b ≠ g; omega), own_far ho k hg⟩
theorem ListsN.more {w : World} {base base' : Nat} {v : Value} {ls : List (List UInt8)} (h : ListsN w base v ls) (hb : base' ≤ base) : ListsN w base' v ls := by
  obtain ⟨A, cap, h1, h2, h3, h4⟩ := h
  refine ⟨A, cap, h1, h2, h3, fun hn => ?_⟩
  obtain ⟨b, o, hA, hB, hc⟩ := h4 hn
  refine ⟨b, o, hA, by omega, fun j hj => ?_⟩
  obtain ⟨u, hu, ho⟩ := hc j hj
  exact ⟨u, hu, ho.more hb⟩
theorem lists_one {w : World} {base g : Nat} {u : Value} {l : List UInt8} (hg : base ≤ g) (hb : w.cell? ⟨g, 0, none⟩ = some u) (hr : Own w base u l) : ListsN w base (.slice (some ⟨g, 0, none⟩) 1 1) [l] := by
  refine ⟨_, 1, rfl, Nat.le_refl _, by unfold maxLen; simp, fun _ => ⟨g, 0, rfl, hg, fun j hj => ?_⟩⟩
  have e : j = 0 := by simpa using hj
  subst e
  exact ⟨u, hb, hr⟩
def RetL (w : World) (ls : List (List UInt8)) (e : Ending) (w' : World) : Prop := ∃ v, e = .returned v ∧ ListsN w' w.heap.size v ls ∧ Ext w w'
set_option maxHeartbeats 1000000 in
theorem wrong_c (w : World) (c : Int) (s t : ByteArray) (hs : s.size = 5) (ht : t.size ≤ 1000000) (hc : 0 ≤ c ∧ c < 65536) :
    Calls Tryz.prog 86 #[.int .u16 c, .string s, .string t] w (RetL w [errB c s.data.toList t.data.toList]) := by
  have HS := Lib.hid hs
  have HT := Lib.hid ht
  have HC := Lib.hid hc
  clear hs ht hc
  go_enter Tryz.func86, Tryz.ntmps86
  go_wp2_with (go_at_call 138; refine (appendErr_good _ _ [] c s t (Rd.nil _) (by simp) HS.out HT.out HC.out).mono ?_; rintro e w1 ⟨v1, rfl, ho1, hx1⟩; obtain ⟨A1, c1, hv1, _⟩ := id ho1.rd; subst hv1)
  go_ret
  refine ⟨_, rfl, lists_one (u := _) (Ext.size hx1) (Box.new w1 [_] _ 0 (by simp)) (ho1.ext ((Ext.refl _).alloc _)), hx1.trans ((Ext.refl _).alloc _)⟩
def oddL : List UInt8 := errB 1043 [48, 56, 83, 48, 49] [98, 97, 100, 32, 104, 97, 110, 100, 115, 104, 97, 107, 101]
def refusedL : List UInt8 := errB 1045 [50, 56, 48, 48, 48] [97, 99, 99, 101, 115, 115, 32, 100, 101, 110, 105, 101, 100]
theorem odd_c (w : World) : Calls Tryz.prog 42 #[] w (RetL w [oddL]) := by
  go_enter Tryz.func42, Tryz.ntmps42
  go_wp2_with (go_at_call 86; refine (wrong_c _ 1043 _ _ rfl (by decide) (by omega)).mono ?_; rintro e w1 ⟨v1, rfl, hl1, hx1⟩)
  go_ret
  exact ⟨_, rfl, hl1, hx1⟩
theorem refused_c (w : World) : Calls Tryz.prog 89 #[] w (RetL w [refusedL]) := by
  go_enter Tryz.func89, Tryz.ntmps89
  go_wp2_with (go_at_call 86; refine (wrong_c _ 1045 _ _ rfl (by decide) (by omega)).mono ?_; rintro e w1 ⟨v1, rfl, hl1, hx1⟩)
  go_ret
  exact ⟨_, rfl, hl1, hx1⟩
end Go.Proofs.YtbodppfpmpmadaaGreat

namespace Go.Proofs.YtbodppfpmpmadaaGreat
open Go.RowKit

def RetT (w : World) (r : List UInt8 × Nat × Int) (e : Ending) (w' : World) : Prop := e = .returned (.tuple #[.string (strL r.1), .int .i64 (r.2.1 : Int), .int .i64 r.2.2]) ∧ w = w'

set_option maxHeartbeats 400000 in
theorem appendText_len (w : World) (v : Value) (l : List UInt8) (s : ByteArray) (hr : Rd w v l) (hs : s.size ≤ 1000000) (hl : l.length ≤ 7000000) :
    Calls Tryz.prog 149 #[v, .string s] w (RetB w (l ++ textB s.data.toList)) := by
  have HR := Lib.hid hr
  clear hr
  have hi := intB_length (s.size : Int)
  have hi2 := sizeI_le (s.size : Int)
  rw [← hi] at hi2
  clear hi
  have HE := Lib.hid (show intB (s.size : Int) ++ s.data.toList = textB s.data.toList by unfold textB; rw [size_toList])
  go_enter Tryz.func149, Tryz.ntmps149
  go_wp2_with (first | (go_at_call 183; refine (appendInt_len _ _ _ (s.size : Int) HR.out (by omega) (by omega) (by omega)).mono ?_; rintro e w1 ⟨v1, rfl, ho1, hx1⟩) | (at_builtin; refine wpl_append_st bt s ho1 rfl _ _ rfl rfl rfl (by rw [List.length_append]; omega) (Ext.size hx1) ?_; intro v2 w2 ho2 hb2))
  go_ret
  refine ⟨_, rfl, ?_, hx1.below hb2 (Nat.le_refl _)⟩
  rw [← HE.out, ← List.append_assoc]
  exact ho2

set_option maxHeartbeats 400000 in
theorem appendText_ref (w : World) (v : Value) (l : List UInt8) (s : ByteArray) (hr : Rd w v l) (hs : s.size ≤ 1000000) (hl : l.length ≤ 7000000) :
    Calls Tryz.prog 166 #[v, .string s] w (RetB w (l ++ textB s.data.toList)) := by
  have HR := Lib.hid hr
  clear hr
  have hi := intB_length (s.size : Int)
  have hi2 := sizeI_le (s.size : Int)
  rw [← hi] at hi2
  clear hi
  have HE := Lib.hid (show intB (s.size : Int) ++ s.data.toList = textB s.data.toList by unfold textB; rw [size_toList])
  go_enter Tryz.func166, Tryz.ntmps166
  go_wp2_with (first | (go_at_call 164; refine (appendInt_ref _ _ _ (s.size : Int) HR.out (by omega) (by omega) (by omega)).mono ?_; rintro e w1 ⟨v1, rfl, ho1, hx1⟩) | (at_builtin; refine wpl_append_st bt s ho1 rfl _ _ rfl rfl rfl (by rw [List.length_append]; omega) (Ext.size hx1) ?_; intro v2 w2 ho2 hb2))
  go_ret
  refine ⟨_, rfl, ?_, hx1.below hb2 (Nat.le_refl _)⟩
  rw [← HE.out, ← List.append_assoc]
  exact ho2

theorem readInt_at_len (w : World) (v : Value) (l : List UInt8) (x : Int) (n : Nat) (r : Int) (hr : Rd w v l) (h : readI l = (x, n, r)) :
    Calls Tryz.prog 198 #[v] w fun e w' => e = .returned (.tuple #[.int .u64 x, .int .i64 n, .int .i64 r]) ∧ w = w' := by
  have := readInt_len w v l hr
  rw [h] at this
  exact this

set_option maxHeartbeats 1000000 in
theorem readText_len (w : World) (v : Value) (l : List UInt8) (hr : Rd w v l) :
    Calls Tryz.prog 175 #[v] w (RetT w (readT l)) := by
  obtain ⟨x, n, r, h⟩ : ∃ x n r, readI l = (x, n, r) := ⟨_, _, _, rfl⟩
  have H := Lib.hid h
  have HR := Lib.hid hr
  obtain ⟨A, cap, rfl, hle, hm, hA, hc⟩ := hr
  clear hA hc
  unfold maxLen at hm
  rcases readI_err h with rfl | ⟨rfl, rfl, rfl | rfl⟩
  · obtain ⟨hn1, hn2, hx0⟩ := readI_ok h
    by_cases hx : (l.length : Int) - n < x
    · have HT := Lib.hid (show readT l = ([], 0, 4) by unfold readT; rw [h]; exact (if_pos rfl).trans (if_pos hx))
      clear h
      rw [HT.out]
      go_enter Tryz.func175, Tryz.ntmps175
      go_wp2_with (go_at_call 198; refine (readInt_at_len _ _ _ _ _ _ HR.out H.out).mono ?_; rintro e w1 ⟨rfl, rfl⟩)
      go_ret3
      exact ⟨rfl, rfl⟩
    · have HT := Lib.hid (show readT l = ((l.take (n + x.toNat)).drop n, n + x.toNat, 0) by unfold readT; rw [h]; exact (if_pos rfl).trans (if_neg hx))
      clear h
      have hx2 : x ≤ (l.length : Int) - n := by omega
      obtain ⟨X, rfl⟩ : ∃ X : Nat, x = X := ⟨x.toNat, by omega⟩
      rw [HT.out]
      clear hx
      go_enter Tryz.func175, Tryz.ntmps175
      go_wp2_with (first | (go_at_call 198; refine (readInt_at_len _ _ _ _ _ _ HR.out H.out).mono ?_; rintro e w1 ⟨rfl, rfl⟩) | ((with_reducible show wpList _ _ _ (_ :: _) _ _); refine wpl_slice_lohi bt HR.out (n : Int) ((n : Int) + (X : Int)) (by omega) (by omega) (by omega) rfl _ _ _ _ _ rfl rfl rfl rfl ?_; intro v2 hr2) | ((with_reducible show wpList _ _ _ (_ :: _) _ _); refine wpl_str bt hr2 rfl _ rfl rfl ?_))
      go_ret3
      refine ⟨?_, rfl⟩
      have e2 : ((n + X : Nat) : Int) = (n : Int) + (X : Int) := by omega
      simp only [Int.toNat_natCast, e2]
      rfl
  all_goals
    have HT := Lib.hid (show readT l = ([], 0, (readI l).2.2) by unfold readT; rw [h]; simp)
    clear h
    rw [HT.out, H.out]
    go_enter Tryz.func175, Tryz.ntmps175
    go_wp2_with (go_at_call 198; refine (readInt_at_len _ _ _ _ _ _ HR.out H.out).mono ?_; rintro e w1 ⟨rfl, rfl⟩)
    go_ret3
    exact ⟨rfl, rfl⟩

theorem readInt_at_ref (w : World) (v : Value) (l : List UInt8) (x : Int) (n : Nat) (r : Int) (hr : Rd w v l) (h : readI l = (x, n, r)) :
    Calls Tryz.prog 174 #[v] w fun e w' => e = .returned (.tuple #[.int .u64 x, .int .i64 n, .int .i64 r]) ∧ w = w' := by
  have := readInt_ref w v l hr
  rw [h] at this
  exact this

set_option maxHeartbeats 1000000 in
theorem readText_ref (w : World) (v : Value) (l : List UInt8) (hr : Rd w v l) :
    Calls Tryz.prog 163 #[v] w (RetT w (readT l)) := by
  obtain ⟨x, n, r, h⟩ : ∃ x n r, readI l = (x, n, r) := ⟨_, _, _, rfl⟩
  have H := Lib.hid h
  have HR := Lib.hid hr
  obtain ⟨A, cap, rfl, hle, hm, hA, hc⟩ := hr
  clear hA hc
  unfold maxLen at hm
  rcases readI_err h with rfl | ⟨rfl, rfl, rfl | rfl⟩
  · obtain ⟨hn1, hn2, hx0⟩ := readI_ok h
    by_cases hx : (l.length : Int) - n < x
    · have HT := Lib.hid (show readT l = ([], 0, 4) by unfold readT; rw [h]; exact (if_pos rfl).trans (if_pos hx))
      clear h
      rw [HT.out]
      go_enter Tryz.func163, Tryz.ntmps163
      go_wp2_with (go_at_call 174; refine (readInt_at_ref _ _ _ _ _ _ HR.out H.out).mono ?_; rintro e w1 ⟨rfl, rfl⟩)
      go_ret3
      exact ⟨rfl, rfl⟩
    · have HT := Lib.hid (show readT l = ((l.take (n + x.toNat)).drop n, n + x.toNat, 0) by unfold readT; rw [h]; exact (if_pos rfl).trans (if_neg hx))
      clear h
      have hx2 : x ≤ (l.length : Int) - n := by omega
      obtain ⟨X, rfl⟩ : ∃ X : Nat, x = X := ⟨x.toNat, by omega⟩
      rw [HT.out]
      clear hx
      go_enter Tryz.func163, Tryz.ntmps163
      go_wp2_with (first | (go_at_call 174; refine (readInt_at_ref _ _ _ _ _ _ HR.out H.out).mono ?_; rintro e w1 ⟨rfl, rfl⟩) | ((with_reducible show wpList _ _ _ (_ :: _) _ _); refine wpl_slice_lohi bt HR.out (n : Int) ((n : Int) + (X : Int)) (by omega) (by omega) (by omega) rfl _ _ _ _ _ rfl rfl rfl rfl ?_; intro v2 hr2) | ((with_reducible show wpList _ _ _ (_ :: _) _ _); refine wpl_str bt hr2 rfl _ rfl rfl ?_))
      go_ret3
      refine ⟨?_, rfl⟩
      have e2 : ((n + X : Nat) : Int) = (n : Int) + (X : Int) := by omega
      simp only [Int.toNat_natCast, e2]
      rfl
  all_goals
    have HT := Lib.hid (show readT l = ([], 0, (readI l).2.2) by unfold readT; rw [h]; simp)
    clear h
    rw [HT.out, H.out]
    go_enter Tryz.func163, Tryz.ntmps163
    go_wp2_with (go_at_call 174; refine (readInt_at_ref _ _ _ _ _ _ HR.out H.out).mono ?_; rintro e w1 ⟨rfl, rfl⟩)
    go_ret3
    exact ⟨rfl, rfl⟩
end Go.Proofs.YtbodppfpmpmadaaGreat

namespace Go.Proofs.YtbodppfpmpmadaaGreat
open Go.RowKit

def trackB (c st : Int) : Bool := hasB c 8388608 && (bits .and .u16 st 16384 != 0)

theorem Box.six {W0 W : World} {g : Nat} {a b c d e f : Value} (h : Box W0 g [a, b, c, d, e, f]) (k : Ext W0 W) :
    W.cell? ⟨g, 0, none⟩ = some a ∧ W.cell? ⟨g, 1, none⟩ = some b ∧ W.cell? ⟨g, 2, none⟩ = some c ∧ W.cell? ⟨g, 3, none⟩ = some d ∧ W.cell? ⟨g, 4, none⟩ = some e ∧ W.cell? ⟨g, 5, none⟩ = some f :=
  ⟨(h.ext k) 0 (by simp), (h.ext k) 1 (by simp), (h.ext k) 2 (by simp), (h.ext k) 3 (by simp), (h.ext k) 4 (by simp), (h.ext k) 5 (by simp)⟩

set_option maxHeartbeats 400000 in
theorem tracked_c (w : World) (c a i st wn : Int) (info : ByteArray) (vt : Value) (r : Bool) (h : trackB c st = r) :
    Calls Tryz.prog 191 #[.int .u32 c, .agg #[.int .u64 a, .int .u64 i, .int .u16 st, .int .u16 wn, .string info, vt]] w fun e w' => e = .returned (.bool r) ∧ Ext w w' := by
  cases hk : hasB c 8388608 with
  | false =>
    have hr : r = false := by rw [← h]; simp [trackB, hk]
    subst hr
    have HK := Lib.hid hk
    clear hk h
    go_enter Tryz.func191, Tryz.ntmps191
    go_wp2_with (go_at_call 189; refine (has_at _ _ _ false HK.out).mono ?_; rintro e w1 ⟨rfl, rfl⟩)
    go_ret
    exact ⟨rfl, (Ext.refl _).alloc _⟩
  | true =>
    have hr : (bits .and .u16 st 16384 != 0) = r := by rw [← h]; simp [trackB, hk]
    have HK := Lib.hid hk
    have HQ := Lib.hid hr
    clear hk h hr
    go_enter Tryz.func191, Tryz.ntmps191
    go_wp2_with (go_at_call 189; refine (has_at _ _ _ true HK.out).mono ?_; rintro e w1 ⟨rfl, rfl⟩)
    go_ret
    rw [← HQ.out]
    exact ⟨rfl, (Ext.refl _).alloc _⟩

theorem textB_le (s : ByteArray) : (textB s.data.toList).length ≤ s.size + 9 := by
  have h1 := intB_length (s.size : Int)
  have h2 := sizeI_le (s.size : Int)
  rw [← h1] at h2
  simp only [textB, List.length_append, size_toList]
  omega

def okHead (k : Bool) (a i st wn : Int) : List UInt8 := (if k then 254 else 0) :: (intB a ++ (intB i ++ (fixB st 2 ++ fixB wn 2)))
def okTail (c st : Int) (info trk : List UInt8) : List UInt8 := if hasB c 8388608 then textB info ++ (if trackB c st then textB trk else []) else info

set_option maxRecDepth 100000 in
set_option maxHeartbeats 4000000 in
theorem appendOk_good (w : World) (v vt : Value) (l trk : List UInt8) (c a i st wn : Int) (info : ByteArray) (k : Bool) (hr : Rd w v l) (ht : Rd w vt trk) (hl : l.length ≤ 1000000) (hi : info.size ≤ 100000) (htl : trk.length ≤ 100000)
    (ha : 0 ≤ a ∧ a < 18446744073709551616) (hii : 0 ≤ i ∧ i < 18446744073709551616) (hst : 0 ≤ st ∧ st < 65536) (hwn : 0 ≤ wn ∧ wn < 65536) (h : trk = [] ∨ trackB c st = true) :
    Calls Tryz.prog 177 #[v, .int .u32 c, .agg #[.int .u64 a, .int .u64 i, .int .u16 st, .int .u16 wn, .string info, vt], .bool k] w (RetBE w (l ++ (okHead k a i st wn ++ okTail c st info.data.toList trk)) 0) := by
  obtain ⟨q, hq⟩ : ∃ q, hasB c 8388608 = q := ⟨_, rfl⟩
  obtain ⟨t, htr⟩ : ∃ t, trackB c st = t := ⟨_, rfl⟩
  have hcase : (¬ 0 < trk.length ∧ q = false ∧ t = false) ∨ (¬ 0 < trk.length ∧ q = true ∧ t = false) ∨ (¬ 0 < trk.length ∧ q = true ∧ t = true) ∨ (0 < trk.length ∧ q = true ∧ t = true) := by
    have h1 : q = false → t = false := by intro hh; rw [← htr, trackB, hq, hh]; rfl
    rcases h with rfl | h
    · cases q <;> cases t <;> simp_all
    · have h2 : t = true := htr.symm.trans h
      have h3 : q = true := by cases q <;> simp_all
      rcases Nat.eq_zero_or_pos trk.length with h4 | h4
      · exact .inr (.inr (.inl ⟨by omega, h3, h2⟩))
      · exact .inr (.inr (.inr ⟨h4, h3, h2⟩))
  have hia := intB_length a
  have hib := sizeI_le a
  rw [← hia] at hib
  have hja := intB_length i
  have hjb := sizeI_le i
  rw [← hja] at hjb
  clear hia hja h
  have htx : (textB info.data.toList).length ≤ info.size + 9 := textB_le info
  have hf1 : (fixB st 2).length = 2 := fixB_length st 2
  have hf2 : (fixB wn 2).length = 2 := fixB_length wn 2
  have HR := Lib.hid hr
  have HV := Lib.hid ht
  have HQ := Lib.hid hq
  have HT := Lib.hid htr
  have HW1 := Lib.hid (show IntKind.u64.wrap st = st from IntWalk.u64_in st (by omega))
  have HW2 := Lib.hid (show IntKind.u64.wrap wn = wn from IntWalk.u64_in wn (by omega))
  have HK1 := Lib.hid (show fixOk st 2 = true by simp [fixOk]; omega)
  have HK2 := Lib.hid (show fixOk wn 2 = true by simp [fixOk]; omega)
  obtain ⟨A, cap, hvt, h1, h2, h3, h4⟩ := ht
  clear h3 h4 hr hq htr
  subst hvt
  cases k
  all_goals rcases hcase with ⟨hpos, rfl, rfl⟩ | ⟨hpos, rfl, rfl⟩ | ⟨hpos, rfl, rfl⟩ | ⟨hpos, rfl, rfl⟩
  all_goals
    go_enter Tryz.func177, Tryz.ntmps177
    go_wp2_with fail
    generalize hW0 : w.alloc _ = W0
    have hbox : Box W0 w.heap.size [.int .u64 a, .int .u64 i, .int .u16 st, .int .u16 wn, .string info, .slice A trk.length cap] := by rw [← hW0]; exact Box.new w _ _
    have hx0 : Ext w W0 := by rw [← hW0]; exact (Ext.refl w).alloc _
    clear hW0
    have hE := Ext.refl W0
    have hlt : w.heap.size < W0.heap.size := World.block_lt_of_cell? W0 _ (hbox 0 (by simp))
    obtain ⟨c0, c1, c2, c3, c4, c5⟩ := hbox.six hE
    go_wp2_with (first
      | (go_at_call 191; refine (tracked_c _ _ _ _ _ _ _ _ _ HT.out).mono ?_; rintro e w1 ⟨rfl, hx1⟩; replace hE := hE.trans hx1; clear c0 c1 c2 c3 c4 c5; obtain ⟨c0, c1, c2, c3, c4, c5⟩ := hbox.six hE)
      | (go_at_call 97; (refine (clone_c _ _ _ (HR.out.ext (hx0.trans hE)) (by omega)).mono ?_; rintro e w2 ⟨v2, rfl, ho', hx2⟩; have ho := ho'.more (base' := W0.heap.size) hE.size; clear ho'; replace hE := hE.trans hx2))
      | (at_builtin; (first | refine wpl_append_one bt 0 ho (by omega) (by omega) rfl _ _ rfl rfl rfl (by omega) hE.size ?_ | refine wpl_append_one bt 254 ho (by omega) (by omega) rfl _ _ rfl rfl rfl (by omega) hE.size ?_); intro v3 w3 ho3 hb3; replace hE := hE.below hb3 (Nat.le_refl _); clear ho hb3))
    clear c0 c1 c2 c3 c4 c5
    go_region_held3 (fun W' => W'.cell? ⟨w.heap.size, 0, none⟩ = some (.int .u64 a) ∧ W'.cell? ⟨w.heap.size, 1, none⟩ = some (.int .u64 i) ∧ Ext W0 W') ((refine Box.held2 hbox (j := 0) (k := 1) (by simp) (by simp) ?_; first | exact hE | exact hE.drew))
      (first
        | ((with_reducible show Calls _ _ #[v3, _] _ _); go_at_call 183; refine (appendInt_len _ _ _ a (ho3.ext (Ext.refl _).drew).rd (by omega) (by omega) (by simp; omega)).mono ?_; rintro e w4 ⟨v4, rfl, ho', hx4⟩; have ho4 := ho'.more (base' := W0.heap.size) hE.size; clear ho'; replace hE := hE.drew.trans hx4)
        | ((with_reducible show Calls _ _ #[v4, _] _ _); go_at_call 183; refine (appendInt_len _ _ _ i ho4.rd (by omega) (by omega) (by simp; omega)).mono ?_; rintro e w5 ⟨v5, rfl, ho', hx5⟩; have ho5 := ho'.more (base' := W0.heap.size) hE.size; clear ho'; replace hE := hE.trans hx5))
    clear ho3 ho4
    go_wp2_with fail
    go_region_held3 (fun W' => W'.cell? ⟨w.heap.size, 2, none⟩ = some (.int .u16 st) ∧ W'.cell? ⟨w.heap.size, 3, none⟩ = some (.int .u16 wn) ∧ Ext W0 W') ((refine Box.held2 hbox (j := 2) (k := 3) (by simp) (by simp) ?_; first | exact hE | exact hE.drew))
      (first
        | ((with_reducible show Calls _ _ #[v5, _, _] _ _); go_at_call 176; rw [HW1.out]; refine (fixed_c _ _ _ st 2 (ho5.ext (Ext.refl _).drew).rd (by simp; omega) HK1.out).mono ?_; rintro e w6 ⟨v6, rfl, ho', hx6⟩; have ho6 := ho'.more (base' := W0.heap.size) hE.size; clear ho'; replace hE := hE.drew.trans hx6)
        | ((with_reducible show Calls _ _ #[v6, _, _] _ _); go_at_call 176; rw [HW2.out]; refine (fixed_c _ _ _ wn 2 ho6.rd (by simp; omega) HK2.out).mono ?_; rintro e w7 ⟨v7, rfl, ho', hx7⟩; have ho := ho'.more (base' := W0.heap.size) hE.size; clear ho'; replace hE := hE.trans hx7))
    clear ho5 ho6
    obtain ⟨c0, c1, c2, c3, c4, c5⟩ := hbox.six hE
    go_wp2_with (first
      | (go_at_call 189; refine (has_at _ _ _ _ HQ.out).mono ?_; rintro e wx ⟨rfl, rfl⟩)
      | (at_builtin; refine wpl_append_st bt info ho rfl _ _ rfl rfl rfl (by simp; omega) hE.size ?_; intro v8 w8 ho8 hb8; replace hE := hE.below hb8 (Nat.le_refl _); replace ho := ho8; clear ho8 hb8)
      | ((with_reducible show Calls _ _ #[_, .string info] _ _); go_at_call 149; refine (appendText_len _ _ _ info ho.rd (by omega) (by simp; omega)).mono ?_; rintro e w9 ⟨v9, rfl, ho', hx9⟩; replace ho := ho'.more (base' := W0.heap.size) hE.size; clear ho'; replace hE := hE.trans hx9; clear c0 c1 c2 c3 c4 c5; obtain ⟨c0, c1, c2, c3, c4, c5⟩ := hbox.six hE)
      | (go_at_call 191; refine (tracked_c _ _ _ _ _ _ _ _ _ HT.out).mono ?_; rintro e w10 ⟨rfl, hx10⟩; replace ho := ho.ext hx10; replace hE := hE.trans hx10; clear c0 c1 c2 c3 c4 c5; obtain ⟨c0, c1, c2, c3, c4, c5⟩ := hbox.six hE)
      | ((with_reducible show AtS 61); refine wpl_str bt (HV.out.ext (hx0.trans hE)) rfl _ rfl rfl ?_)
      | (go_at_call 149; refine (appendText_len _ _ _ (strL trk) ho.rd (by rw [strL_size]; omega) (by simp; omega)).mono ?_; rintro e w11 ⟨v11, rfl, ho', hx11⟩; replace ho := ho'.more (base' := W0.heap.size) hE.size; clear ho'; replace hE := hE.trans hx11))
    go_ret2
    refine ⟨_, rfl, ?_, hx0.trans hE⟩
    have := ho.more (base' := w.heap.size) (by omega)
    simpa [okHead, okTail, HQ.out, HT.out, strL_toList] using this
end Go.Proofs.YtbodppfpmpmadaaGreat

namespace Go.Proofs.YtbodppfpmpmadaaGreat
open Go.RowKit

def rF (n : Int) (s : List UInt8 × Int) : Int × (List UInt8 × Int) := if s.2 = 0 then (if (readF s.1 n).2 = 0 then ((readF s.1 n).1, (s.1.drop n.toNat, 0)) else ((readF s.1 n).1, (s.1, (readF s.1 n).2))) else (0, s)
def rI (s : List UInt8 × Int) : Int × (List UInt8 × Int) := if s.2 = 0 then (if (readI s.1).2.2 = 0 then ((readI s.1).1, (s.1.drop (readI s.1).2.1, 0)) else ((readI s.1).1, (s.1, (readI s.1).2.2))) else (0, s)
def rT (s : List UInt8 × Int) : List UInt8 × (List UInt8 × Int) := if s.2 = 0 then (if (readT s.1).2.2 = 0 then ((readT s.1).1, (s.1.drop (readT s.1).2.1, 0)) else ((readT s.1).1, (s.1, (readT s.1).2.2))) else ([], s)
def rW (bad : Bool) (s : List UInt8 × Int) : List UInt8 × Int := if s.2 = 0 ∧ bad = true then (s.1, 5) else s
def rO (s : List UInt8 × Int) : List UInt8 × Int := rW (decide (0 < s.1.length)) s

def RetR (a w : World) (g : Nat) (v : Value) (s : List UInt8 × Int) (e : Ending) (w' : World) : Prop := e = .returned v ∧ Rdr a w' g s ∧ On g w w'
end Go.Proofs.YtbodppfpmpmadaaGreat

namespace Go.Proofs.YtbodppfpmpmadaaGreat

theorem readI_take (x : Int) (i : Nat) (h : i < (intB x).length) : readI ((intB x).take i) = (0, 0, 4) := by
  rcases i with _ | j
  · rfl
  · rcases intB_cases x with ⟨_, e, _⟩ | ⟨_, _, e, _⟩ | ⟨_, _, e, _⟩ | ⟨_, e, _⟩
    all_goals rw [e] at h ⊢
    · rw [fixB_length] at h
      omega
    all_goals
      rw [List.length_cons, fixB_length] at h
      rw [List.take_succ_cons]
    · rw [readI_wide 252 2 (.inl ⟨rfl, rfl⟩), if_pos (by rw [List.length_take]; omega)]
    · rw [readI_wide 253 3 (.inr (.inl ⟨rfl, rfl⟩)), if_pos (by rw [List.length_take]; omega)]
    · rw [readI_wide 254 8 (.inr (.inr ⟨rfl, rfl⟩)), if_pos (by rw [List.length_take]; omega)]

theorem readT_textB (s t : List UInt8) (h : (s.length : Int) < 18446744073709551616) : readT (textB s ++ t) = (s, sizeI s.length + s.length, 0) := by
  have hi := readI_intB (s.length : Int) (by omega) h (s ++ t)
  have e : textB s ++ t = intB (s.length : Int) ++ (s ++ t) := by rw [textB, List.append_assoc]
  have hl := intB_length (s.length : Int)
  rw [e]
  unfold readT
  rw [hi]
  refine (if_pos rfl).trans ((if_neg ?_).trans ?_)
  · dsimp only
    rw [List.length_append, List.length_append, hl]
    omega
  · have e2 : sizeI (s.length : Int) + ((s.length : Nat) : Int).toNat = (intB (s.length : Int)).length + s.length := by rw [hl, Int.toNat_natCast]
    simp only [Int.toNat_natCast] at e2 ⊢
    rw [e2, List.take_length_add_append, List.take_left, ← hl, List.drop_left]

theorem readZ_ended (s t : List UInt8) (h : s.contains 0 = false) : readZ (s ++ [0] ++ t) = (s, s.length + 1, 0) := by
  have hu : upZ (s ++ [0] ++ t) = s := by
    unfold upZ
    rw [List.append_assoc, List.takeWhile_append_of_pos]
    · simp
    · intro a ha
      have : a ≠ 0 := by
        rintro rfl
        have := List.contains_iff_mem.2 ha
        rw [h] at this
        cases this
      simpa using this
  unfold readZ
  rw [if_pos (by simp), hu]
end Go.Proofs.YtbodppfpmpmadaaGreat

namespace Go.Proofs.YtbodppfpmpmadaaGreat
open Go.RowKit

theorem hasR_at (w : World) (c x : Int) (r : Bool) (h : hasB c x = r) :
    Calls Tryz.prog 104 #[.int .u32 c, .int .u32 x] w fun e w' => e = .returned (.bool r) ∧ w = w' := by
  have H := Lib.hid h
  clear h
  go_enter Tryz.func104, Tryz.ntmps104
  go_wp2_with fail
  go_ret
  rw [← H.out]
  exact ⟨rfl, rfl⟩

set_option maxHeartbeats 400000 in
theorem trackR_c (w : World) (c st : Int) (r : Bool) (h : trackB c st = r) :
    Calls Tryz.prog 132 #[.int .u32 c, .int .u16 st] w fun e w' => e = .returned (.bool r) ∧ w = w' := by
  cases hk : hasB c 8388608 with
  | false =>
    have hr : r = false := by rw [← h]; simp [trackB, hk]
    subst hr
    have HK := Lib.hid hk
    clear hk h
    go_enter Tryz.func132, Tryz.ntmps132
    go_wp2_with (go_at_call 104; refine (hasR_at _ _ _ false HK.out).mono ?_; rintro e w1 ⟨rfl, rfl⟩)
    go_ret
    exact ⟨rfl, rfl⟩
  | true =>
    have hr : (bits .and .u16 st 16384 != 0) = r := by rw [← h]; simp [trackB, hk]
    have HK := Lib.hid hk
    have HQ := Lib.hid hr
    clear hk h hr
    go_enter Tryz.func132, Tryz.ntmps132
    go_wp2_with (go_at_call 104; refine (hasR_at _ _ _ true HK.out).mono ?_; rintro e w1 ⟨rfl, rfl⟩)
    go_ret
    rw [← HQ.out]
    exact ⟨rfl, rfl⟩

end Go.Proofs.YtbodppfpmpmadaaGreat

