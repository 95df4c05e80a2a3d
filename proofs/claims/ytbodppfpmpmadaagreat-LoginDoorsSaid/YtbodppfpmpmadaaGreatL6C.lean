import Derived.Test.YtbodppfpmpmadaaGreatL5C
import Derived.Test.YtbodppfpmpmadaaGreatL3C
import Derived.Test.YtbodppfpmpmadaaGreatL1C
import Derived.IntWalk
import Derived.Test.YtbodppfpmpmadaaGreatL2C
import Derived.Laws.OwnMore
namespace Go.Proofs.YtbodppfpmpmadaaGreat
open Go.RowKit

theorem fixOk_1 (x : Int) (h0 : 0 ≤ x) (h : x < 256) : fixOk x 1 = true := by
  simp [fixOk]; omega
theorem fixOk_2 (x : Int) (h0 : 0 ≤ x) (h : x < 65536) : fixOk x 2 = true := by
  simp [fixOk]; omega
theorem fixOk_3 (x : Int) (h0 : 0 ≤ x) (h : x < 16777216) : fixOk x 3 = true := by
  simp [fixOk]; omega
theorem fixOk_8 (x : Int) (_h0 : 0 ≤ x) (_h : x < 18446744073709551616) : fixOk x 8 = true := by
  simp [fixOk]
theorem fixB_one (x : Int) (h0 : 0 ≤ x) (h : x < 256) : fixB x 1 = [UInt8.ofNat x.toNat] := by
  have : x % 256 = x := Int.emod_eq_of_lt h0 h
  simp [fixB, this]

set_option maxHeartbeats 1000000 in
theorem appendInt_len (w : World) (v : Value) (l : List UInt8) (x : Int) (hr : Rd w v l) (hx0 : 0 ≤ x) (hx9 : x < 18446744073709551616) (hl : l.length ≤ 8000000) :
    Calls Tryz.prog 183 #[v, .int .u64 x] w (RetB w (l ++ intB x)) := by
  have HR := Lib.hid hr
  clear hr
  rcases size_cases x with ⟨h, hs⟩ | ⟨h, h2, hs⟩ | ⟨h, h2, hs⟩ | ⟨h, hs⟩
  · have HE := Lib.hid (show intB x = fixB x 1 by unfold intB; rw [if_pos h])
    have HK := Lib.hid (show fixOk x 1 = true from fixOk_1 x hx0 (by omega))
    have HS := Lib.hid hs
    clear hs
    go_enter Tryz.func183, Tryz.ntmps183
    go_wp2_with (first | (go_at_call 203; refine (form_c _ _ 0 1 (by first | exact .inl ⟨by assumption, rfl, rfl⟩ | exact .inr (.inl ⟨by assumption, by assumption, rfl, rfl⟩) | exact .inr (.inr (.inl ⟨by assumption, by assumption, rfl, rfl⟩)) | exact .inr (.inr (.inr ⟨by assumption, rfl, rfl⟩)))).mono ?_; rintro e w0 ⟨rfl, rfl⟩) | (go_at_call 97; refine (clone_c _ _ _ HR.out (by omega)).mono ?_; rintro e w1 ⟨v1, rfl, ho1, hx1⟩) | (go_at_call 153; refine (appendFixed_good_len _ _ _ _ _ ho1.rd (by first | omega | (simp; omega)) HK.out).mono ?_; rintro e w3 ⟨v3, rfl, ho3, hx3⟩))
    go_ret
    refine ⟨_, rfl, ?_, hx1.trans hx3⟩
    rw [HE.out]
    exact ho3.more (Ext.size hx1)
  · have HE := Lib.hid (show intB x = 252 :: fixB x 2 by unfold intB; rw [if_neg (by omega), if_pos h2])
    have HK := Lib.hid (show fixOk x 2 = true from fixOk_2 x hx0 (by omega))
    have HS := Lib.hid hs
    clear hs
    go_enter Tryz.func183, Tryz.ntmps183
    go_wp2_with (first | (go_at_call 203; refine (form_c _ _ 252 2 (by first | exact .inl ⟨by assumption, rfl, rfl⟩ | exact .inr (.inl ⟨by assumption, by assumption, rfl, rfl⟩) | exact .inr (.inr (.inl ⟨by assumption, by assumption, rfl, rfl⟩)) | exact .inr (.inr (.inr ⟨by assumption, rfl, rfl⟩)))).mono ?_; rintro e w0 ⟨rfl, rfl⟩) | (go_at_call 97; refine (clone_c _ _ _ HR.out (by omega)).mono ?_; rintro e w1 ⟨v1, rfl, ho1, hx1⟩) | (at_builtin; refine wpl_append_one bt 252 ho1 (by omega) (by omega) rfl _ _ rfl rfl rfl (by omega) (Ext.size hx1) ?_; intro v2 w2 ho2 hb2) | (go_at_call 153; refine (appendFixed_good_len _ _ _ _ _ ho2.rd (by first | omega | (simp; omega)) HK.out).mono ?_; rintro e w3 ⟨v3, rfl, ho3, hx3⟩))
    go_ret
    refine ⟨_, rfl, ?_, (hx1.below hb2 (Nat.le_refl _)).trans hx3⟩
    rw [HE.out]
    have e : l ++ (252 :: fixB x 2) = l ++ [UInt8.ofNat (252 : Int).toNat] ++ fixB x (2 : Int).toNat := by rw [List.append_assoc]; rfl
    rw [e]
    exact ho3.more (Ext.size (hx1.below hb2 (Nat.le_refl _)))
  · have HE := Lib.hid (show intB x = 253 :: fixB x 3 by unfold intB; rw [if_neg (by omega), if_neg (by omega), if_pos h2])
    have HK := Lib.hid (show fixOk x 3 = true from fixOk_3 x hx0 (by omega))
    have HS := Lib.hid hs
    clear hs
    go_enter Tryz.func183, Tryz.ntmps183
    go_wp2_with (first | (go_at_call 203; refine (form_c _ _ 253 3 (by first | exact .inl ⟨by assumption, rfl, rfl⟩ | exact .inr (.inl ⟨by assumption, by assumption, rfl, rfl⟩) | exact .inr (.inr (.inl ⟨by assumption, by assumption, rfl, rfl⟩)) | exact .inr (.inr (.inr ⟨by assumption, rfl, rfl⟩)))).mono ?_; rintro e w0 ⟨rfl, rfl⟩) | (go_at_call 97; refine (clone_c _ _ _ HR.out (by omega)).mono ?_; rintro e w1 ⟨v1, rfl, ho1, hx1⟩) | (at_builtin; refine wpl_append_one bt 253 ho1 (by omega) (by omega) rfl _ _ rfl rfl rfl (by omega) (Ext.size hx1) ?_; intro v2 w2 ho2 hb2) | (go_at_call 153; refine (appendFixed_good_len _ _ _ _ _ ho2.rd (by first | omega | (simp; omega)) HK.out).mono ?_; rintro e w3 ⟨v3, rfl, ho3, hx3⟩))
    go_ret
    refine ⟨_, rfl, ?_, (hx1.below hb2 (Nat.le_refl _)).trans hx3⟩
    rw [HE.out]
    have e : l ++ (253 :: fixB x 3) = l ++ [UInt8.ofNat (253 : Int).toNat] ++ fixB x (3 : Int).toNat := by rw [List.append_assoc]; rfl
    rw [e]
    exact ho3.more (Ext.size (hx1.below hb2 (Nat.le_refl _)))
  · have HE := Lib.hid (show intB x = 254 :: fixB x 8 by unfold intB; rw [if_neg (by omega), if_neg (by omega), if_neg (by omega)])
    have HK := Lib.hid (show fixOk x 8 = true from fixOk_8 x hx0 (by omega))
    have HS := Lib.hid hs
    clear hs
    go_enter Tryz.func183, Tryz.ntmps183
    go_wp2_with (first | (go_at_call 203; refine (form_c _ _ 254 8 (by first | exact .inl ⟨by assumption, rfl, rfl⟩ | exact .inr (.inl ⟨by assumption, by assumption, rfl, rfl⟩) | exact .inr (.inr (.inl ⟨by assumption, by assumption, rfl, rfl⟩)) | exact .inr (.inr (.inr ⟨by assumption, rfl, rfl⟩)))).mono ?_; rintro e w0 ⟨rfl, rfl⟩) | (go_at_call 97; refine (clone_c _ _ _ HR.out (by omega)).mono ?_; rintro e w1 ⟨v1, rfl, ho1, hx1⟩) | (at_builtin; refine wpl_append_one bt 254 ho1 (by omega) (by omega) rfl _ _ rfl rfl rfl (by omega) (Ext.size hx1) ?_; intro v2 w2 ho2 hb2) | (go_at_call 153; refine (appendFixed_good_len _ _ _ _ _ ho2.rd (by first | omega | (simp; omega)) HK.out).mono ?_; rintro e w3 ⟨v3, rfl, ho3, hx3⟩))
    go_ret
    refine ⟨_, rfl, ?_, (hx1.below hb2 (Nat.le_refl _)).trans hx3⟩
    rw [HE.out]
    have e : l ++ (254 :: fixB x 8) = l ++ [UInt8.ofNat (254 : Int).toNat] ++ fixB x (8 : Int).toNat := by rw [List.append_assoc]; rfl
    rw [e]
    exact ho3.more (Ext.size (hx1.below hb2 (Nat.le_refl _)))

set_option maxHeartbeats 1000000 in
theorem appendInt_ref (w : World) (v : Value) (l : List UInt8) (x : Int) (hr : Rd w v l) (hx0 : 0 ≤ x) (hx9 : x < 18446744073709551616) (hl : l.length ≤ 8000000) :
    Calls Tryz.prog 164 #[v, .int .u64 x] w (RetB w (l ++ intB x)) := by
  have HR := Lib.hid hr
  clear hr
  rcases size_cases x with ⟨h, hs⟩ | ⟨h, h2, hs⟩ | ⟨h, h2, hs⟩ | ⟨h, hs⟩
  · have HE := Lib.hid (show intB x = fixB x 1 by unfold intB; rw [if_pos h])
    have HK := Lib.hid (show fixOk x 1 = true from fixOk_1 x hx0 (by omega))
    have HS := Lib.hid hs
    clear hs
    go_enter Tryz.func164, Tryz.ntmps164
    go_wp2_with (first | (go_at_call 185; refine (size_ref _ _).mono ?_; rintro e w0 ⟨rfl, rfl⟩; rw [HS.out]) | (at_builtin; refine wpl_clone bt HR.out rfl _ _ rfl rfl rfl (by omega) ?_; intro v1 w1 ho1 hx1) | (at_builtin; refine wpl_append_one bt x ho1 hx0 (by omega) rfl _ _ rfl rfl rfl (by omega) (Ext.size hx1) ?_; intro v2 w2 ho2 hb2))
    go_ret
    refine ⟨_, rfl, ?_, hx1.below hb2 (Nat.le_refl _)⟩
    rw [HE.out, fixB_one x hx0 (by omega)]
    exact ho2
  · have HE := Lib.hid (show intB x = 252 :: fixB x 2 by unfold intB; rw [if_neg (by omega), if_pos h2])
    have HK := Lib.hid (show fixOk x 2 = true from fixOk_2 x hx0 (by omega))
    have HS := Lib.hid hs
    clear hs
    go_enter Tryz.func164, Tryz.ntmps164
    go_wp2_with (first | (go_at_call 185; refine (size_ref _ _).mono ?_; rintro e w0 ⟨rfl, rfl⟩; rw [HS.out]) | (at_builtin; refine wpl_clone bt HR.out rfl _ _ rfl rfl rfl (by omega) ?_; intro v1 w1 ho1 hx1) | (at_builtin; refine wpl_append_one bt 252 ho1 (by omega) (by omega) rfl _ _ rfl rfl rfl (by omega) (Ext.size hx1) ?_; intro v2 w2 ho2 hb2) | (go_at_call 158; refine (appendFixed_good_ref _ _ _ _ _ ho2.rd (by first | omega | (simp; omega)) HK.out).mono ?_; rintro e w3 ⟨v3, rfl, ho3, hx3⟩))
    go_ret
    refine ⟨_, rfl, ?_, (hx1.below hb2 (Nat.le_refl _)).trans hx3⟩
    rw [HE.out]
    have e : l ++ (252 :: fixB x 2) = l ++ [UInt8.ofNat (252 : Int).toNat] ++ fixB x (2 : Int).toNat := by rw [List.append_assoc]; rfl
    rw [e]
    exact ho3.more (Ext.size (hx1.below hb2 (Nat.le_refl _)))
  · have HE := Lib.hid (show intB x = 253 :: fixB x 3 by unfold intB; rw [if_neg (by omega), if_neg (by omega), if_pos h2])
    have HK := Lib.hid (show fixOk x 3 = true from fixOk_3 x hx0 (by omega))
    have HS := Lib.hid hs
    clear hs
    go_enter Tryz.func164, Tryz.ntmps164
    go_wp2_with (first | (go_at_call 185; refine (size_ref _ _).mono ?_; rintro e w0 ⟨rfl, rfl⟩; rw [HS.out]) | (at_builtin; refine wpl_clone bt HR.out rfl _ _ rfl rfl rfl (by omega) ?_; intro v1 w1 ho1 hx1) | (at_builtin; refine wpl_append_one bt 253 ho1 (by omega) (by omega) rfl _ _ rfl rfl rfl (by omega) (Ext.size hx1) ?_; intro v2 w2 ho2 hb2) | (go_at_call 158; refine (appendFixed_good_ref _ _ _ _ _ ho2.rd (by first | omega | (simp; omega)) HK.out).mono ?_; rintro e w3 ⟨v3, rfl, ho3, hx3⟩))
    go_ret
    refine ⟨_, rfl, ?_, (hx1.below hb2 (Nat.le_refl _)).trans hx3⟩
    rw [HE.out]
    have e : l ++ (253 :: fixB x 3) = l ++ [UInt8.ofNat (253 : Int).toNat] ++ fixB x (3 : Int).toNat := by rw [List.append_assoc]; rfl
    rw [e]
    exact ho3.more (Ext.size (hx1.below hb2 (Nat.le_refl _)))
  · have HE := Lib.hid (show intB x = 254 :: fixB x 8 by unfold intB; rw [if_neg (by omega), if_neg (by omega), if_neg (by omega)])
    have HK := Lib.hid (show fixOk x 8 = true from fixOk_8 x hx0 (by omega))
    have HS := Lib.hid hs
    clear hs
    go_enter Tryz.func164, Tryz.ntmps164
    go_wp2_with (first | (go_at_call 185; refine (size_ref _ _).mono ?_; rintro e w0 ⟨rfl, rfl⟩; rw [HS.out]) | (at_builtin; refine wpl_clone bt HR.out rfl _ _ rfl rfl rfl (by omega) ?_; intro v1 w1 ho1 hx1) | (at_builtin; refine wpl_append_one bt 254 ho1 (by omega) (by omega) rfl _ _ rfl rfl rfl (by omega) (Ext.size hx1) ?_; intro v2 w2 ho2 hb2) | (go_at_call 158; refine (appendFixed_good_ref _ _ _ _ _ ho2.rd (by first | omega | (simp; omega)) HK.out).mono ?_; rintro e w3 ⟨v3, rfl, ho3, hx3⟩))
    go_ret
    refine ⟨_, rfl, ?_, (hx1.below hb2 (Nat.le_refl _)).trans hx3⟩
    rw [HE.out]
    have e : l ++ (254 :: fixB x 8) = l ++ [UInt8.ofNat (254 : Int).toNat] ++ fixB x (8 : Int).toNat := by rw [List.append_assoc]; rfl
    rw [e]
    exact ho3.more (Ext.size (hx1.below hb2 (Nat.le_refl _)))
end Go.Proofs.YtbodppfpmpmadaaGreat

namespace Go.Proofs.YtbodppfpmpmadaaGreat
open Go.RowKit

def hasB (c x : Int) : Bool := bits .and .u32 c x != 0

theorem has_at (w : World) (c x : Int) (r : Bool) (h : hasB c x = r) :
    Calls Tryz.prog 189 #[.int .u32 c, .int .u32 x] w fun e w' => e = .returned (.bool r) ∧ w = w' := by
  have H := Lib.hid h
  clear h
  go_enter Tryz.func189, Tryz.ntmps189
  go_wp2_with fail
  go_ret
  rw [← H.out]
  exact ⟨rfl, rfl⟩

theorem fixed_c (w : World) (v : Value) (l : List UInt8) (x n : Int) (hr : Rd w v l) (hl : l.length ≤ 9000000) (h : fixOk x n = true) :
    Calls Tryz.prog 176 #[v, .int .u64 x, .int .i64 n] w (RetB w (l ++ fixB x n.toNat)) := by
  have HR := Lib.hid hr
  have HK := Lib.hid h
  clear hr h
  go_enter Tryz.func176, Tryz.ntmps176
  go_wp2_with (go_at_call 153; refine (appendFixed_good_len _ _ _ _ _ HR.out hl HK.out).mono ?_; rintro e w1 ⟨v1, rfl, ho, hx⟩)
  go_ret
  exact ⟨_, rfl, ho, hx⟩

def errB (c : Int) (s t : List UInt8) : List UInt8 := [255] ++ fixB c 2 ++ [35] ++ s ++ t

theorem Box.held0 {W0 W : World} {g : Nat} {cs : List Value} {v : Value} (h : Box W0 g cs) (hv : cs.head? = some v) (k : Ext W0 W) : W.cell? ⟨g, 0, none⟩ = some v ∧ Ext W0 W := by
  cases cs with
  | nil => simp at hv
  | cons a b => simp at hv; subst hv; exact ⟨(h.ext k) 0 (by simp), k⟩

theorem Box.held2 {W0 W : World} {g j k : Nat} {cs : List Value} {v u : Value} (h : Box W0 g cs) (hv : cs[j]? = some v) (hu : cs[k]? = some u) (e : Ext W0 W) : W.cell? ⟨g, j, none⟩ = some v ∧ W.cell? ⟨g, k, none⟩ = some u ∧ Ext W0 W := by
  obtain ⟨hj, hv⟩ := List.getElem?_eq_some_iff.1 hv
  obtain ⟨hk, hu⟩ := List.getElem?_eq_some_iff.1 hu
  have h1 := (h.ext e) j hj
  have h2 := (h.ext e) k hk
  simp [List.getD, hj, hv] at h1
  simp [List.getD, hk, hu] at h2
  exact ⟨h1, h2, e⟩

set_option maxRecDepth 100000 in
set_option maxHeartbeats 1000000 in
theorem appendErr_good (w : World) (v : Value) (l : List UInt8) (c : Int) (s t : ByteArray) (hr : Rd w v l) (hl : l.length ≤ 1000000) (h : s.size = 5) (ht : t.size ≤ 1000000) (hc : 0 ≤ c ∧ c < 65536) :
    Calls Tryz.prog 138 #[v, .agg #[.int .u16 c, .string s, .string t]] w (RetBE w (l ++ errB c s.data.toList t.data.toList) 0) := by
  have HR := Lib.hid hr
  clear hr
  have hb : ((s.size : Int) == 5) = true := by simp [h]
  have HW := Lib.hid (show IntKind.u64.wrap c = c from IntWalk.u64_in c (by omega))
  have HK := Lib.hid (show fixOk c 2 = true by simp [fixOk]; omega)
  go_enter Tryz.func138, Tryz.ntmps138
  go_wp2_with fail
  generalize hW0 : w.alloc _ = W0
  have hbox : Box W0 w.heap.size [.int .u16 c, .string s, .string t] := by rw [← hW0]; exact Box.new w _ _
  have hx0 : Ext w W0 := by rw [← hW0]; exact (Ext.refl w).alloc _
  clear hW0
  have hlt : w.heap.size < W0.heap.size := World.block_lt_of_cell? W0 _ (hbox 0 (by simp))
  go_region_held3 (fun W' => W'.cell? ⟨w.heap.size, 0, none⟩ = some (.int .u16 c) ∧ Ext W0 W') ((go_split_ands; refine Box.held0 hbox (by simp) ?_; first | exact (Ext.refl _).drew | exact ((Ext.refl _).alloc _).drew | exact Ext.trans (by assumption) hx1 | exact Ext.below (by assumption) hb2 (Nat.le_refl _) | exact Ext.trans (by assumption) hx3 | exact Ext.alloc (by assumption) _))
    (first
      | (go_at_call 97; go_must (go_split_ands; refine (clone_c _ _ _ (HR.out.ext (hx0.trans (by assumption))) ?_).mono ?_; omega; rintro e w1 ⟨v1, rfl, ho1', hx1⟩; have ho1 := ho1'.more (base' := W0.heap.size) (Ext.size (by assumption)); clear ho1'))
      | (go_at_call 176; rw [HW.out]; go_must (go_split_ands; refine (fixed_c _ _ _ c 2 ho2.rd ?_ HK.out).mono ?_; (simp; omega); rintro e w3 ⟨v3, rfl, ho3', hx3⟩; have ho3 := ho3'.more (base' := W0.heap.size) (Ext.size (by assumption)); clear ho3'))
      | ((with_reducible show (if Region.wanted (⟨some 14, _, _, _, _, _⟩ : Oper) _ = true then _ else _)); go_split_ands; refine step_append_rd bt (ho1.ext ((Ext.refl _).alloc _)) (rd_lit w1 _ [255] (by rfl) (by simp) 1 _ (by rfl) (by rfl)) (by rfl) _ _ (by rfl) (by rfl) (by rfl) ?_ ?_ ?_; (simp; omega); (exact Ext.size (by assumption)); intro v2 w2 ho2 hb2)
      | ((with_reducible show (if Region.wanted (⟨some 14, _, _, _, _, _⟩ : Oper) _ = true then _ else _)); go_split_ands; refine step_append_rd bt ho1 ((rd_lit _ _ [255] (by rfl) (by simp) 1 _ (by rfl) (by rfl)).ext ((Ext.refl _).drew.trans hx1)) (by rfl) _ _ (by rfl) (by rfl) (by rfl) ?_ ?_ ?_; (simp; omega); (exact Ext.size (by assumption)); intro v2 w2 ho2 hb2))
  all_goals
    go_split_ands
    rename Ext W0 w3 => hx03
    have hc1 := (hbox.ext hx03) 1 (by simp)
    have hc2 := (hbox.ext hx03) 2 (by simp)
    have hf : (fixB c 2).length = 2 := fixB_length c 2
    clear hx1 hb2 hx3 ho1 ho2
    go_wp2_with fail
    go_region_held3 (fun W' => W'.cell? ⟨w.heap.size, 1, none⟩ = some (.string s) ∧ W'.cell? ⟨w.heap.size, 2, none⟩ = some (.string t) ∧ Ext W0 W') ((go_split_ands; refine Box.held2 hbox (j := 1) (k := 2) (by simp) (by simp) ?_; first | exact hx03.drew | exact (hx03.alloc _).drew | exact Ext.below (by assumption) hb4 (Nat.le_refl _)))
      (first
        | ((with_reducible show (if Region.wanted (⟨some 21, _, _, _, _, _⟩ : Oper) _ = true then _ else _)); go_split_ands; refine step_append_rd bt (ho3.ext (((Ext.refl _).alloc _).drew)) ((rd_lit w3 _ [35] (by rfl) (by simp) 1 _ (by rfl) (by rfl)).ext (Ext.refl _).drew) (by rfl) _ _ (by rfl) (by rfl) (by rfl) ?_ ?_ ?_; (simp; omega); (exact Ext.size (by assumption)); intro v4 w4 ho4 hb4)
        | ((with_reducible show (if Region.wanted (⟨some 24, _, _, _, _, _⟩ : Oper) _ = true then _ else _)); go_split_ands; refine step_append_st bt s ho4 (by rfl) _ _ (by rfl) (by rfl) (by rfl) ?_ ?_ ?_; (simp; omega); (exact Ext.size (by assumption)); clear hb4; intro v5 w5 ho5 hb4)
        | ((with_reducible show (if Region.wanted (⟨some 27, _, _, _, _, _⟩ : Oper) _ = true then _ else _)); go_split_ands; refine step_append_st bt t ho5 (by rfl) _ _ (by rfl) (by rfl) (by rfl) ?_ ?_ ?_; (simp; omega); (exact Ext.size (by assumption)); clear hb4; intro v6 w6 ho6 hb4))
    go_split_ands
    rename Ext W0 w6 => hx06
    clear hb4 ho5 ho4
    go_wp2_with fail
    go_ret2
    refine ⟨_, rfl, ?_, hx0.trans hx06⟩
    have := ho6.more (base' := w.heap.size) (by omega)
    simpa [errB] using this
end Go.Proofs.YtbodppfpmpmadaaGreat

namespace Go.Proofs.YtbodppfpmpmadaaGreat
open Go.RowKit

def respPl (pl pw n : List UInt8) : List UInt8 := if pl == fastL then respP 2 pw n else respP 1 pw n
set_option maxHeartbeats 1000000 in
theorem dresponse_c (w : World) (pl pw : List UInt8) (vn : Value) (n : List UInt8) (hp : pw.length ≤ 1000000) (hn : Rd w vn n) :
    Calls Tryz.prog 123 #[.string (strL pl), .string (strL pw), vn] w fun e w' => ∃ v', e = .returned v' ∧ Rd w' v' (respPl pl pw n) ∧ Ext w w' := by
  have HN := Lib.hid hn
  have HP := Lib.hid (show (strL pw).size ≤ 1000000 by rw [strL_size]; exact hp)
  obtain ⟨q5, e5⟩ : ∃ q, q = (pl == fastL) := ⟨_, rfl⟩
  have g5 : ((strL pl).toList == [99, 97, 99, 104, 105, 110, 103, 95, 115, 104, 97, 50, 95, 112, 97, 115, 115, 119, 111, 114, 100]) = q5 := by rw [strL_tl]; exact e5.symm
  unfold respPl
  rw [← e5]
  clear e5 hn
  cases q5 with
  | true =>
    go_enter Tryz.func123, Tryz.ntmps123
    go_wp2_with (first
      | (go_at_call 168; refine (fast_c _ (strL pw) _ n HP.out HN.out).mono ?_; rintro e w1 ⟨v1, rfl, hr1, hx1⟩)
      | fail)
    go_ret
    exact ⟨_, rfl, hr1, hx1⟩
  | false =>
    go_enter Tryz.func123, Tryz.ntmps123
    go_wp2_with (first
      | (go_at_call 50; refine (ntv_c _ (strL pw) _ n HP.out HN.out).mono ?_; rintro e w1 ⟨v1, rfl, hr1, hx1⟩)
      | fail)
    go_ret
    exact ⟨_, rfl, hr1, hx1⟩
end Go.Proofs.YtbodppfpmpmadaaGreat

namespace Go.Proofs.YtbodppfpmpmadaaGreat
open Go.RowKit

def ListsN (w : World) (base : Nat) (v : Value) (ls : List (List UInt8)) : Prop :=
  ∃ (A : Option Addr) (cap : Nat), v = .slice A ls.length cap ∧ ls.length ≤ cap ∧ cap ≤ maxLen ∧
    (ls ≠ [] → ∃ b o, A = some ⟨b, o, none⟩ ∧ base ≤ b ∧ ∀ j, j < ls.length → ∃ u, w.cell? ⟨b, o + j, none⟩ = some u ∧ Own w base u (ls.getD j []))
theorem ListsN.lists {w : World} {base : Nat} {v : Value} {ls : List (List UInt8)} (h : ListsN w base v ls) : Lists w v ls := by
  obtain ⟨A, cap, h1, h2, h3, h4⟩ := h
  refine ⟨A, cap, h1, h2, h3, fun hn => ?_⟩
  obtain ⟨b, o, hA, _, hc⟩ := h4 hn
  refine ⟨b, o, hA, fun j hj => ?_⟩
  obtain ⟨u, hu, ho⟩ := hc j hj
  exact ⟨u, hu, ho.rd⟩
theorem own_far {g base : Nat} {w w' : World} {v : Value} {l : List UInt8} (h : Own w base v l) (k : On g w w') (hg : g < base) : Own w' base v l :=
  World.ownsRow.kept h k (.inr (fun e => by have := (World.ownsRow.lt h g e).1; omega))
theorem ListsN.on {g : Nat} {w w' : World} {base : Nat} {v : Value} {ls : List (List UInt8)} (h : ListsN w base v ls) (k : On g w w') (hg : g < base) : ListsN w' base v ls := by
  obtain ⟨A, cap, h1, h2, h3, h4⟩ := h
  refine ⟨A, cap, h1, h2, h3, fun hn => ?_⟩
  obtain ⟨b, o, hA, hb, hc⟩ := h4 hn
  refine ⟨b, o, hA, hb, fun j hj => ?_⟩
  obtain ⟨u, hu, ho⟩ := hc j hj
  exact ⟨u, k.cell hu (by show b ≠ g; omega), own_far ho k hg⟩
theorem ListsN.more {w : World} {base base' : Nat} {v : Value} {ls : List (List UInt8)} (h : ListsN w base v ls) (hb : base' ≤ base) : ListsN w base' v ls := by
  obtain ⟨A, cap, h1, h2, h3, h4⟩ := h
  refine ⟨A, cap, h1, h2, h3, fun hn => ?_⟩
  obtain ⟨b, o, hA, hB, hc⟩ := h4 hn
  refine ⟨b, o, hA, by omega, fun j hj => ?_⟩
  obtain ⟨u, hu, ho⟩ := hc j hj
  exact ⟨u, hu, ho.more hb⟩
theorem lists_one {w : World} {base g : Nat} {u : Value} {l : List UInt8} (hg : base ≤ g) (hb : w.cell? ⟨g, 0, none⟩ = some u) (hr : Own w base u l) : ListsN w base (.slice (some ⟨g, 0, none⟩) 1 1) [l] := by
  refine ⟨_, 1, rfl, Nat.le_refl _, by unfold maxLen; simp, fun _ => ⟨g, 0, rfl, hg, fun j hj => ?_⟩⟩
  have e : j = 0 := by simpa using hj
  subst e
  exact ⟨u, hb, hr⟩
def RetL (w : World) (ls : List (List UInt8)) (e : Ending) (w' : World) : Prop := ∃ v, e = .returned v ∧ ListsN w' w.heap.size v ls ∧ Ext w w'
set_option maxHeartbeats 1000000 in
theorem wrong_c (w : World) (c : Int) (s t : ByteArray) (hs : s.size = 5) (ht : t.size ≤ 1000000) (hc : 0 ≤ c ∧ c < 65536) :
    Calls Tryz.prog 86 #[.int .u16 c, .string s, .string t] w (RetL w [errB c s.data.toList t.data.toList]) := by
  have HS := Lib.hid hs
  have HT := Lib.hid ht
  have HC := Lib.hid hc
  clear hs ht hc
  go_enter Tryz.func86, Tryz.ntmps86
  go_wp2_with (go_at_call 138; refine (appendErr_good _ _ [] c s t (Rd.nil _) (by simp) HS.out HT.out HC.out).mono ?_; rintro e w1 ⟨v1, rfl, ho1, hx1⟩; obtain ⟨A1, c1, hv1, _⟩ := id ho1.rd; subst hv1)
  go_ret
  refine ⟨_, rfl, lists_one (u := _) (Ext.size hx1) (Box.new w1 [_] _ 0 (by simp)) (ho1.ext ((Ext.refl _).alloc _)), hx1.trans ((Ext.refl _).alloc _)⟩
def oddL : List UInt8 := errB 1043 [48, 56, 83, 48, 49] [98, 97, 100, 32, 104, 97, 110, 100, 115, 104, 97, 107, 101]
def refusedL : List UInt8 := errB 1045 [50, 56, 48, 48, 48] [97, 99, 99, 101, 115, 115, 32, 100, 101, 110, 105, 101, 100]
theorem odd_c (w : World) : Calls Tryz.prog 42 #[] w (RetL w [oddL]) := by
  go_enter Tryz.func42, Tryz.ntmps42
  go_wp2_with (go_at_call 86; refine (wrong_c _ 1043 _ _ rfl (by decide) (by omega)).mono ?_; rintro e w1 ⟨v1, rfl, hl1, hx1⟩)
  go_ret
  exact ⟨_, rfl, hl1, hx1⟩
theorem refused_c (w : World) : Calls Tryz.prog 89 #[] w (RetL w [refusedL]) := by
  go_enter Tryz.func89, Tryz.ntmps89
  go_wp2_with (go_at_call 86; refine (wrong_c _ 1045 _ _ rfl (by decide) (by omega)).mono ?_; rintro e w1 ⟨v1, rfl, hl1, hx1⟩)
  go_ret
  exact ⟨_, rfl, hl1, hx1⟩
end Go.Proofs.YtbodppfpmpmadaaGreat

namespace Go.Proofs.YtbodppfpmpmadaaGreat
open Go.RowKit

def RetT (w : World) (r : List UInt8 × Nat × Int) (e : Ending) (w' : World) : Prop := e = .returned (.tuple #[.string (strL r.1), .int .i64 (r.2.1 : Int), .int .i64 r.2.2]) ∧ w = w'

set_option maxHeartbeats 400000 in
theorem appendText_len (w : World) (v : Value) (l : List UInt8) (s : ByteArray) (hr : Rd w v l) (hs : s.size ≤ 1000000) (hl : l.length ≤ 7000000) :
    Calls Tryz.prog 149 #[v, .string s] w (RetB w (l ++ textB s.data.toList)) := by
  have HR := Lib.hid hr
  clear hr
  have hi := intB_length (s.size : Int)
  have hi2 := sizeI_le (s.size : Int)
  rw [← hi] at hi2
  clear hi
  have HE := Lib.hid (show intB (s.size : Int) ++ s.data.toList = textB s.data.toList by unfold textB; rw [size_toList])
  go_enter Tryz.func149, Tryz.ntmps149
  go_wp2_with (first | (go_at_call 183; refine (appendInt_len _ _ _ (s.size : Int) HR.out (by omega) (by omega) (by omega)).mono ?_; rintro e w1 ⟨v1, rfl, ho1, hx1⟩) | (at_builtin; refine wpl_append_st bt s ho1 rfl _ _ rfl rfl rfl (by rw [List.length_append]; omega) (Ext.size hx1) ?_; intro v2 w2 ho2 hb2))
  go_ret
  refine ⟨_, rfl, ?_, hx1.below hb2 (Nat.le_refl _)⟩
  rw [← HE.out, ← List.append_assoc]
  exact ho2

set_option maxHeartbeats 400000 in
theorem appendText_ref (w : World) (v : Value) (l : List UInt8) (s : ByteArray) (hr : Rd w v l) (hs : s.size ≤ 1000000) (hl : l.length ≤ 7000000) :
    Calls Tryz.prog 166 #[v, .string s] w (RetB w (l ++ textB s.data.toList)) := by
  have HR := Lib.hid hr
  clear hr
  have hi := intB_length (s.size : Int)
  have hi2 := sizeI_le (s.size : Int)
  rw [← hi] at hi2
  clear hi
  have HE := Lib.hid (show intB (s.size : Int) ++ s.data.toList = textB s.data.toList by unfold textB; rw [size_toList])
  go_enter Tryz.func166, Tryz.ntmps166
  go_wp2_with (first | (go_at_call 164; refine (appendInt_ref _ _ _ (s.size : Int) HR.out (by omega) (by omega) (by omega)).mono ?_; rintro e w1 ⟨v1, rfl, ho1, hx1⟩) | (at_builtin; refine wpl_append_st bt s ho1 rfl _ _ rfl rfl rfl (by rw [List.length_append]; omega) (Ext.size hx1) ?_; intro v2 w2 ho2 hb2))
  go_ret
  refine ⟨_, rfl, ?_, hx1.below hb2 (Nat.le_refl _)⟩
  rw [← HE.out, ← List.append_assoc]
  exact ho2

theorem readInt_at_len (w : World) (v : Value) (l : List UInt8) (x : Int) (n : Nat) (r : Int) (hr : Rd w v l) (h : readI l = (x, n, r)) :
    Calls Tryz.prog 198 #[v] w fun e w' => e = .returned (.tuple #[.int .u64 x, .int .i64 n, .int .i64 r]) ∧ w = w' := by
  have := readInt_len w v l hr
  rw [h] at this
  exact this

set_option maxHeartbeats 1000000 in
theorem readText_len (w : World) (v : Value) (l : List UInt8) (hr : Rd w v l) :
    Calls Tryz.prog 175 #[v] w (RetT w (readT l)) := by
  obtain ⟨x, n, r, h⟩ : ∃ x n r, readI l = (x, n, r) := ⟨_, _, _, rfl⟩
  have H := Lib.hid h
  have HR := Lib.hid hr
  obtain ⟨A, cap, rfl, hle, hm, hA, hc⟩ := hr
  clear hA hc
  unfold maxLen at hm
  rcases readI_err h with rfl | ⟨rfl, rfl, rfl | rfl⟩
  · obtain ⟨hn1, hn2, hx0⟩ := readI_ok h
    by_cases hx : (l.length : Int) - n < x
    · have HT := Lib.hid (show readT l = ([], 0, 4) by unfold readT; rw [h]; exact (if_pos rfl).trans (if_pos hx))
      clear h
      rw [HT.out]
      go_enter Tryz.func175, Tryz.ntmps175
      go_wp2_with (go_at_call 198; refine (readInt_at_len _ _ _ _ _ _ HR.out H.out).mono ?_; rintro e w1 ⟨rfl, rfl⟩)
      go_ret3
      exact ⟨rfl, rfl⟩
    · have HT := Lib.hid (show readT l = ((l.take (n + x.toNat)).drop n, n + x.toNat, 0) by unfold readT; rw [h]; exact (if_pos rfl).trans (if_neg hx))
      clear h
      have hx2 : x ≤ (l.length : Int) - n := by omega
      obtain ⟨X, rfl⟩ : ∃ X : Nat, x = X := ⟨x.toNat, by omega⟩
      rw [HT.out]
      clear hx
      go_enter Tryz.func175, Tryz.ntmps175
      go_wp2_with (first | (go_at_call 198; refine (readInt_at_len _ _ _ _ _ _ HR.out H.out).mono ?_; rintro e w1 ⟨rfl, rfl⟩) | ((with_reducible show wpList _ _ _ (_ :: _) _ _); refine wpl_slice_lohi bt HR.out (n : Int) ((n : Int) + (X : Int)) (by omega) (by omega) (by omega) rfl _ _ _ _ _ rfl rfl rfl rfl ?_; intro v2 hr2) | ((with_reducible show wpList _ _ _ (_ :: _) _ _); refine wpl_str bt hr2 rfl _ rfl rfl ?_))
      go_ret3
      refine ⟨?_, rfl⟩
      have e2 : ((n + X : Nat) : Int) = (n : Int) + (X : Int) := by omega
      simp only [Int.toNat_natCast, e2]
      rfl
  all_goals
    have HT := Lib.hid (show readT l = ([], 0, (readI l).2.2) by unfold readT; rw [h]; simp)
    clear h
    rw [HT.out, H.out]
    go_enter Tryz.func175, Tryz.ntmps175
    go_wp2_with (go_at_call 198; refine (readInt_at_len _ _ _ _ _ _ HR.out H.out).mono ?_; rintro e w1 ⟨rfl, rfl⟩)
    go_ret3
    exact ⟨rfl, rfl⟩

theorem readInt_at_ref (w : World) (v : Value) (l : List UInt8) (x : Int) (n : Nat) (r : Int) (hr : Rd w v l) (h : readI l = (x, n, r)) :
    Calls Tryz.prog 174 #[v] w fun e w' => e = .returned (.tuple #[.int .u64 x, .int .i64 n, .int .i64 r]) ∧ w = w' := by
  have := readInt_ref w v l hr
  rw [h] at this
  exact this

set_option maxHeartbeats 1000000 in
theorem readText_ref (w : World) (v : Value) (l : List UInt8) (hr : Rd w v l) :
    Calls Tryz.prog 163 #[v] w (RetT w (readT l)) := by
  obtain ⟨x, n, r, h⟩ : ∃ x n r, readI l = (x, n, r) := ⟨_, _, _, rfl⟩
  have H := Lib.hid h
  have HR := Lib.hid hr
  obtain ⟨A, cap, rfl, hle, hm, hA, hc⟩ := hr
  clear hA hc
  unfold maxLen at hm
  rcases readI_err h with rfl | ⟨rfl, rfl, rfl | rfl⟩
  · obtain ⟨hn1, hn2, hx0⟩ := readI_ok h
    by_cases hx : (l.length : Int) - n < x
    · have HT := Lib.hid (show readT l = ([], 0, 4) by unfold readT; rw [h]; exact (if_pos rfl).trans (if_pos hx))
      clear h
      rw [HT.out]
      go_enter Tryz.func163, Tryz.ntmps163
      go_wp2_with (go_at_call 174; refine (readInt_at_ref _ _ _ _ _ _ HR.out H.out).mono ?_; rintro e w1 ⟨rfl, rfl⟩)
      go_ret3
      exact ⟨rfl, rfl⟩
    · have HT := Lib.hid (show readT l = ((l.take (n + x.toNat)).drop n, n + x.toNat, 0) by unfold readT; rw [h]; exact (if_pos rfl).trans (if_neg hx))
      clear h
      have hx2 : x ≤ (l.length : Int) - n := by omega
      obtain ⟨X, rfl⟩ : ∃ X : Nat, x = X := ⟨x.toNat, by omega⟩
      rw [HT.out]
      clear hx
      go_enter Tryz.func163, Tryz.ntmps163
      go_wp2_with (first | (go_at_call 174; refine (readInt_at_ref _ _ _ _ _ _ HR.out H.out).mono ?_; rintro e w1 ⟨rfl, rfl⟩) | ((with_reducible show wpList _ _ _ (_ :: _) _ _); refine wpl_slice_lohi bt HR.out (n : Int) ((n : Int) + (X : Int)) (by omega) (by omega) (by omega) rfl _ _ _ _ _ rfl rfl rfl rfl ?_; intro v2 hr2) | ((with_reducible show wpList _ _ _ (_ :: _) _ _); refine wpl_str bt hr2 rfl _ rfl rfl ?_))
      go_ret3
      refine ⟨?_, rfl⟩
      have e2 : ((n + X : Nat) : Int) = (n : Int) + (X : Int) := by omega
      simp only [Int.toNat_natCast, e2]
      rfl
  all_goals
    have HT := Lib.hid (show readT l = ([], 0, (readI l).2.2) by unfold readT; rw [h]; simp)
    clear h
    rw [HT.out, H.out]
    go_enter Tryz.func163, Tryz.ntmps163
    go_wp2_with (go_at_call 174; refine (readInt_at_ref _ _ _ _ _ _ HR.out H.out).mono ?_; rintro e w1 ⟨rfl, rfl⟩)
    go_ret3
    exact ⟨rfl, rfl⟩
end Go.Proofs.YtbodppfpmpmadaaGreat

namespace Go.Proofs.YtbodppfpmpmadaaGreat
open Go.RowKit

def Recs (w : World) (sz : Nat) (v : Value) (rs : List (List Value)) : Prop :=
  ∃ (A : Option Addr) (cap : Nat), v = .slice A rs.length cap ∧ rs.length ≤ cap ∧ cap ≤ maxLen ∧
    (rs ≠ [] → ∃ b o, A = some ⟨b, o, none⟩ ∧ ∀ j, j < rs.length → w.rangeAt b (o + j * sz) (rs.getD j []))
theorem World.rangeAt.ext {w w' : World} {b o : Nat} {cs : List Value} (h : w.rangeAt b o cs) (k : Ext w w') : w'.rangeAt b o cs := fun j v hv => k.cell (h j v hv)
theorem World.rangeAt.on {g : Nat} {w w' : World} {b o : Nat} {cs : List Value} (h : w.rangeAt b o cs) (k : On g w w') (hne : b ≠ g) : w'.rangeAt b o cs := fun j v hv => k.cell (h j v hv) hne
theorem Recs.ext {w w' : World} {sz : Nat} {v : Value} {rs : List (List Value)} (h : Recs w sz v rs) (k : Ext w w') : Recs w' sz v rs := by
  obtain ⟨A, cap, h1, h2, h3, h4⟩ := h
  refine ⟨A, cap, h1, h2, h3, fun hn => ?_⟩
  obtain ⟨b, o, hA, hc⟩ := h4 hn
  exact ⟨b, o, hA, fun j hj => World.rangeAt.ext (hc j hj) k⟩
theorem Recs.at_ {w : World} {sz : Nat} {A : Option Addr} {n cap : Nat} {rs : List (List Value)} (h : Recs w sz (.slice A n cap) rs) (hn : 0 < n) : ∃ b o, A = some ⟨b, o, none⟩ ∧ n = rs.length ∧ ∀ j, j < n → w.rangeAt b (o + j * sz) (rs.getD j []) := by
  obtain ⟨A', cap', hv, _, _, h4⟩ := h
  injection hv with e1 e2 e3
  subst e1 e2
  obtain ⟨b, o, rfl, hc⟩ := h4 (by intro e; subst e; simp at hn)
  exact ⟨b, o, rfl, rfl, hc⟩
theorem Recs.nil (w : World) (sz : Nat) : Recs w sz (.slice none 0 0) [] := ⟨none, 0, rfl, Nat.le_refl _, by unfold maxLen; omega, fun h => absurd rfl h⟩
theorem Recs.shape {w : World} {sz : Nat} {v : Value} {rs : List (List Value)} (h : Recs w sz v rs) : ∃ A c, v = .slice A rs.length c ∧ rs.length ≤ c ∧ c ≤ maxLen := by obtain ⟨A, c, rfl, h1, h2, _⟩ := h; exact ⟨_, _, rfl, h1, h2⟩

def OwnR (t : TypeId) (sz : Nat) (w : World) (base : Nat) (v : Value) (rs : List (List Value)) : Prop := w.ownsRow base t sz v rs.length rs.flatten ∧ ∀ r ∈ rs, r.length = sz
theorem OwnR.nil (t : TypeId) (sz : Nat) (w : World) (base : Nat) : OwnR t sz w base (.slice none 0 0) [] := ⟨World.ownsRow_nil w base t sz, fun r h => by simp at h⟩
theorem OwnR.ext {t : TypeId} {sz : Nat} {w w' : World} {base : Nat} {v : Value} {rs : List (List Value)} (h : OwnR t sz w base v rs) (k : Ext w w') : OwnR t sz w' base v rs :=
  ⟨World.ownsRow.kept (row := none) h.1 ⟨k.os, k.tape, k.output, Ext.size k, fun i hi _ => k.block i hi⟩ (by cases hv : v.ownBlock <;> simp), h.2⟩
theorem OwnR.on {t : TypeId} {sz : Nat} {g : Nat} {w w' : World} {base : Nat} {v : Value} {rs : List (List Value)} (h : OwnR t sz w base v rs) (k : On g w w') (hg : g < base) : OwnR t sz w' base v rs := by
  refine ⟨World.ownsRow.kept h.1 k (.inr ?_), h.2⟩
  intro e
  have := (World.ownsRow.lt h.1 g e).1
  omega
theorem OwnR.more {t : TypeId} {sz : Nat} {w : World} {base base' : Nat} {v : Value} {rs : List (List Value)} (h : OwnR t sz w base v rs) (hb : base' ≤ base) : OwnR t sz w base' v rs := by
  obtain ⟨⟨h1, h2⟩, h3⟩ := h
  refine ⟨⟨h1, ?_⟩, h3⟩
  rcases h2 with h2 | ⟨g, cap, cur, hv, hg, r⟩
  · exact .inl h2
  · exact .inr ⟨g, cap, cur, hv, Nat.le_trans hb hg, r⟩
theorem flatten_at {sz : Nat} : ∀ (rs : List (List Value)), (∀ r ∈ rs, r.length = sz) → ∀ j, j < rs.length → ∀ i u, (rs.getD j [])[i]? = some u → rs.flatten[j * sz + i]? = some u
  | [], _, j, hj, _, _, _ => absurd hj (by simp)
  | r :: rs, h, 0, _, i, u, hu => by
    have hi : i < r.length := by
      rcases Nat.lt_or_ge i r.length with h | h
      · exact h
      · rw [List.getD_cons_zero, List.getElem?_eq_none h] at hu; cases hu
    rw [List.getD_cons_zero] at hu
    rw [Nat.zero_mul, Nat.zero_add, List.flatten_cons, List.getElem?_append_left hi, hu]
  | r :: rs, h, j + 1, hj, i, u, hu => by
    have hr := h r (by simp)
    have ih := flatten_at rs (fun x hx => h x (by simp [hx])) j (by simpa using hj) i u (by simpa using hu)
    rw [List.flatten_cons, List.getElem?_append_right (by rw [hr, Nat.succ_mul]; omega), hr, show (j + 1) * sz + i - sz = j * sz + i by rw [Nat.succ_mul]; omega]
    exact ih
theorem OwnR.recs {t : TypeId} {sz : Nat} {w : World} {base : Nat} {v : Value} {rs : List (List Value)} (h : OwnR t sz w base v rs) : Recs w sz v rs := by
  have hc := fun g hg => World.ownsRow.cells h.1 (g := g) hg
  rcases h.1.2 with ⟨rfl, h0⟩ | ⟨g, cap, cur, rfl, hb, hg, hn, hm, hs, ht⟩
  · have : rs = [] := List.eq_nil_of_length_eq_zero h0
    subst this
    exact Recs.nil w sz
  · refine ⟨_, cap, rfl, hn, hm, fun _ => ⟨g, 0, rfl, fun j hj i u hu => ?_⟩⟩
    have := hc g rfl (j * sz + i) u (flatten_at rs h.2 j hj i u hu)
    rw [addr0] at this
    rw [Nat.zero_add]
    exact this

section
variable {P : Program} {ops : Array Oper} {rest : List Oper} {o : Oper} {a : Act} {w : World} {Q : Exit → Act → World → Prop}
theorem wpl_append_rec {t sl : TypeId} {sz bytes : Nat} {z : Value} (hsl : P.underlying sl = some (.slice t)) (hinfo : (P.info? t).map (fun i => (i.zero, i.size, i.bytes)) = some (some z, sz, bytes)) (hzs : z.cells.size = sz) (hsz : 0 < sz) (hby : bytes ≤ 100)
    {base : Nat} {v : Value} {rs : List (List Value)} (hown : OwnR t sz w base v rs) (row : List Value) (hrow : row.length = sz) (h1 : row.all (·.oneCell') = true)
    (hgd : o.guard = none) (s x : Operand) (ho : o.op = .call { callee := .builtin .append, args := #[s, x], argTypes := #[sl, sl] })
    (hs : a.eval s = v) (C : Array Value) (hC : C = row.toArray) (hx : a.eval x = .slice (some ⟨w.heap.size, 0, none⟩) 1 1) (hlen : rs.length + 1 ≤ 1000000000) (hbase : base ≤ w.heap.size)
    (h : ∀ v' w', OwnR t sz w' base v' (rs ++ [row]) → Below base w w' → wpList P ops Q rest (a.put o.dst v') w') : wpList P ops Q (o :: rest) a (w.alloc (.cells C t)) := by
  subst hC
  refine wpList_plain hgd fun K hK => ?_
  obtain ⟨i, hi, hz, hs1, hb1⟩ := info_parts hinfo
  have hown' := (hown.ext ((Ext.refl w).alloc (.cells row.toArray t))).1
  obtain ⟨v', w', hrun, h2, h3, _⟩ := run_append_own (P := P) (w.alloc (.cells row.toArray t)) base sl o.type t i z sz bytes hsl hi hz hs1 hb1 hzs hsz v rs.length rs.flatten hown' ⟨w.heap.size, 0, none⟩ 1 1 row
    (by rw [hrow, Nat.one_mul]) (fun j u hj => by
      have hjl : j < row.length := by
        rcases Nat.lt_or_ge j row.length with h | h
        · exact h
        · rw [List.getElem?_eq_none h] at hj; cases hj
      rw [addr0, (Box.new w row t) j hjl, List.getD_eq_getElem?_getD, hj]
      rfl) (fun u hu => by rw [List.all_eq_true] at h1; exact h1 u hu) (by unfold maxLen; omega) (by
        have : (rs.length + 1) * bytes ≤ 1000000000 * 100 := Nat.mul_le_mul hlen hby
        omega) (Nat.le_trans hbase (by simp))
  have hb := (Below.refl base (w.alloc (.cells row.toArray t))).grown h3 (Nat.le_trans hbase (by simp)) (fun g hg => (World.ownsRow.lt hown' g hg).1)
  have hb' : Below base w w' := ((Below.refl base w).alloc hbase _).trans hb
  unfold Oper.wp execOp
  simp only [ho, resolve, invoke, builtin, Sem.run_bind, Sem.run_pure, Result.andThen_ok, List.map_toArray, List.map_cons, List.map_nil, hs, hx, hrun]
  refine hK _ _ (h v' w' ⟨?_, ?_⟩ hb')
  · rw [List.length_append, List.flatten_append, List.flatten_cons, List.flatten_nil, List.append_nil]
    exact h2
  · intro r hr
    rcases List.mem_append.1 hr with h | h
    · exact hown.2 r h
    · simp at h; rw [h]; exact hrow

theorem wpl_load_rec (hgd : o.guard = none) (ty : TypeId) (x : Operand) (ho : o.op = .load ty x) (b off : Nat) (hx : a.eval x = .pointer (some ⟨b, off, none⟩)) {cs : List Value} {d : TypeDesc} (R : w.rangeAt b off cs)
    (hu : P.underlying ty = some d) (hd : d.isRow = true) (hi : (P.info? ty).map (·.size) = some cs.length)
    (h : wpList P ops Q rest (a.put o.dst (.agg cs.toArray)) w) : wpList P ops Q (o :: rest) a w :=
  wpList_load_mid hgd ty x ho b off hx cs d R hu hd hi h
end
end Go.Proofs.YtbodppfpmpmadaaGreat

namespace Go.Proofs.YtbodppfpmpmadaaGreat
open Go.RowKit

def rF (n : Int) (s : List UInt8 × Int) : Int × (List UInt8 × Int) := if s.2 = 0 then (if (readF s.1 n).2 = 0 then ((readF s.1 n).1, (s.1.drop n.toNat, 0)) else ((readF s.1 n).1, (s.1, (readF s.1 n).2))) else (0, s)
def rT (s : List UInt8 × Int) : List UInt8 × (List UInt8 × Int) := if s.2 = 0 then (if (readT s.1).2.2 = 0 then ((readT s.1).1, (s.1.drop (readT s.1).2.1, 0)) else ((readT s.1).1, (s.1, (readT s.1).2.2))) else ([], s)
def rW (bad : Bool) (s : List UInt8 × Int) : List UInt8 × Int := if s.2 = 0 ∧ bad = true then (s.1, 5) else s
def rO (s : List UInt8 × Int) : List UInt8 × Int := rW (decide (0 < s.1.length)) s

def RetR (a w : World) (g : Nat) (v : Value) (s : List UInt8 × Int) (e : Ending) (w' : World) : Prop := e = .returned v ∧ Rdr a w' g s ∧ On g w w'
end Go.Proofs.YtbodppfpmpmadaaGreat

namespace Go.Proofs.YtbodppfpmpmadaaGreat
open Go.RowKit

section
variable {P : Program} {ops : Array Oper} {rest : List Oper} {o : Oper} {a : Act} {w : World} {Q : Exit → Act → World → Prop}
theorem wpl_cut_lo (hT : BT P) {b : World} {v : Value} {l : List UInt8} (hr : Rd b v l) (i : Int) (h0 : 0 ≤ i) (h1 : i ≤ l.length)
    (hgd : o.guard = none) (x lo : Operand) (k : IntKind) (ho : o.op = .slice 22 x (some lo) none none) (hx : a.eval x = v) (hlo : a.eval lo = .int k i)
    (h : ∀ A' m c', Rd b (.slice A' m c') (l.drop i.toNat) → wpList P ops Q rest (a.put o.dst (.slice A' m c')) w) : wpList P ops Q (o :: rest) a w := by
  obtain ⟨A, cap, rfl, hle, hm, _⟩ := id hr
  have hc := Rd.cut hr i.toNat l.length (by omega) (Nat.le_refl _)
  rw [List.take_length] at hc
  refine wpl_val hgd (v := .slice (if cap = i.toNat then A else A.map (·.add (i.toNat * 1))) (l.length - i.toNat) (cap - i.toNat)) (w' := w) ?_ (h _ _ _ hc)
  unfold execOp
  simp [ho, hx, hlo, Instr.sliceAt, Instr.slice, run_underlying hT.sl, Instr.sliceBounds, run_sliceBound, h0, h1, sizeOf_u8 hT]
end

theorem readT_le {l x : List UInt8} {n : Nat} (h : readT l = (x, n, 0)) : n ≤ l.length := by
  obtain ⟨y, m, r, hq⟩ : ∃ y m r, readI l = (y, m, r) := ⟨_, _, _, rfl⟩
  unfold readT at h
  rw [hq] at h
  dsimp only at h
  split at h
  · rename_i h0
    subst h0
    have := readI_ok hq
    split at h
    · simp at h
    · simp only [Prod.mk.injEq] at h
      omega
  · rename_i h0
    simp only [Prod.mk.injEq] at h
    exact absurd h.2.2 h0
theorem readT_at_len (w : World) (v : Value) (l x : List UInt8) (n : Nat) (r : Int) (hr : Rd w v l) (h : readT l = (x, n, r)) :
    Calls Tryz.prog 175 #[v] w fun e w' => e = .returned (.tuple #[.string (strL x), .int .i64 n, .int .i64 r]) ∧ w = w' := by
  have := readText_len w v l hr
  rw [h] at this
  exact this

end Go.Proofs.YtbodppfpmpmadaaGreat

namespace Go.Proofs.YtbodppfpmpmadaaGreat

theorem readI_take (x : Int) (i : Nat) (h : i < (intB x).length) : readI ((intB x).take i) = (0, 0, 4) := by
  rcases i with _ | j
  · rfl
  · rcases intB_cases x with ⟨_, e, _⟩ | ⟨_, _, e, _⟩ | ⟨_, _, e, _⟩ | ⟨_, e, _⟩
    all_goals rw [e] at h ⊢
    · rw [fixB_length] at h
      omega
    all_goals
      rw [List.length_cons, fixB_length] at h
      rw [List.take_succ_cons]
    · rw [readI_wide 252 2 (.inl ⟨rfl, rfl⟩), if_pos (by rw [List.length_take]; omega)]
    · rw [readI_wide 253 3 (.inr (.inl ⟨rfl, rfl⟩)), if_pos (by rw [List.length_take]; omega)]
    · rw [readI_wide 254 8 (.inr (.inr ⟨rfl, rfl⟩)), if_pos (by rw [List.length_take]; omega)]

theorem readT_textB (s t : List UInt8) (h : (s.length : Int) < 18446744073709551616) : readT (textB s ++ t) = (s, sizeI s.length + s.length, 0) := by
  have hi := readI_intB (s.length : Int) (by omega) h (s ++ t)
  have e : textB s ++ t = intB (s.length : Int) ++ (s ++ t) := by rw [textB, List.append_assoc]
  have hl := intB_length (s.length : Int)
  rw [e]
  unfold readT
  rw [hi]
  refine (if_pos rfl).trans ((if_neg ?_).trans ?_)
  · dsimp only
    rw [List.length_append, List.length_append, hl]
    omega
  · have e2 : sizeI (s.length : Int) + ((s.length : Nat) : Int).toNat = (intB (s.length : Int)).length + s.length := by rw [hl, Int.toNat_natCast]
    simp only [Int.toNat_natCast] at e2 ⊢
    rw [e2, List.take_length_add_append, List.take_left, ← hl, List.drop_left]

theorem readZ_ended (s t : List UInt8) (h : s.contains 0 = false) : readZ (s ++ [0] ++ t) = (s, s.length + 1, 0) := by
  have hu : upZ (s ++ [0] ++ t) = s := by
    unfold upZ
    rw [List.append_assoc, List.takeWhile_append_of_pos]
    · simp
    · intro a ha
      have : a ≠ 0 := by
        rintro rfl
        have := List.contains_iff_mem.2 ha
        rw [h] at this
        cases this
      simpa using this
  unfold readZ
  rw [if_pos (by simp), hu]
end Go.Proofs.YtbodppfpmpmadaaGreat

namespace Go.Proofs.YtbodppfpmpmadaaGreat
open Go.RowKit

theorem flatten_len {sz : Nat} : ∀ (rs : List (List Value)), (∀ r ∈ rs, r.length = sz) → rs.flatten.length = rs.length * sz
  | [], _ => by simp
  | r :: rs, h => by
    rw [List.flatten_cons, List.length_append, h r (by simp), flatten_len rs (fun x hx => h x (by simp [hx])), List.length_cons, Nat.add_mul]
    omega
section
variable {P : Program} (w : World)
variable {w}
variable {ops : Array Oper} {o : Oper} {a : Act} {K : Act → World → Prop} {Q : Exit → Act → World → Prop} {E : Prop}
end
end Go.Proofs.YtbodppfpmpmadaaGreat

