/- The worked examples of the chapter on replies. (Printed by gen_repK.py.) -/
import Derived.Test.YtnlfcknpmemhfaaRepJ
namespace Go.Proofs.Ytnlfcknpmemhfaa
open Go.RowKit

theorem ext_alloc_eq {w w' : World} {o : Obj} (h : w.alloc o = w') : Ext w w' := h ▸ (Ext.refl w).alloc o

set_option maxRecDepth 100000 in
set_option maxHeartbeats 8000000 in
theorem replyNames_c (w : World) : Calls Try.prog 11 #[] w (RetTrue w) := by
  have K1 := Lib.hid (show okHead false 1 0 2 0 ++ okTail 8388608 2 [] [] = [0, 1, 0, 2, 0, 0, 0, 0] by kernel_rfl)
  have K2 := Lib.hid (show okS [0, 1, 0, 2, 0, 0, 0] 8388608 = ((1, 0, 2, 0, [], []), 0) by kernel_rfl)
  have K3 := Lib.hid (show okS [0, 1, 0, 2, 0, 0] 0 = ((0, 0, 0, 0, [], []), 4) by kernel_rfl)
  have K4 := Lib.hid (show errS [255, 40, 4, 97] = ((0, [], []), 5) by kernel_rfl)
  have K5 := Lib.hid (show errS [255, 40] = ((0, [], []), 4) by kernel_rfl)
  have K6 := Lib.hid (show ([] ++ eofB 0 2 : List UInt8) = [254, 0, 0, 2, 0] by kernel_rfl)
  have K7 := Lib.hid (show ([] ++ fileB (⟨#[97]⟩ : ByteArray).data.toList : List UInt8) = [251, 97] by kernel_rfl)
  have K8 := Lib.hid (show readFileS [251] = ([], 4) by kernel_rfl)
  have K9 := Lib.hid (show lastR [254, 0, 0, 2, 0] 0 = 3 by kernel_rfl)
  have Ka := Lib.hid (show lastR [254, 0, 0, 2, 0] 16777216 = 1 by kernel_rfl)
  have Kb := Lib.hid (show firstR [251, 97] 0 = 0 by kernel_rfl)
  have tok1 : True := trivial
  have tok2 : True := trivial
  have tok3 : True := trivial
  have tok4 : True := trivial
  have tok5 : True := trivial
  have tok6 : True := trivial
  have hE := Ext.refl w
  go_enter Try.func11, Try.ntmps11
  go_wp2_with (first
    | (go_at_call 16; refine (appendOk_good _ _ _ [] [] _ _ _ _ _ _ _ (Rd.nil _) (Rd.nil _) (by simp) (by decide) (by simp) (by omega) (by omega) (by omega) (by omega) (.inl rfl)).mono ?_; rintro e w1 ⟨v1, rfl, ho, hx⟩; have h1 := ho.rd; clear ho; rw [List.nil_append, K1.out] at h1; replace hE := hE.trans hx)
    | ((with_reducible show Calls _ _ #[_, .int .u32 8388608] _ _); go_at_call 50; refine (rOkP _ _ [0, 1, 0, 2, 0, 0, 0] 8388608 _ _ _ _ _ _ _ (rd_lit _ _ [0, 1, 0, 2, 0, 0, 0] (by rfl) (by simp) 7 _ (by rfl) (by simp)) (by simp) K2.out).mono ?_; rintro e w2 ⟨vt1, rfl, T1, hy⟩; have hx := ((Ext.refl _).alloc _).trans hy; obtain ⟨A1, q1, rfl, _, _, _, _⟩ := id T1; replace hE := hE.trans hx; replace h1 := h1.ext hx)
    | (go_at_call 50; refine (rOkP _ _ [0, 1, 0, 2, 0, 0] 0 _ _ _ _ _ _ _ (rd_lit _ _ [0, 1, 0, 2, 0, 0] (by rfl) (by simp) 6 _ (by rfl) (by simp)) (by simp) K3.out).mono ?_; rintro e w2 ⟨vt2, rfl, T2, hy⟩; have hx := ((Ext.refl _).alloc _).trans hy; obtain ⟨A2, q2, rfl, _, _, _, _⟩ := id T2; replace hE := hE.trans hx; replace h1 := h1.ext hx; replace B1 := B1.ext hx)
    | ((with_reducible show wpList _ _ _ (⟨none, Op.store 28 (.tmp 4) _, _, _, _, _⟩ :: _) _ _); refine wpl_store_box rfl _ _ _ rfl _ [.int .u64 1, .int .u64 0, .int .u16 2, .int .u16 0, .string (strL []), .slice A1 0 q1] rfl rfl (BoxF.new _ _ _) rfl (by kernel_rfl) (by rfl) ?_; intro w3 B1 O3; have hx := ((Ext.refl _).alloc _).on O3 (Nat.le_refl _); replace hE := hE.trans hx; replace h1 := h1.ext hx)
    | ((with_reducible show wpList _ _ _ (⟨none, Op.store 28 (.tmp 6) _, _, _, _, _⟩ :: _) _ _); refine wpl_store_box rfl _ _ _ rfl _ [.int .u64 0, .int .u64 0, .int .u16 0, .int .u16 0, .string (strL []), .slice A2 0 q2] rfl rfl (BoxF.new _ _ _) rfl (by kernel_rfl) (by rfl) ?_; intro w3 B2 O3; have hx := ((Ext.refl _).alloc _).on O3 (Nat.le_refl _); replace hE := hE.trans hx; replace h1 := h1.ext hx; replace B1 := B1.ext hx)
    | (go_at_call 51; clear tok1; refine (rErrP _ _ [255, 40, 4, 97] _ _ _ _ (rd_lit _ _ [255, 40, 4, 97] (by rfl) (by simp) 4 _ (by rfl) (by simp)) (by simp) K4.out).mono ?_; rintro e w2 ⟨rfl, hy⟩; have hx := ((Ext.refl _).alloc _).trans hy; replace hE := hE.trans hx; replace h1 := h1.ext hx; replace B1 := B1.ext hx)
    | (go_at_call 51; clear tok2; refine (rErrP _ _ [255, 40] _ _ _ _ (rd_lit _ _ [255, 40] (by rfl) (by simp) 2 _ (by rfl) (by simp)) (by simp) K5.out).mono ?_; rintro e w2 ⟨rfl, hy⟩; have hx := ((Ext.refl _).alloc _).trans hy; replace hE := hE.trans hx; replace h1 := h1.ext hx; replace B1 := B1.ext hx; have p0 := B1.at (j := 0) (by rfl); have p2 := B1.at (j := 2) (by rfl))
    | ((with_reducible show wpList _ _ _ (⟨none, Op.store 30 (.tmp 8) _, _, _, _, _⟩ :: _) _ _); refine wpl_store_box rfl _ _ _ rfl _ [.int .u16 0, .string (strL []), .string (strL [])] rfl rfl (BoxF.new _ _ _) rfl (by kernel_rfl) (by rfl) ?_; intro w3 B3 O3; have hx := ((Ext.refl _).alloc _).on O3 (Nat.le_refl _); replace hE := hE.trans hx; replace h1 := h1.ext hx; replace B1 := B1.ext hx)
    | ((with_reducible show wpList _ _ _ (⟨none, Op.store 30 (.tmp 10) _, _, _, _, _⟩ :: _) _ _); refine wpl_store_box rfl _ _ _ rfl _ [.int .u16 0, .string (strL []), .string (strL [])] rfl rfl (BoxF.new _ _ _) rfl (by kernel_rfl) (by rfl) ?_; intro w3 B4 O3; have hx := ((Ext.refl _).alloc _).on O3 (Nat.le_refl _); replace hE := hE.trans hx; replace h1 := h1.ext hx; replace B1 := B1.ext hx; clear p0 p2; have p0 := ((Ext.refl _).alloc (.cells #[] 5)).cell (B1.at (j := 0) (by rfl)); clear p0)
    | (go_at_call 19; clear tok3; refine (same_c _ _ _ _ [0, 1, 0, 2, 0, 0, 0, 0] (h1.ext ((Ext.refl _).alloc _)) (rd_lit _ _ [0, 1, 0, 2, 0, 0, 0, 0] (by rfl) (by simp) 8 _ (by rfl) (by simp)) true (by decide)).mono ?_; rintro e wq ⟨rfl, hq⟩; have hx := ext_alloc_eq hq; clear hq; replace hE := hE.trans hx; replace B1 := B1.ext hx; have p0 := B1.at (j := 0) (by rfl); have p2 := B1.at (j := 2) (by rfl))
    | (go_at_call 24; refine (appendEof_c _ _ [] 0 2 (Rd.nil _) (by simp) (by omega) (by omega)).mono ?_; rintro e w2 ⟨v2, rfl, ho, hx⟩; have h2 := ho.rd; clear ho; rw [K6.out] at h2; replace hE := hE.trans hx)
    | (go_at_call 22; refine (appendFile_good _ _ [] _ (Rd.nil _) (by simp) (by decide) (by rw [ByteArray.toList_eq]; decide)).mono ?_; rintro e w2 ⟨v3, rfl, ho, hx⟩; have h3 := ho.rd; clear ho; rw [K7.out] at h3; replace hE := hE.trans hx; replace h2 := h2.ext hx)
    | (go_at_call 52; refine (readFile_len _ _ [251] _ _ (rd_lit _ _ [251] (by rfl) (by simp) 1 _ (by rfl) (by simp)) K8.out).mono ?_; rintro e w2 ⟨rfl, hy⟩; have hx := ((Ext.refl _).alloc _).trans hy; replace hE := hE.trans hx; replace h2 := h2.ext hx; replace h3 := h3.ext hx)
    | (go_at_call 19; clear tok4; refine (same_c _ _ _ _ [254, 0, 0, 2, 0] (h2.ext ((Ext.refl _).alloc _)) (rd_lit _ _ [254, 0, 0, 2, 0] (by rfl) (by simp) 5 _ (by rfl) (by simp)) true (by decide)).mono ?_; rintro e wq ⟨rfl, hq⟩; have hx := ext_alloc_eq hq; clear hq; replace hE := hE.trans hx; replace h2 := h2.ext hx; replace h3 := h3.ext hx)
    | (go_at_call 19; clear tok5; refine (same_c _ _ _ _ [251, 97] (h3.ext ((Ext.refl _).alloc _)) (rd_lit _ _ [251, 97] (by rfl) (by simp) 2 _ (by rfl) (by simp)) true (by decide)).mono ?_; rintro e wq ⟨rfl, hq⟩; have hx := ext_alloc_eq hq; clear hq; replace hE := hE.trans hx; replace h2 := h2.ext hx; replace h3 := h3.ext hx)
    | ((with_reducible show Calls _ _ #[_, .int .u32 16777216] _ _); go_at_call 42; refine (last_at _ _ [254, 0, 0, 2, 0] _ _ h2 Ka.out).mono ?_; rintro e wq ⟨rfl, rfl⟩)
    | (go_at_call 42; refine (last_at _ _ [254, 0, 0, 2, 0] _ _ h2 K9.out).mono ?_; rintro e wq ⟨rfl, rfl⟩)
    | (go_at_call 14; refine (lives14_c _).mono ?_; rintro e w1 ⟨rfl, hx⟩; replace hE := hE.trans hx)
    | (go_at_call 41; refine (first_at _ _ [251, 97] _ _ (rd_lit _ _ [251, 97] (by rfl) (by simp) 2 _ (by rfl) (by simp)) Kb.out).mono ?_; rintro e wq ⟨rfl, hq⟩; have hx := ext_alloc_eq hq; clear hq; replace hE := hE.trans hx)
    | fail)
  go_ret
  exact ⟨rfl, hE⟩
end Go.Proofs.Ytnlfcknpmemhfaa
