/- TrackNames: the walk. -/
import Derived.Test.YtdjnjhlgpflcjaaTrP
import Derived.Test.YtdjnjhlgpflcjaaTrK3
import Derived.Test.YtdjnjhlgpflcjaaTrK7
namespace Go.Proofs.Ytdjnjhlgpflcjaa
open Go.RowKit

set_option maxRecDepth 100000 in
set_option maxHeartbeats 8000000 in
theorem trackNames_c (w : World) : Calls Try.prog 3 #[] w (RetTrue w) := by
  have K1 := Lib.hid (show [] ++ chgB (0, [97], [49]) = [0, 4, 1, 97, 1, 49] by decide)
  have K3 := Lib.hid (show readCs [1, 2, 1] = ([], 4) by decide)
  have K4 := Lib.hid (show readCs [6, 0] = ([], 5) by decide)
  have K5 := Lib.hid (show readCs [1, 3, 1, 115, 9] = ([], 5) by decide)
  have hfl : ∀ wx, Sem.run Try.prog (Instr.field 35 (.agg #[.string ⟨#[100]⟩, .slice none 0 0, .slice none 0 0, .bool false, .bool false, .bool false, .bool false]) 3) wx = .ok (.bool false) wx := by intro wx; kernel_rfl
  have tA : True := trivial
  have tR : True := trivial
  have tQ : True := trivial
  have tF : True := trivial
  have tP : True := trivial
  have tS : True := trivial
  have tN : True := trivial
  go_enter Try.func3, Try.ntmps3
  go_wp2_with (first
    | (go_at_call 7; refine (lives23_c _).mono ?_; rintro e w0 ⟨rfl, hE⟩)
    | (go_at_call 8; clear tA; go_loud (refine (append_good0 _ _ [] [97] [49] (by decide) (Rd.nil _) (by simp) (by simp) (by simp)).mono ?_; rintro e w1 ⟨v1, rfl, ho1, hx1⟩; have r1 := ho1.rd; rw [K1.out] at r1; replace hE := hE.trans hx1; clear ho1))
    | (go_at_call 8; go_loud (refine (append_bad _ _ 2 [] [50] (by decide)).mono ?_; rintro e w2 ⟨v2, rfl, ho2, hx2⟩; replace hE := hE.trans hx2; replace r1 := r1.ext hx2; clear ho2))
    | (go_at_call 9; clear tR; go_loud (refine (read_g _ _ [1, 2, 1] (rd_lit _ _ [1, 2, 1] (by rfl) (by simp) 3 _ (by rfl) (by rfl)) (by simp)).mono ?_; rintro e w3 ⟨v3, he, _, hx3⟩; rw [K3.out] at he; replace he : e = .returned (.tuple #[v3, .int .i64 4]) := he; subst he; replace hE := (hE.alloc _).trans hx3; replace r1 := r1.ext (((Ext.refl _).alloc _).trans hx3)))
    | (go_at_call 9; clear tQ; go_loud (refine (read_g _ _ [6, 0] (rd_lit _ _ [6, 0] (by rfl) (by simp) 2 _ (by rfl) (by rfl)) (by simp)).mono ?_; rintro e w4 ⟨v4, he, _, hx4⟩; rw [K4.out] at he; replace he : e = .returned (.tuple #[v4, .int .i64 5]) := he; subst he; replace hE := (hE.alloc _).trans hx4; replace r1 := r1.ext (((Ext.refl _).alloc _).trans hx4)))
    | (go_at_call 9; go_loud (refine (read_g _ _ [1, 3, 1, 115, 9] (rd_lit _ _ [1, 3, 1, 115, 9] (by rfl) (by simp) 5 _ (by rfl) (by rfl)) (by simp)).mono ?_; rintro e w5 ⟨v5, he, _, hx5⟩; rw [K5.out] at he; replace he : e = .returned (.tuple #[v5, .int .i64 5]) := he; subst he; replace hE := (hE.alloc _).trans hx5; replace r1 := r1.ext (((Ext.refl _).alloc _).trans hx5)))
    | (go_at_call 11; clear tF; go_loud (refine (fresh_c _ ⟨#[100]⟩).mono ?_; rintro e w6 ⟨rfl, hx6⟩; replace hE := hE.trans hx6; replace r1 := r1.ext hx6))
    | (go_at_call 11; go_loud (refine (fresh_c _ ⟨#[100]⟩).mono ?_; rintro e w9 ⟨rfl, hx9⟩; replace hE := hE.trans hx9; replace r1 := r1.ext hx9; replace B1 := B1.ext hx9))
    | (go_at_call 10; clear tP; go_loud (refine (replied_7 _ ⟨#[100]⟩ none none 0 0 0 0 false false false false ⟨#[117]⟩ ⟨#[49]⟩ 0 false (by rfl) (anyCk_nil _ _ _ _ _ _) (AnyBS.nil _ _)).mono ?_; rintro e w7 ⟨rfl, hx7⟩; replace hE := hE.trans hx7; replace r1 := r1.ext hx7))
    | (go_at_call 10; go_loud (refine (replied_3 _ ⟨#[100]⟩ none none 0 0 0 0 false false false false ⟨#[]⟩ ⟨#[]⟩ 3 true (by rfl) (anyCk_nil _ _ _ _ _ _) (AnyBS.nil _ _)).mono ?_; rintro e w10 ⟨rfl, hx10⟩; replace hE := hE.trans hx10; replace r1 := r1.ext hx10; replace B1 := B1.ext hx10))
    | ((with_reducible show wpList _ _ _ (⟨none, Op.store 35 _ _, _, _, _, _⟩ :: _) _ _); clear tS; go_loud (refine wpl_store_box rfl _ _ _ rfl _ (trC ⟨#[100]⟩ nilV nilV false true false false) rfl rfl (BoxF.new w7 tr0 _) rfl (by kernel_rfl) (by rfl) ?_; intro w8 B1 O8; have hx8 : Ext w7 w8 := ((Ext.refl w7).alloc _).on O8 (Nat.le_refl _); replace hE := hE.trans hx8; replace r1 := r1.ext hx8; clear O8))
    | ((with_reducible show wpList _ _ _ (⟨none, Op.store 35 _ _, _, _, _, _⟩ :: _) _ _); go_loud (refine wpl_store_box rfl _ _ _ rfl _ (trC ⟨#[100]⟩ nilV nilV true false false false) rfl rfl (BoxF.new w10 tr0 _) rfl (by kernel_rfl) (by rfl) ?_; intro w11 B2 O11; have hx11 : Ext w10 w11 := ((Ext.refl w10).alloc _).on O11 (Nat.le_refl _); replace hE := hE.trans hx11; replace r1 := r1.ext hx11; replace B1 := B1.ext hx11; clear O11))
    | (go_at_call 12; go_loud (refine (same_c _ _ _ _ [0, 4, 1, 97, 1, 49] (r1.ext ((Ext.refl _).alloc _)) (rd_lit _ _ [0, 4, 1, 97, 1, 49] (by rfl) (by simp) 6 _ (by rfl) (by simp)) true (by decide)).mono ?_; rintro e w12 ⟨rfl, hq⟩; have hx12 := ext_alloc_of hq; clear hq; replace hE := hE.trans hx12; replace B1 := B1.ext hx12; replace B2 := B2.ext hx12; obtain ⟨d0, d1, d2, d3, d4, d5, d6⟩ := B1.c7))
    | (go_at_call 13; clear tN; go_loud (refine (pinned_c _ ⟨#[100]⟩ _ none 0 0 false true false false).mono ?_; rintro e w13 ⟨rfl, hx13⟩; replace hE := hE.trans hx13; replace B2 := B2.ext hx13; clear d0 d1 d2 d3 d4 d5 d6 B1; obtain ⟨d0, d1, d2, d3, d4, d5, d6⟩ := B2.c7))
    | (go_at_call 13; go_loud (refine (pinned_c _ ⟨#[100]⟩ _ none 0 0 true false false false).mono ?_; rintro e w14 ⟨rfl, hx14⟩; replace hE := hE.trans hx14; replace B2 := B2.ext hx14; clear d0 d1 d2 d3 d4 d5 d6; obtain ⟨d0, d1, d2, d3, d4, d5, d6⟩ := B2.c7))
    | (go_at_call 14; go_loud (refine (status_c _ ⟨#[100]⟩ none none 0 0 0 0 true false false false 2 false (by rfl)).mono ?_; rintro e w15 ⟨he, hx15⟩; replace he : e = .returned (.agg #[.string ⟨#[100]⟩, .slice none 0 0, .slice none 0 0, .bool false, .bool false, .bool false, .bool false]) := he; subst he; replace hE := hE.trans hx15))
    | fail)
  go_ret
  exact ⟨rfl, hE⟩
end Go.Proofs.Ytdjnjhlgpflcjaa
