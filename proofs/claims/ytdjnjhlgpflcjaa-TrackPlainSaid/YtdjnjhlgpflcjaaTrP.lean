/- The chapter's first examples. -/
import Derived.Test.YtdjnjhlgpflcjaaTrO
import Derived.Test.YtdjnjhlgpflcjaaTrL
namespace Go.Proofs.Ytdjnjhlgpflcjaa
open Go.RowKit

theorem OwnV.one {w : World} {base : Nat} {A : Option Addr} {c : Nat} {x y : Value} (h : OwnV w base (.slice A 1 c) [[x, y]]) : ∃ b o, A = some ⟨b, o, none⟩ ∧ w.cell? ⟨b, o, none⟩ = some x ∧ w.cell? ⟨b, o + 1, none⟩ = some y := by
  obtain ⟨A', c', hv, h1, h2, h3⟩ := OwnR.recs h
  injection hv with e1 e2 e3
  obtain ⟨b, o, hA, hc⟩ := h3 (by simp)
  have := hc 0 (by simp)
  exact ⟨b, o, e1.trans hA, by simpa using this 0 x rfl, by simpa using this 1 y rfl⟩

set_option maxRecDepth 100000 in
set_option maxHeartbeats 4000000 in
theorem lives23_c (w : World) : Calls Try.prog 7 #[] w (RetTrue w) := by
  have K1 := Lib.hid (show [] ++ chgB (1, [], [115]) = [1, 2, 1, 115] by decide)
  have K2 := Lib.hid (show readCs [1, 2, 1, 115] = ([(1, [], [115])], 0) by decide)
  go_enter Try.func7, Try.ntmps7
  go_wp2_with (first
    | (go_at_call 8; go_loud (refine (append_good1 _ _ [] [] [115] (by decide) (Rd.nil _) (by simp) (by simp) (by simp)).mono ?_; rintro e w1 ⟨v1, rfl, ho1, hx1⟩; have r1 := ho1.rd; rw [K1.out] at r1; clear ho1))
    | (go_at_call 9; go_loud (refine (read_g _ _ [1, 2, 1, 115] r1 (by simp)).mono ?_; rintro e w2 ⟨v2, he, ho2, hx2⟩; rw [K2.out] at he ho2; replace he : e = .returned (.tuple #[v2, .int .i64 0]) := he; subst he; have r2 := r1.ext hx2; have q2 : RecC w2 v2 [(1, [], [115])] := ho2.rec; have hE2 := hx1.trans hx2; clear r1 ho2))
    | (go_at_call 11; go_loud (refine (fresh_c _ ⟨#[100]⟩).mono ?_; rintro e w3 ⟨rfl, hx3⟩; have r3 := r2.ext hx3; have q3 := q2.ext hx3; have hE3 := hE2.trans hx3; clear r2 q2))
    | (go_at_call 10; go_loud (refine (replied_set _ ⟨#[100]⟩ 2 false (by rfl) (anyCk_nil _ _ _ _ _ _)).mono ?_; rintro e w4 ⟨A4, c4, rfl, ho4, hx4⟩; obtain ⟨b4, o4, rfl, z0, z1⟩ := OwnV.one ho4; have r4 := r3.ext hx4; have q4 := q3.ext hx4; have hE4 := hE3.trans hx4; clear r3 q3 ho4))
    | ((with_reducible show wpList _ _ _ (⟨none, Op.store 35 _ _, _, _, _, _⟩ :: _) _ _); go_loud (refine wpl_store_box rfl _ _ _ rfl _ (trC ⟨#[100]⟩ (.slice (some ⟨b4, o4, none⟩) 1 c4) nilV false false false false) rfl rfl (BoxF.new w4 tr0 _) rfl (by kernel_rfl) (by rfl) ?_; intro w5 B5 O5; have hx5 : Ext w4 w5 := ((Ext.refl w4).alloc _).on O5 (Nat.le_refl _)))
    | (go_at_call 12; go_loud (refine (same_c _ _ _ _ [1, 2, 1, 115] ((r4.ext hx5).ext ((Ext.refl _).alloc _)) (rd_lit _ _ [1, 2, 1, 115] (by rfl) (by simp) 4 _ (by rfl) (by simp)) true (by decide)).mono ?_; rintro e w6 ⟨rfl, hq⟩; have hx6 := ext_alloc_of hq; clear hq))
    | (go_at_call 17; go_loud (refine (same_t _ _ _ [(1, [], [115])] (((q4.ext hx5).ext hx6).ext ((Ext.refl _).alloc _)) (rec_lit _ _ _ 1 [] [115] (by rfl) _ 1 (by rfl) (by omega) (by unfold maxLen; simp))).mono ?_; rintro e w7 ⟨rfl, hx7⟩; have hx7' : Ext w4 w7 := (hx5.trans hx6).trans (((Ext.refl w6).alloc _).trans hx7); obtain ⟨d0, d1, d2, d3, d4, d5, d6⟩ := (B5.ext (hx6.trans (((Ext.refl w6).alloc _).trans hx7))).c7; replace z0 := hx7'.cell z0; replace z1 := hx7'.cell z1; have hE7 := hE4.trans hx7'))
    | (go_at_call 13; go_loud (refine (pinned_c _ ⟨#[100]⟩ _ none 0 0 false false false false).mono ?_; rintro e w8 ⟨rfl, hx8⟩; have hE8 := hE7.trans hx8))
    | fail)
  go_ret
  exact ⟨rfl, hE8⟩
end Go.Proofs.Ytdjnjhlgpflcjaa
