/- TrackPlain where all may be (printed by gen_trX.py). -/
import Derived.Test.YtdjnjhlgpflcjaaTrW
import Derived.Test.YtdjnjhlgpflcjaaTrP
import Derived.Test.YtdjnjhlgpflcjaaTrK1
namespace Go.Proofs.Ytdjnjhlgpflcjaa
open Go.RowKit

set_option maxRecDepth 100000 in
set_option maxHeartbeats 8000000 in
theorem plain_1 (w : World) (s : ByteArray) (Av At : Option Addr) (nv cv nt ct : Nat) (tr us lk od : Bool) (st : Int) (f h g : Nat → ByteArray) (hnv : nv ≤ 200) (hnt : nt ≤ 200) (pb : Bool)
    (hp : (tr || us || lk || od || decide (0 < nt)) = pb) (hv : VarsAt w Av nv f h) (ht : StrsAt w At nt g) (hck : AnyCk w (trC s (.slice Av nv cv) (.slice At nt ct) tr us lk od)) (hbs : AnyBS w (.slice At nt ct) ⟨#[]⟩)
    (hs2 : pb = false → ∀ w', Ext w w' → Calls Try.prog 19 #[.agg (trC s (.slice Av nv cv) (.slice At nt ct) tr us lk od).toArray, .agg (trC s (.slice Av nv cv) nilV false false false false).toArray] w' (RetTrue w')) :
    Calls Try.prog 6 #[.agg (trC s (.slice Av nv cv) (.slice At nt ct) tr us lk od).toArray, .bool false, .int .u16 st] w (RetTrue w) := by
  have HV := Lib.hid hv
  have HT := Lib.hid ht
  have HCK := Lib.hid hck
  have HBS := Lib.hid hbs
  have HN1 := Lib.hid (show nv ≤ 1000 by omega)
  have HN2 := Lib.hid (show nt ≤ 1000 by omega)
  have HP := Lib.hid hp
  have HS2 := Lib.hid hs2
  obtain ⟨b, hb⟩ : ∃ b, inTrans st = b := ⟨_, rfl⟩
  have HB := Lib.hid hb
  have hbb : (bits .and .u16 st 1 != 0) = b := hb
  have g1 : ¬ (200 < (nv : Int)) := by omega
  have g2 : ¬ (200 < (nt : Int)) := by omega
  have tS : True := trivial
  have tT : True := trivial
  clear hv ht hck hbs hp hs2 hb hnv hnt
  cases pb
  all_goals
    go_enter Try.func6, Try.ntmps6
    go_wp2_with (first
      | (go_at_call 7; refine (lives23_c _).mono ?_; rintro e w1 ⟨rfl, hx1⟩; have B3 := (BoxF.new w (trC s (.slice Av nv cv) (.slice At nt ct) tr us lk od) 35).ext hx1; have hE : Ext w w1 := ((Ext.refl w).alloc _).trans hx1; obtain ⟨d0, d1, d2, d3, d4, d5, d6⟩ := B3.c7; clear hx1)
      | (go_at_call 18; refine (HCK.out _ hE).mono ?_; rintro e w2 ⟨rfl, hx2⟩; replace hE := hE.trans hx2; replace B3 := B3.ext hx2; clear d0 d1 d2 d3 d4 d5 d6 hx2)
      | ((with_reducible show wpList _ _ _ (⟨none, Op.store 39 _ _, _, _, _, _⟩ :: _) _ _); refine wpl_store_box rfl _ _ _ rfl _ [.int .i64 1, .string ⟨#[]⟩, .string ⟨#[]⟩] rfl rfl (BoxF.new w2 [.int .i64 0, .string ⟨#[]⟩, .string ⟨#[]⟩] _) rfl (by kernel_rfl) (by rfl) ?_; intro w3 B7 O3; have E4 : Ext w2 w3 := ((Ext.refl w2).alloc _).on O3 (Nat.le_refl _); obtain ⟨d0, d1, d2, d3, d4, d5, d6⟩ := (B3.ext E4).c7; obtain ⟨k0, k1, k2⟩ := B7.c3)
      | (go_at_call 10; refine (replied_1 _ s Av At nv cv nt ct tr us lk od ⟨#[]⟩ ⟨#[]⟩ st b HB.out (fun w' h' => HCK.out w' ((hE.trans E4).trans h')) (fun w' h' => HBS.out w' ((hE.trans E4).trans h'))).mono ?_; rintro e w5 ⟨rfl, hx5⟩; replace hE := (hE.trans E4).trans hx5; replace B3 := (B3.ext E4).ext hx5; clear d0 d1 d2 d3 d4 d5 d6 k0 k1 k2 hx5 E4)
      | ((with_reducible show wpList _ _ _ (⟨none, Op.store 35 _ _, _, _, _, _⟩ :: _) _ _); clear tS; refine wpl_store_box rfl _ _ _ rfl _ (trC s (.slice Av nv cv) (.slice At nt ct) b us lk od) rfl rfl (BoxF.new w5 tr0 _) rfl (by kernel_rfl) (by rfl) ?_; intro w6 B8 O6; have E7 : Ext w5 w6 := ((Ext.refl w5).alloc _).on O6 (Nat.le_refl _); obtain ⟨d0, d1, d2, d3, d4, d5, d6⟩ := (B3.ext E7).c7; obtain ⟨y0, y1, y2, y3, y4, y5, y6⟩ := B8.c7)
      | ((with_reducible show wpList _ _ _ (⟨none, Op.store 4 _ _, _, _, _, _⟩ :: _) _ _); refine wpl_store_cell rfl _ _ _ rfl w5.heap.size 3 (.bool tr) rfl rfl rfl rfl (by kernel_rfl) B8 (by simp) ?_; intro w7 B8x O7; replace B8 : BoxF w7 w5.heap.size (trC s (.slice Av nv cv) (.slice At nt ct) tr us lk od) := B8x; clear B8x d0 d1 d2 d3 d4 d5 d6 y0 y1 y2 y3 y4 y5 y6; replace E7 := E7.on O7 (Nat.le_refl _); obtain ⟨d0, d1, d2, d3, d4, d5, d6⟩ := (B3.ext E7).c7; obtain ⟨y0, y1, y2, y3, y4, y5, y6⟩ := B8.c7)
      | (go_at_call 19; clear tT; refine (same_tt _ s Av At At nv cv nt ct ct tr us lk od f h g HN1.out HN2.out (HV.out.ext (hE.trans E7)) (HT.out.ext (hE.trans E7)) (HT.out.ext (hE.trans E7))).mono ?_; rintro e w8 ⟨rfl, hx8⟩; replace hE := (hE.trans E7).trans hx8; replace B3 := (B3.ext E7).ext hx8; clear d0 d1 d2 d3 d4 d5 d6 y0 y1 y2 y3 y4 y5 y6 E7 hx8 B8; obtain ⟨d0, d1, d2, d3, d4, d5, d6⟩ := B3.c7)
      | ((with_reducible show wpList _ _ _ (⟨none, Op.store 35 _ _, _, _, _, _⟩ :: _) _ _); refine wpl_store_box rfl _ _ _ rfl _ (trC s (.slice Av nv cv) nilV false false false false) rfl rfl (BoxF.new w8 tr0 _) rfl (by kernel_rfl) (by rfl) ?_; intro w9 B10 O9; have E9 : Ext w8 w9 := ((Ext.refl w8).alloc _).on O9 (Nat.le_refl _); replace hE := hE.trans E9; replace B3 := B3.ext E9; clear d0 d1 d2 d3 d4 d5 d6; obtain ⟨d0, d1, d2, d3, d4, d5, d6⟩ := B3.c7)
      | (go_at_call 13; refine (pinned_c _ s _ At nt ct tr us lk od).mono ?_; rintro e w10 ⟨he, hx10⟩; rw [HP.out] at he; subst he; replace hE := hE.trans hx10; clear d0 d1 d2 d3 d4 d5 d6; obtain ⟨d0, d1, d2, d3, d4, d5, d6⟩ := (B3.ext hx10).c7; obtain ⟨z0, z1, z2, z3, z4, z5, z6⟩ := (B10.ext hx10).c7)
      | (go_at_call 19; refine (HS2.out (by trivial) _ hE).mono ?_; rintro e w11 ⟨rfl, hx11⟩; replace hE := hE.trans hx11)
      | fail)
    go_ret
    exact ⟨rfl, hE⟩
end Go.Proofs.Ytdjnjhlgpflcjaa
