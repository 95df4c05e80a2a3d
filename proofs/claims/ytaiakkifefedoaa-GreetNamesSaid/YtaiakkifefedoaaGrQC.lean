import Derived.Test.YtaiakkifefedoaaGrQaC
import Derived.Test.YtaiakkifefedoaaGrPlC
/- The worked examples of the chapter on logins' packets. -/
namespace Go.Proofs.Ytaiakkifefedoaa
open Go.RowKit

def ntvL : List UInt8 := [109, 121, 115, 113, 108, 95, 110, 97, 116, 105, 118, 101, 95, 112, 97, 115, 115, 119, 111, 114, 100]
set_option maxRecDepth 100000 in
set_option maxHeartbeats 1000000 in
theorem greetNames_c (w : World) : Calls Try.prog 3 #[] w fun e w' => e = .returned (.bool true) ∧ Ext w w' := by
  obtain ⟨G, hG⟩ : ∃ G, G = switchB (ntvL, nonceT) := ⟨_, rfl⟩
  have hGl : G.length = 44 := by rw [hG]; decide +kernel
  have HG := Lib.hid hG
  have HGL := Lib.hid hGl
  have HOK := Lib.hid (show switchOk (ntvL, nonceT) from ⟨by decide, by decide +kernel, by decide +kernel⟩)
  have N1 := Lib.hid (show nonceT.length = 20 by decide +kernel)
  have F1 := Lib.hid (show overP switchM ([], []) [254, 97] = (([], []), 4) by decide +kernel)
  have F2 := Lib.hid (show (overP answerM ans0 []).2 = 4 by decide +kernel)
  have F3 := Lib.hid (show (overP answerM ans0 (List.replicate 32 0)).2 = 5 by decide +kernel)
  clear hG hGl
  go_enter Try.func3, Try.ntmps3
  go_wp2_with (first
    | (go_at_call 7; refine (nonce12_c _).mono ?_; rintro e w1 ⟨v1, rfl, ho1, hx1⟩; obtain ⟨A1, c1, hv1, _⟩ := id ho1.rd; rw [N1.out] at hv1; subst hv1)
    | (go_at_call 6; go_loud (refine (appendSwitch_g _ ntvL nonceT _ ho1.rd HOK.out (by decide)).mono ?_; rintro e w2 ⟨v2, rfl, ho2, hx2⟩; rw [← HG.out] at ho2; obtain ⟨A2, c2, hv2, _⟩ := id ho2.rd; rw [HGL.out] at hv2; subst hv2; have hE2 := hx1.trans hx2; clear ho1 ho2 hx1 hx2))
    | (go_at_call 8; have _t := hE2; go_loud (refine (readSwitch_n _ _ [254, 97] 4 (rd_lit _ _ [254, 97] (by rfl) (by simp) 2 _ (by rfl) (by first | rfl | (simp; done))) F1.out).mono ?_; rintro e w3 ⟨A3, c3, rfl, hx3⟩; have hE3 := (hE2.alloc _).trans hx3; clear hE2 hx3))
    | ((with_reducible show wpList _ _ _ (⟨some 4, _, _, _, _, _⟩ :: _) _ _); refine wpl_alloc rfl _ rfl [.string ⟨#[]⟩, .slice none 0 0] (by kernel_rfl) ?_; intro w4 B4 hx4; have hE4 := hE3.trans hx4)
    | ((with_reducible show wpList _ _ _ (⟨none, Op.store _ _ _, _, _, _, _⟩ :: _) _ _); go_loud (refine wpl_store_box rfl _ _ _ rfl _ [.string ⟨#[]⟩, .slice A3 0 c3] rfl rfl B4 rfl (by kernel_rfl) (by rfl) ?_; intro w5 B5 O5; have hE5 : Ext w w5 := hE4.on O5 (Ext.size hE3); clear hE3 hE4 hx4 B4 B5 O5))
    | (go_at_call 9; have _t := hE5; go_loud (refine (readMore_ok _ _ (rd_lit _ _ [1, 3] (by rfl) (by simp) 2 _ (by rfl) (by first | rfl | (simp; done)))).mono ?_; rintro e w6 ⟨v6, rfl, ho6, hx6⟩; obtain ⟨A6, c6, hv6, _⟩ := id ho6.rd; subst hv6; have hE6 := (hE5.alloc _).trans hx6; clear hE5 hx6))
    | (go_at_call 9; have _t := hE6; go_loud (refine (readMore_bad _ _ (rd_lit _ _ [2] (by rfl) (by simp) 1 _ (by rfl) (by first | rfl | (simp; done)))).mono ?_; rintro e w7 ⟨v7, rfl, _, hx7⟩; have hE7 := (hE6.alloc _).trans hx7; have r7 := (ho6.rd.ext ((Ext.refl _).alloc _)).ext hx7; clear hE6 hx7 ho6))
    | (go_at_call 10; have _t := hE7; refine (same_c _ _ _ [3] [3] (r7.ext ((Ext.refl _).alloc _)) (rd_lit _ _ [3] (by rfl) (by simp) 1 _ (by rfl) (by first | rfl | (simp; done))) true (by decide)).mono ?_; rintro e w8 ⟨rfl, rfl⟩; have hE8 := hE7.alloc (.cells #[.int .u8 3] 5); clear r7 hE7)
    | (go_at_call 11; have _t := hE8; go_loud (refine (appendMore_c _ _ (rd_lit _ _ [3] (by rfl) (by simp) 1 _ (by rfl) (by first | rfl | (simp; done)))).mono ?_; rintro e w9 ⟨v9, rfl, ho9, hx9⟩; have hE9 := (hE8.alloc _).trans hx9; clear hE8 hx9))
    | (go_at_call 10; have _t := hE9; go_loud (refine (same_c _ _ _ [1, 3] [1, 3] (ho9.rd.ext ((Ext.refl _).alloc _)) (rd_lit _ _ [1, 3] (by rfl) (by simp) 2 _ (by rfl) (by first | rfl | (simp; done))) true (by decide)).mono ?_; rintro e w10 ⟨rfl, rfl⟩; have hE10 := hE9.alloc (.cells #[.int .u8 1, .int .u8 3] 5); clear ho9 hE9))
    | (go_at_call 12; have _t := hE10; (with_reducible show Calls _ _ #[.slice none 0 0] _ _); go_loud (refine (readAnswer_n _ _ [] 4 (Rd.nil _) (by simp) F2.out).mono ?_; rintro e w11 ⟨x11, rfl, hx11⟩; have hE11 := hE10.trans hx11; clear hE10 hx11))
    | ((with_reducible show wpList _ _ _ (⟨some 67, _, _, _, _, _⟩ :: _) _ _); go_loud (refine wpl_makeN bt 32 (by omega) rfl _ _ _ _ rfl rfl rfl ?_; intro v12 w12 ho12 hx12; have hE12 := hE11.trans hx12; clear hE11 hx12))
    | (go_at_call 12; have _t := hE12; go_loud (refine (readAnswer_n _ _ (List.replicate 32 0) 5 ho12.rd (by simp) F3.out).mono ?_; rintro e w13 ⟨x13, rfl, hx13⟩; have hE13 := hE12.trans hx13; clear hE12 hx13))
    | (go_at_call 13; have _t := hE13; go_loud (refine (appendAnswer_0 _).mono ?_; rintro e w14 ⟨v14, rfl, _, hx14⟩; have hE14 := hE13.trans hx14; clear hE13 hx14))
    | (go_at_call 14; have _t := hE14; go_loud (refine (lives12_c _).mono ?_; rintro e w15 ⟨rfl, hx15⟩; have hE15 := hE14.trans hx15; clear hE14 hx15))
    | fail)
  go_ret
  exact ⟨rfl, hE15⟩
end Go.Proofs.Ytaiakkifefedoaa
