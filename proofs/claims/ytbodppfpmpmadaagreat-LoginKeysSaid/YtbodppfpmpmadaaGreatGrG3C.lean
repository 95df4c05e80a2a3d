import Derived.Test.YtbodppfpmpmadaaGreatL12C
import Derived.Deep.RegionHeld3
namespace Go.Proofs.YtbodppfpmpmadaaGreat
open Go.RowKit

set_option linter.unusedVariables false in
set_option maxRecDepth 100000 in
set_option maxHeartbeats 16000000 in
theorem readGreeting_f (w : World) (v : Value) (l : List UInt8) (hr : Rd w v l) (hkp0 : hasC (greetM (l, 0)).1.caps 524288 = false) : Calls Tryz.prog 121 #[v] w (RetGre w (overP greetM gre0 l)) := by
  obtain ⟨A0, cap0, hv, _, _, _, _⟩ := id hr
  have HR := Lib.hid hr
  clear hr
  subst hv
  obtain ⟨b1, s1, h1⟩ := byte_one (l, 0)
  obtain ⟨x1, hx1⟩ : ∃ x1 : Int, x1 = (b1.toNat : Int) := ⟨_, rfl⟩
  obtain ⟨q1, hk1⟩ : ∃ q, (x1 != 10) = q := ⟨_, rfl⟩
  obtain ⟨s2, h2⟩ : ∃ s, rW q1 s1 = s := ⟨_, rfl⟩
  obtain ⟨ver, s3, h3⟩ : ∃ x s, rZ s2 = (x, s) := ⟨_, _, rfl⟩
  obtain ⟨thr, s4, h4⟩ : ∃ x s, rX 4 s3 = (x, s) := ⟨_, _, rfl⟩
  obtain ⟨n1, s5, h5⟩ : ∃ x s, rB 8 s4 = (x, s) := ⟨_, _, rfl⟩
  obtain ⟨k1, hn1⟩ : ∃ k, nonceOk n1 = k := ⟨_, rfl⟩
  obtain ⟨s6, h6⟩ : ∃ s, rW (!k1) s5 = s := ⟨_, rfl⟩
  obtain ⟨s7, h7⟩ : ∃ s, r0 1 s6 = s := ⟨_, rfl⟩
  obtain ⟨lo, s8, h8⟩ : ∃ x s, rX 2 s7 = (x, s) := ⟨_, _, rfl⟩
  obtain ⟨kc, hkc⟩ : ∃ k, hasC (lo % 4294967296) 33280 = k := ⟨_, rfl⟩
  obtain ⟨s9, h9⟩ : ∃ s, rW (!kc) s8 = s := ⟨_, rfl⟩
  obtain ⟨b2, s10, h10⟩ := byte_one s9
  obtain ⟨xc, hxc⟩ : ∃ x1 : Int, x1 = (b2.toNat : Int) := ⟨_, rfl⟩
  obtain ⟨st, s11, h11⟩ : ∃ x s, rX 2 s10 = (x, s) := ⟨_, _, rfl⟩
  obtain ⟨hi, s12, h12⟩ : ∃ x s, rX 2 s11 = (x, s) := ⟨_, _, rfl⟩
  obtain ⟨b3, s13, h13⟩ := byte_one s12
  obtain ⟨xm, hxm⟩ : ∃ x1 : Int, x1 = (b3.toNat : Int) := ⟨_, rfl⟩
  obtain ⟨kp, hkp⟩ : ∃ k, hasC (capsOr lo hi) 524288 = k := ⟨_, rfl⟩
  obtain ⟨qm, hqm⟩ : ∃ q, (xm != (if kp then 21 else 0)) = q := ⟨_, rfl⟩
  obtain ⟨s14, h14⟩ : ∃ s, rW qm s13 = s := ⟨_, rfl⟩
  obtain ⟨s15, h15⟩ : ∃ s, r0 10 s14 = s := ⟨_, rfl⟩
  obtain ⟨n2, s16, h16⟩ : ∃ x s, rB 12 s15 = (x, s) := ⟨_, _, rfl⟩
  obtain ⟨k2, hn2⟩ : ∃ k, nonceOk n2 = k := ⟨_, rfl⟩
  obtain ⟨s17, h17⟩ : ∃ s, rW (!k2) s16 = s := ⟨_, rfl⟩
  obtain ⟨s18, h18⟩ : ∃ s, r0 1 s17 = s := ⟨_, rfl⟩
  obtain ⟨pl, s19, h19⟩ : ∃ x s, optZ kp s18 = (x, s) := ⟨_, _, rfl⟩
  obtain ⟨s20, h20⟩ : ∃ s, rO s19 = s := ⟨_, rfl⟩
  have hM : greetM (l, 0) = (⟨ver, thr % 4294967296, n1 ++ n2, capsOr lo hi, xc, st % 65536, pl⟩, s19) := by
    have e1 : byteI [b1] = x1 := hx1.symm
    have e2 : byteI [b2] = xc := hxc.symm
    have e3 : byteI [b3] = xm := hxm.symm
    simp only [greetM, greetH, greetC, greetT, bindR, chkR, pureR, plugN, h1, e1, hk1, h2, h3, h4, h5, hn1, h6, h7, h8, hkc, h9, h10, e2, h11, h12, hkp, h13, e3, hqm, h14, h15, h16, hn2, h17, h18, h19]
  have hS : overP greetM gre0 l = (if s20.2 = 0 then ⟨ver, thr % 4294967296, n1 ++ n2, capsOr lo hi, xc, st % 65536, pl⟩ else gre0, s20.2) := by
    unfold overP
    rw [hM, h20]
  rw [hM] at hkp0
  obtain rfl : kp = false := hkp.symm.trans hkp0
  clear hM hkp0
  have hl8 := rB_length 8 s4
  rw [h5] at hl8
  have hl12 := rB_length 12 s15
  rw [h16] at hl12
  dsimp only at hl8 hl12
  have HL8 := Lib.hid hl8
  have HL12 := Lib.hid hl12
  have HX1 := Lib.hid hx1
  have HXC := Lib.hid hxc
  have HXM := Lib.hid hxm
  have HK1 := Lib.hid hn1
  have HK2 := Lib.hid hn2
  have HKC := Lib.hid hkc
  have HKP := Lib.hid hkp
  have H1 := Lib.hid h1
  have H2 := Lib.hid h2
  have H3 := Lib.hid h3
  have H4 := Lib.hid h4
  have H5 := Lib.hid h5
  have H6 := Lib.hid h6
  have H7 := Lib.hid h7
  have H8 := Lib.hid h8
  have H9 := Lib.hid h9
  have H10 := Lib.hid h10
  have H11 := Lib.hid h11
  have H12 := Lib.hid h12
  have H13 := Lib.hid h13
  have H14 := Lib.hid h14
  have H15 := Lib.hid h15
  have H16 := Lib.hid h16
  have H17 := Lib.hid h17
  have H18 := Lib.hid h18
  have H20 := Lib.hid h20
  clear hl8 hl12 hx1 hxc hxm hn1 hn2 hkc hkp h1 h2 h3 h4 h5 h6 h7 h8 h9 h10 h11 h12 h13 h14 h15 h16 h17 h18 h20
  have hqm2 : (xm != 0) = qm := hqm
  obtain ⟨rfl, rfl⟩ : [] = pl ∧ s18 = s19 := Prod.mk.inj (show ([], s18) = (pl, s19) from h19)
  clear h19 hqm
  obtain ⟨R, hR⟩ : ∃ R, overP greetM gre0 l = R := ⟨_, rfl⟩
  rw [hR]
  have HRE := Lib.hid (hR.symm.trans hS)
  clear hS hR
  go_enter Tryz.func121, Tryz.ntmps121
  go_wp2_with fail
  have S0 : St w _ (w.heap.size + 1 + 1) _ [.string ⟨#[]⟩, .int .u32 0, .slice none 0 0, .int .u32 0, .int .u8 0, .int .u16 0, .string ⟨#[]⟩] [.string ⟨#[]⟩, .int .u32 0, .slice none 0 0, .int .u32 0, .int .u8 0, .int .u16 0, .string ⟨#[]⟩] := St.start w _ l HR.out [.string ⟨#[]⟩, .int .u32 0, .slice none 0 0, .int .u32 0, .int .u8 0, .int .u16 0, .string ⟨#[]⟩] 29 114 #[.string ⟨#[]⟩, .int .u32 0, .slice none 0 0, .int .u32 0, .int .u8 0, .int .u16 0, .string ⟨#[]⟩] rfl
  generalize ((w.alloc _).alloc _).alloc _ = w0 at S0 ⊢
  go_wp2_with (first
    | (go_at_call 80; refine (take1_g w _ _ _ _ x1 _ HX1.out S0.r H1.out).mono ?_; rintro e w1 ⟨gb1, cb1, rfl, cell1, R1, O1⟩; have S1 := S0.onR R1 O1; clear S0 R1)
    | (go_at_call 79; refine (bad_g w _ _ _ _ (q1) S1.r H2.out).mono ?_; rintro e w2 ⟨rfl, R2, O2⟩; have S2 := S1.onR R2 O2; clear S1 R2)
    | (go_at_call 81; refine (ended_g w _ _ _ _ _ S2.r H3.out).mono ?_; rintro e w3 ⟨rfl, R3, O3⟩; have S3 := S2.onR R3 O3; clear S2 R3)
    | ((with_reducible show AtW 9); refine wpl_store_cell rfl _ _ _ rfl (w.heap.size + 1 + 1) 0 (.string (strL ver)) rfl rfl rfl rfl (by kernel_rfl) S3.b (by simp) ?_; intro w4 B4 O4; have S4 : St w _ (w.heap.size + 1 + 1) _ [.string ⟨#[]⟩, .int .u32 0, .slice none 0 0, .int .u32 0, .int .u8 0, .int .u16 0, .string ⟨#[]⟩] [.string (strL ver), .int .u32 0, .slice none 0 0, .int .u32 0, .int .u8 0, .int .u16 0, .string ⟨#[]⟩] := S3.onV B4 O4; clear S3)
    | (go_at_call 82; refine (fixed_g w _ _ _ 4 _ _ S4.r (by omega) (by omega) H4.out).mono ?_; rintro e w5 ⟨rfl, R5, O5⟩; have S5 := S4.onR R5 O5; clear S4 R5)
    | ((with_reducible show AtW 25); refine wpl_store_cell rfl _ _ _ rfl (w.heap.size + 1 + 1) 1 (.int .u32 (thr % 4294967296)) rfl rfl rfl rfl (by kernel_rfl) S5.b (by simp) ?_; intro w6 B6 O6; have S6 : St w _ (w.heap.size + 1 + 1) _ [.string ⟨#[]⟩, .int .u32 0, .slice none 0 0, .int .u32 0, .int .u8 0, .int .u16 0, .string ⟨#[]⟩] [.string (strL ver), .int .u32 (thr % 4294967296), .slice none 0 0, .int .u32 0, .int .u8 0, .int .u16 0, .string ⟨#[]⟩] := S5.onV B6 O6; clear S5)
    | (go_at_call 80; refine (takeS_g w _ _ _ 8 _ _ _ rfl S6.r (by omega) H5.out).mono ?_; rintro e w7 ⟨A7, c7, rfl, ob, R7, O7⟩; have ltob := S6.lt; have loob := S6.lo; have S7 := S6.onR R7 O7; have ob := ob.more (base' := w.heap.size + 3) (by have h7 := S6.lt; omega); clear S6 R7)
    | ((with_reducible show AtW 22); refine wpl_store_cell rfl _ _ _ rfl (w.heap.size + 1 + 1) 2 (.slice A7 8 c7) rfl rfl rfl rfl (by kernel_rfl) S7.b (by simp) ?_; intro w8 B8 O8; have S8 : St w _ (w.heap.size + 1 + 1) _ [.string ⟨#[]⟩, .int .u32 0, .slice none 0 0, .int .u32 0, .int .u8 0, .int .u16 0, .string ⟨#[]⟩] [.string (strL ver), .int .u32 (thr % 4294967296), .slice A7 8 c7, .int .u32 0, .int .u8 0, .int .u16 0, .string ⟨#[]⟩] := S7.onV B8 O8; replace ob := ob.keepB O8 (fun e => by have h9 := (ob.ltB e).1; omega); clear S7; have p8_2 : w8.cell? ⟨(w.heap.size + 1 + 1), 2, none⟩ = some (.slice A7 8 c7) := S8.b.at (j := 2) rfl)
    | (go_at_call 167; refine (nonce_g _ _ _ k1 ob.rd HK1.out).mono ?_; rintro e wx ⟨rfl, rfl⟩)
    | (go_at_call 79; refine (bad_g w _ _ _ _ (!k1) S8.r H6.out).mono ?_; rintro e w9 ⟨rfl, R9, O9⟩; have S9 := S8.onR R9 O9; replace ob := ob.keepB O9 (fun e => by have h9 := (ob.ltB e).1; omega); clear S8 R9)
    | (go_at_call 154; refine (zeros_g1 w _ _ _ _ S9.r H7.out).mono ?_; rintro e w10 ⟨rfl, R10, O10⟩; have S10 := S9.onR R10 O10; replace ob := ob.keepB O10 (fun e => by have h9 := (ob.ltB e).1; omega); clear S9 R10)
    | (go_at_call 82; refine (fixed_g w _ _ _ 2 _ _ S10.r (by omega) (by omega) H8.out).mono ?_; rintro e w11 ⟨rfl, R11, O11⟩; have S11 := S10.onR R11 O11; replace ob := ob.keepB O11 (fun e => by have h9 := (ob.ltB e).1; omega); clear S10 R11)
    | ((with_reducible show AtW 26); refine wpl_store_cell rfl _ _ _ rfl (w.heap.size + 1 + 1) 3 (.int .u32 (lo % 4294967296)) rfl rfl rfl rfl (by kernel_rfl) S11.b (by simp) ?_; intro w12 B12 O12; have S12 : St w _ (w.heap.size + 1 + 1) _ [.string ⟨#[]⟩, .int .u32 0, .slice none 0 0, .int .u32 0, .int .u8 0, .int .u16 0, .string ⟨#[]⟩] [.string (strL ver), .int .u32 (thr % 4294967296), .slice A7 8 c7, .int .u32 (lo % 4294967296), .int .u8 0, .int .u16 0, .string ⟨#[]⟩] := S11.onV B12 O12; replace ob := ob.keepB O12 (fun e => by have h9 := (ob.ltB e).1; omega); clear S11; have p12_3 : w12.cell? ⟨(w.heap.size + 1 + 1), 3, none⟩ = some (.int .u32 (lo % 4294967296)) := S12.b.at (j := 3) rfl)
    | (go_at_call 83; refine (has_g _ _ _ kc HKC.out).mono ?_; rintro e wx ⟨rfl, rfl⟩)
    | (go_at_call 79; refine (bad_g w _ _ _ _ (!kc) S12.r H9.out).mono ?_; rintro e w13 ⟨rfl, R13, O13⟩; have S13 := S12.onR R13 O13; replace ob := ob.keepB O13 (fun e => by have h9 := (ob.ltB e).1; omega); clear S12 R13)
    | (go_at_call 80; refine (take1_g w _ _ _ _ xc _ HXC.out S13.r H10.out).mono ?_; rintro e w14 ⟨gb14, cb14, rfl, cell14, R14, O14⟩; have S14 := S13.onR R14 O14; replace ob := ob.keepB O14 (fun e => by have h9 := (ob.ltB e).1; omega); clear S13 R14)
    | ((with_reducible show AtW 5); refine wpl_store_cell rfl _ _ _ rfl (w.heap.size + 1 + 1) 4 (.int .u8 xc) rfl rfl rfl rfl (by kernel_rfl) S14.b (by simp) ?_; intro w15 B15 O15; have S15 : St w _ (w.heap.size + 1 + 1) _ [.string ⟨#[]⟩, .int .u32 0, .slice none 0 0, .int .u32 0, .int .u8 0, .int .u16 0, .string ⟨#[]⟩] [.string (strL ver), .int .u32 (thr % 4294967296), .slice A7 8 c7, .int .u32 (lo % 4294967296), .int .u8 xc, .int .u16 0, .string ⟨#[]⟩] := S14.onV B15 O15; replace ob := ob.keepB O15 (fun e => by have h9 := (ob.ltB e).1; omega); clear S14)
    | (go_at_call 82; refine (fixed_g w _ _ _ 2 _ _ S15.r (by omega) (by omega) H11.out).mono ?_; rintro e w16 ⟨rfl, R16, O16⟩; have S16 := S15.onR R16 O16; replace ob := ob.keepB O16 (fun e => by have h9 := (ob.ltB e).1; omega); clear S15 R16)
    | ((with_reducible show AtW 27); refine wpl_store_cell rfl _ _ _ rfl (w.heap.size + 1 + 1) 5 (.int .u16 (st % 65536)) rfl rfl rfl rfl (by kernel_rfl) S16.b (by simp) ?_; intro w17 B17 O17; have S17 : St w _ (w.heap.size + 1 + 1) _ [.string ⟨#[]⟩, .int .u32 0, .slice none 0 0, .int .u32 0, .int .u8 0, .int .u16 0, .string ⟨#[]⟩] [.string (strL ver), .int .u32 (thr % 4294967296), .slice A7 8 c7, .int .u32 (lo % 4294967296), .int .u8 xc, .int .u16 (st % 65536), .string ⟨#[]⟩] := S16.onV B17 O17; replace ob := ob.keepB O17 (fun e => by have h9 := (ob.ltB e).1; omega); clear S16; have p17_3 : w17.cell? ⟨(w.heap.size + 1 + 1), 3, none⟩ = some (.int .u32 (lo % 4294967296)) := S17.b.at (j := 3) rfl)
    | fail)
  (try dsimp only [Act.put])
  go_region_with (first
    | (go_at_call 82; go_must (refine (fixed_g w _ _ _ 2 _ _ (S17.r.grow (Ext.refl _).drew) (by omega) (by omega) H12.out).mono ?_; rintro e wf ⟨rfl, Rf, Of⟩; have Sf := (S17.grow (Ext.refl _).drew).onR Rf Of; have pf3 : wf.cell? ⟨(w.heap.size + 1 + 1), 3, none⟩ = some (.int .u32 (lo % 4294967296)) := Sf.b.at (j := 3) rfl; have ff3 : wf.frozen? ⟨(w.heap.size + 1 + 1), 3, none⟩ = false := Sf.b.free 3 (by simp)))
    | fail)
  all_goals
    have S18 : St w (wf.setCell ⟨(w.heap.size + 1 + 1), 3, none⟩ (.int .u32 (capsOr lo hi))) (w.heap.size + 1 + 1) _ [.string ⟨#[]⟩, .int .u32 0, .slice none 0 0, .int .u32 0, .int .u8 0, .int .u16 0, .string ⟨#[]⟩] [.string (strL ver), .int .u32 (thr % 4294967296), .slice A7 8 c7, .int .u32 (capsOr lo hi), .int .u8 xc, .int .u16 (st % 65536), .string ⟨#[]⟩] := Sf.onV (Sf.b.set 3 (.int .u32 (capsOr lo hi))) ((On.refl _ _).set 3 _)
    have oq := ((ob.ext (Ext.refl _).drew).keepB Of (fun e => by have h9 := (ob.ltB e).1; omega)).keepB ((On.refl (w.heap.size + 1 + 1) _).set 3 (.int .u32 (capsOr lo hi))) (fun e => by have h9 := (ob.ltB e).1; omega)
    clear pf3 ff3 Sf Rf Of S17 ob
    have ob := oq
    clear oq
    have p18_3 : (wf.setCell ⟨(w.heap.size + 1 + 1), 3, none⟩ (.int .u32 (capsOr lo hi))).cell? ⟨(w.heap.size + 1 + 1), 3, none⟩ = some (.int .u32 (capsOr lo hi)) := S18.b.at (j := 3) rfl
    rw [show bits .or .u32 (lo % 4294967296) (IntKind.u32.wrap (IntKind.u32.wrap hi * 65536)) = capsOr lo hi from rfl]
    generalize (wf.setCell ⟨(w.heap.size + 1 + 1), 3, none⟩ (.int .u32 (capsOr lo hi))) = w18 at S18 ob p18_3 ⊢
    by_cases he : s20.2 = 0
    · have hRe := HRE.out
      rw [if_pos he, he] at hRe
      have HRF := Lib.hid hRe
      have hb : (s20.2 != 0) = false := by simp [he]
      clear he hRe
      go_wp2_with (first
        | (go_at_call 83; refine (has_g _ _ _ false HKP.out).mono ?_; rintro e wx ⟨rfl, rfl⟩)
        | (go_at_call 80; refine (take1_g w _ _ _ _ xm _ HXM.out S18.r H13.out).mono ?_; rintro e w19 ⟨gb19, cb19, rfl, cell19, R19, O19⟩; have S19 := S18.onR R19 O19; replace ob := ob.keepB O19 (fun e => by have h9 := (ob.ltB e).1; omega); clear S18 R19)
        | (go_at_call 79; refine (bad_g w _ _ _ _ (qm) S19.r H14.out).mono ?_; rintro e w20 ⟨rfl, R20, O20⟩; have S20 := S19.onR R20 O20; replace ob := ob.keepB O20 (fun e => by have h9 := (ob.ltB e).1; omega); clear S19 R20)
        | (go_at_call 154; refine (zeros_g10 w _ _ _ _ S20.r H15.out).mono ?_; rintro e w21 ⟨rfl, R21, O21⟩; have S21 := S20.onR R21 O21; replace ob := ob.keepB O21 (fun e => by have h9 := (ob.ltB e).1; omega); clear S20 R21)
        | (go_at_call 80; refine (takeS_g w _ _ _ 12 _ _ _ rfl S21.r (by omega) H16.out).mono ?_; rintro e w22 ⟨A22, c22, rfl, oc, R22, O22⟩; have ltoc := S21.lt; have looc := S21.lo; have S22 := S21.onR R22 O22; replace ob := ob.keepB O22 (fun e => by have h9 := (ob.ltB e).1; omega); clear S21 R22)
        | (go_at_call 167; refine (nonce_g _ _ _ k2 oc.rd HK2.out).mono ?_; rintro e wx ⟨rfl, rfl⟩)
        | (go_at_call 79; refine (bad_g w _ _ _ _ (!k2) S22.r H17.out).mono ?_; rintro e w23 ⟨rfl, R23, O23⟩; have S23 := S22.onR R23 O23; replace ob := ob.keepB O23 (fun e => by have h9 := (ob.ltB e).1; omega); replace oc := oc.keepB O23 (fun e => by have h9 := (oc.ltB e).1; omega); clear S22 R23; have p23_2 : w23.cell? ⟨(w.heap.size + 1 + 1), 2, none⟩ = some (.slice A7 8 c7) := S23.b.at (j := 2) rfl)
        | ((with_reducible show AtS 87); (refine wpl_append_rds bt ob oc.rd rfl _ _ rfl rfl rfl (by have h1 := HL8.out; have h2 := HL12.out; omega) (by have h7 := S23.lt; omega) ?_; intro Ad kd cd w24 od hbd; have S24 : St w _ (w.heap.size + 1 + 1) _ [.string ⟨#[]⟩, .int .u32 0, .slice none 0 0, .int .u32 0, .int .u8 0, .int .u16 0, .string ⟨#[]⟩] [.string (strL ver), .int .u32 (thr % 4294967296), .slice A7 8 c7, .int .u32 (capsOr lo hi), .int .u8 xc, .int .u16 (st % 65536), .string ⟨#[]⟩] := S23.below hbd (by omega); clear S23 ob oc))
        | ((with_reducible show AtW 22); refine wpl_store_cell rfl _ _ _ rfl (w.heap.size + 1 + 1) 2 (.slice Ad kd cd) rfl rfl rfl rfl (by kernel_rfl) S24.b (by simp) ?_; intro w25 B25 O25; have S25 : St w _ (w.heap.size + 1 + 1) _ [.string ⟨#[]⟩, .int .u32 0, .slice none 0 0, .int .u32 0, .int .u8 0, .int .u16 0, .string ⟨#[]⟩] [.string (strL ver), .int .u32 (thr % 4294967296), .slice Ad kd cd, .int .u32 (capsOr lo hi), .int .u8 xc, .int .u16 (st % 65536), .string ⟨#[]⟩] := S24.onV B25 O25; replace od := od.keepB O25 (fun e => by have h9 := (od.ltB e).1; omega); clear S24)
        | (go_at_call 154; refine (zeros_g1 w _ _ _ _ S25.r H18.out).mono ?_; rintro e w26 ⟨rfl, R26, O26⟩; have S26 := S25.onR R26 O26; replace od := od.keepB O26 (fun e => by have h9 := (od.ltB e).1; omega); clear S25 R26; have p26_3 : w26.cell? ⟨(w.heap.size + 1 + 1), 3, none⟩ = some (.int .u32 (capsOr lo hi)) := S26.b.at (j := 3) rfl)
        | (go_at_call 85; refine (over_g w _ _ _ _ S26.r H20.out).mono ?_; rintro e w27 ⟨rfl, R27, O27⟩; have S27 := S26.onR R27 O27; replace od := od.keepB O27 (fun e => by have h9 := (od.ltB e).1; omega); clear S26 R27; have c1 := S27.r.c1)
        | ((with_reducible show AtS 103); refine wpl_load_box rfl _ _ rfl _ rfl S27.b Tryz.underlying29 rfl (by kernel_rfl) ?_)
        | ((with_reducible show AtW 29); refine wpl_store_box rfl _ _ _ rfl _ [.string (strL ver), .int .u32 (thr % 4294967296), .slice Ad kd cd, .int .u32 (capsOr lo hi), .int .u8 xc, .int .u16 (st % 65536), .string ⟨#[]⟩] rfl rfl S27.b0 rfl (by kernel_rfl) (by rfl) ?_; intro wz Bz Oz; replace od := od.keepB Oz (fun e => by have h9 := (od.ltB e).1; have := w.heap.size; omega))
        | fail)
      try simp only [Exit.inBlock, Exit.then]
      refine ret_box rfl rfl rfl rfl Bz Tryz.underlying29 rfl (by kernel_rfl) ?_
      rw [HRF.out]
      exact ⟨_, rfl, od.rd, S27.ext.on Oz (Nat.le_refl _)⟩
    · have hRe := HRE.out
      rw [if_neg he] at hRe
      have HRF := Lib.hid hRe
      have hb : (s20.2 != 0) = true := by simpa using he
      clear he hRe
      go_wp2_with (first
        | (go_at_call 83; refine (has_g _ _ _ false HKP.out).mono ?_; rintro e wx ⟨rfl, rfl⟩)
        | (go_at_call 80; refine (take1_g w _ _ _ _ xm _ HXM.out S18.r H13.out).mono ?_; rintro e w19 ⟨gb19, cb19, rfl, cell19, R19, O19⟩; have S19 := S18.onR R19 O19; replace ob := ob.keepB O19 (fun e => by have h9 := (ob.ltB e).1; omega); clear S18 R19)
        | (go_at_call 79; refine (bad_g w _ _ _ _ (qm) S19.r H14.out).mono ?_; rintro e w20 ⟨rfl, R20, O20⟩; have S20 := S19.onR R20 O20; replace ob := ob.keepB O20 (fun e => by have h9 := (ob.ltB e).1; omega); clear S19 R20)
        | (go_at_call 154; refine (zeros_g10 w _ _ _ _ S20.r H15.out).mono ?_; rintro e w21 ⟨rfl, R21, O21⟩; have S21 := S20.onR R21 O21; replace ob := ob.keepB O21 (fun e => by have h9 := (ob.ltB e).1; omega); clear S20 R21)
        | (go_at_call 80; refine (takeS_g w _ _ _ 12 _ _ _ rfl S21.r (by omega) H16.out).mono ?_; rintro e w22 ⟨A22, c22, rfl, oc, R22, O22⟩; have ltoc := S21.lt; have looc := S21.lo; have S22 := S21.onR R22 O22; replace ob := ob.keepB O22 (fun e => by have h9 := (ob.ltB e).1; omega); clear S21 R22)
        | (go_at_call 167; refine (nonce_g _ _ _ k2 oc.rd HK2.out).mono ?_; rintro e wx ⟨rfl, rfl⟩)
        | (go_at_call 79; refine (bad_g w _ _ _ _ (!k2) S22.r H17.out).mono ?_; rintro e w23 ⟨rfl, R23, O23⟩; have S23 := S22.onR R23 O23; replace ob := ob.keepB O23 (fun e => by have h9 := (ob.ltB e).1; omega); replace oc := oc.keepB O23 (fun e => by have h9 := (oc.ltB e).1; omega); clear S22 R23; have p23_2 : w23.cell? ⟨(w.heap.size + 1 + 1), 2, none⟩ = some (.slice A7 8 c7) := S23.b.at (j := 2) rfl)
        | ((with_reducible show AtS 87); (refine wpl_append_rds bt ob oc.rd rfl _ _ rfl rfl rfl (by have h1 := HL8.out; have h2 := HL12.out; omega) (by have h7 := S23.lt; omega) ?_; intro Ad kd cd w24 od hbd; have S24 : St w _ (w.heap.size + 1 + 1) _ [.string ⟨#[]⟩, .int .u32 0, .slice none 0 0, .int .u32 0, .int .u8 0, .int .u16 0, .string ⟨#[]⟩] [.string (strL ver), .int .u32 (thr % 4294967296), .slice A7 8 c7, .int .u32 (capsOr lo hi), .int .u8 xc, .int .u16 (st % 65536), .string ⟨#[]⟩] := S23.below hbd (by omega); clear S23 ob oc))
        | ((with_reducible show AtW 22); refine wpl_store_cell rfl _ _ _ rfl (w.heap.size + 1 + 1) 2 (.slice Ad kd cd) rfl rfl rfl rfl (by kernel_rfl) S24.b (by simp) ?_; intro w25 B25 O25; have S25 : St w _ (w.heap.size + 1 + 1) _ [.string ⟨#[]⟩, .int .u32 0, .slice none 0 0, .int .u32 0, .int .u8 0, .int .u16 0, .string ⟨#[]⟩] [.string (strL ver), .int .u32 (thr % 4294967296), .slice Ad kd cd, .int .u32 (capsOr lo hi), .int .u8 xc, .int .u16 (st % 65536), .string ⟨#[]⟩] := S24.onV B25 O25; replace od := od.keepB O25 (fun e => by have h9 := (od.ltB e).1; omega); clear S24)
        | (go_at_call 154; refine (zeros_g1 w _ _ _ _ S25.r H18.out).mono ?_; rintro e w26 ⟨rfl, R26, O26⟩; have S26 := S25.onR R26 O26; replace od := od.keepB O26 (fun e => by have h9 := (od.ltB e).1; omega); clear S25 R26; have p26_3 : w26.cell? ⟨(w.heap.size + 1 + 1), 3, none⟩ = some (.int .u32 (capsOr lo hi)) := S26.b.at (j := 3) rfl)
        | (go_at_call 85; refine (over_g w _ _ _ _ S26.r H20.out).mono ?_; rintro e w27 ⟨rfl, R27, O27⟩; have S27 := S26.onR R27 O27; replace od := od.keepB O27 (fun e => by have h9 := (od.ltB e).1; omega); clear S26 R27; have c1 := S27.r.c1)
        | ((with_reducible show AtW 29); refine wpl_store_box rfl _ _ _ rfl _ [.string ⟨#[]⟩, .int .u32 0, .slice none 0 0, .int .u32 0, .int .u8 0, .int .u16 0, .string ⟨#[]⟩] rfl rfl S27.b0 rfl (by kernel_rfl) (by rfl) ?_; intro wz Bz Oz; replace od := od.keepB Oz (fun e => by have h9 := (od.ltB e).1; have := w.heap.size; omega))
        | fail)
      try simp only [Exit.inBlock, Exit.then]
      refine ret_box rfl rfl rfl rfl Bz Tryz.underlying29 rfl (by kernel_rfl) ?_
      rw [HRF.out]
      exact ⟨_, rfl, Rd.nil _, S27.ext.on Oz (Nat.le_refl _)⟩
theorem readGreeting_fa (w : World) (v : Value) (l : List UInt8) (hr : Rd w v l) (hkp0 : hasC (greetM (l, 0)).1.caps 524288 = false) (_ : (overP greetM gre0 l).2 = 0) : Calls Tryz.prog 121 #[v] w (RetGre w (overP greetM gre0 l)) := readGreeting_f w v l hr hkp0
theorem readGreeting_fz (w : World) (v : Value) (l : List UInt8) (hr : Rd w v l) (hkp0 : hasC (greetM (l, 0)).1.caps 524288 = false) (_ : (overP greetM gre0 l).2 ≠ 0) : Calls Tryz.prog 121 #[v] w (RetGre w (overP greetM gre0 l)) := readGreeting_f w v l hr hkp0
end Go.Proofs.YtbodppfpmpmadaaGreat

