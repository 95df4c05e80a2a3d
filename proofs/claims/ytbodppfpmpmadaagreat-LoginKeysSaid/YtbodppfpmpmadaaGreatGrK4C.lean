import Derived.Test.YtbodppfpmpmadaaGreatL12C
namespace Go.Proofs.YtbodppfpmpmadaaGreat
open Go.RowKit

set_option linter.unusedVariables false in
set_option maxRecDepth 100000 in
set_option maxHeartbeats 16000000 in
theorem readAnswer_rz (w : World) (v : Value) (l : List UInt8) (hr : Rd w v l) (hl : l.length ≤ 900000) (hkl : hasC ((rX 4 (l, 0)).1 % 4294967296) 2097152 = false) (he : (overP answerM ans0 l).2 ≠ 0) :
    Calls Tryz.prog 99 #[v] w (RetAnsF w (overP answerM ans0 l)) := by
  obtain ⟨A0, cap0, hv, _, _, _, _⟩ := id hr
  have HR := Lib.hid hr
  clear hr
  subst hv
  obtain ⟨cp, s1, h1⟩ : ∃ x s, rX 4 (l, 0) = (x, s) := ⟨_, _, rfl⟩
  rw [h1] at hkl
  dsimp only at hkl
  obtain ⟨kc, hkc⟩ : ∃ k, hasC (cp % 4294967296) 33280 = k := ⟨_, rfl⟩
  obtain ⟨s2, h2⟩ : ∃ s, rW (!kc) s1 = s := ⟨_, rfl⟩
  obtain ⟨mo, s3, h3⟩ : ∃ x s, rX 4 s2 = (x, s) := ⟨_, _, rfl⟩
  obtain ⟨b2, s4, h4⟩ := byte_one s3
  obtain ⟨xc, hxc⟩ : ∃ x1 : Int, x1 = (b2.toNat : Int) := ⟨_, rfl⟩
  obtain ⟨s5, h5⟩ : ∃ s, r0 23 s4 = s := ⟨_, rfl⟩
  obtain ⟨us, s6, h6⟩ : ∃ x s, rZ s5 = (x, s) := ⟨_, _, rfl⟩
  obtain ⟨bn, s7, h7⟩ := byte_one s6
  obtain ⟨nn, hnn⟩ : ∃ n, bn.toNat = n := ⟨_, rfl⟩
  obtain ⟨xn, hxn⟩ : ∃ x1 : Int, x1 = (bn.toNat : Int) := ⟨_, rfl⟩
  obtain ⟨re, s8, h8⟩ : ∃ x s, rB nn s7 = (x, s) := ⟨_, _, rfl⟩
  obtain ⟨kd, hkd⟩ : ∃ k, hasC (cp % 4294967296) 8 = k := ⟨_, rfl⟩
  obtain ⟨kp, hkp⟩ : ∃ k, hasC (cp % 4294967296) 524288 = k := ⟨_, rfl⟩
  obtain ⟨ka, hka⟩ : ∃ k, hasC (cp % 4294967296) 1048576 = k := ⟨_, rfl⟩
  obtain ⟨db, s9, h9⟩ : ∃ x s, optZ kd s8 = (x, s) := ⟨_, _, rfl⟩
  obtain ⟨pl, s10, h10⟩ : ∃ x s, optZ kp s9 = (x, s) := ⟨_, _, rfl⟩
  obtain ⟨ps, s11, h11⟩ : ∃ x s, optA ka s10 = (x, s) := ⟨_, _, rfl⟩
  obtain ⟨s12, h12⟩ : ∃ s, rO s11 = s := ⟨_, rfl⟩
  have hresp : respM false s6 = (re, s8) := by
    show (if false = true then bindR rU fun r => bindR (chkR (rW (decide (255 < r.length)))) fun _ => pureR r else bindR (rB 1) fun n => rB (n.getD 0 0).toNat) s6 = (re, s8)
    simp only [↓reduceIte, Bool.false_eq_true, bindR, h7]
    show rB (bn.toNat) s7 = _
    rw [hnn, h8]
  have hS : overP answerM ans0 l = (if s12.2 = 0 then ⟨cp % 4294967296, mo % 4294967296, xc, us, re, db, pl, ps⟩ else ans0, s12.2) := by
    have e2 : byteI [b2] = xc := hxc.symm
    simp only [overP, answerM, bindR, chkR, pureR, h1, hkc, h2, h3, h4, e2, h5, h6, hkl, hresp, hkd, h9, hkp, h10, hka, h11, h12]
  clear hresp
  have b1 := rX_len 4 (l, 0)
  rw [h1] at b1
  have b2 := rW_len (!kc) s1
  rw [h2] at b2
  have b3 := rX_len 4 s2
  rw [h3] at b3
  have b4 := rB_len 1 s3
  rw [h4] at b4
  have b5 := r0_len 23 s4
  rw [h5] at b5
  have b6 := rZ_len s5
  rw [h6] at b6
  have b7 := rB_len 1 s6
  rw [h7] at b7
  have b8 := rB_len nn s7
  rw [h8] at b8
  have b9 : s9.1.length ≤ s8.1.length := by
    cases kd with
    | true => have := rZ_len s8; rw [show rZ s8 = (db, s9) from h9] at this; exact this
    | false => rw [← (Prod.mk.inj (show ([], s8) = (db, s9) from h9)).2]; exact Nat.le_refl _
  have b10 : s10.1.length ≤ s9.1.length := by
    cases kp with
    | true => have := rZ_len s9; rw [show rZ s9 = (pl, s10) from h10] at this; exact this
    | false => rw [← (Prod.mk.inj (show ([], s9) = (pl, s10) from h10)).2]; exact Nat.le_refl _
  dsimp only at b1 b2 b3 b4 b5 b6 b7 b8
  have HL10 := Lib.hid (show s10.1.length ≤ 900000 by omega)
  have HNN := Lib.hid (show xn = (nn : Int) by rw [hxn, hnn])
  have HNL := Lib.hid (show nn ≤ 100000 by rw [← hnn]; have := bn.toNat_lt; omega)
  have HXN := Lib.hid hxn
  have hxn0 : 0 ≤ xn := by omega
  have hxn1 : xn < 256 := by have := bn.toNat_lt; omega
  clear hxn hnn
  clear b1 b2 b3 b4 b5 b6 b7 b8 b9 b10
  have HXC := Lib.hid hxc
  have HKC := Lib.hid hkc
  have HKL := Lib.hid hkl
  have HKD := Lib.hid hkd
  have HKP := Lib.hid hkp
  have HKA := Lib.hid hka
  have H1 := Lib.hid h1
  have H2 := Lib.hid h2
  have H3 := Lib.hid h3
  have H4 := Lib.hid h4
  have H5 := Lib.hid h5
  have H6 := Lib.hid h6
  have H7 := Lib.hid h7
  have H8 := Lib.hid h8
  clear h1 h2 h3 h4 h5 h6 h7 h8
  clear hxc hkc hkl hkd hkp hka hl
  rw [hS] at he ⊢
  dsimp only at he
  clear hS
  rw [if_neg he]
  have hb : (s12.2 != 0) = true := by simpa using he
  clear he
  have G9 := Lib.hid h9
  have G10 := Lib.hid h10
  have G11 := Lib.hid h11
  have G12 := Lib.hid h12
  clear h9 h10 h11 h12
  go_enter Tryz.func99, Tryz.ntmps99
  go_wp2_with fail
  have S0 : St0 w _ (l, 0) [.int .u32 0, .int .u32 0, .int .u8 0, .string ⟨#[]⟩, .slice none 0 0, .string ⟨#[]⟩, .string ⟨#[]⟩, .slice none 0 0] := St0.start w _ l HR.out [.int .u32 0, .int .u32 0, .int .u8 0, .string ⟨#[]⟩, .slice none 0 0, .string ⟨#[]⟩, .string ⟨#[]⟩, .slice none 0 0] 95 114 #[.int .u32 0, .int .u32 0, .int .u8 0, .string ⟨#[]⟩, .slice none 0 0, .string ⟨#[]⟩, .string ⟨#[]⟩, .slice none 0 0] rfl
  generalize (w.alloc _).alloc _ = w0 at S0 ⊢
  go_wp2_with (first
    | (go_at_call 82; refine (fixed_g w _ _ _ 4 _ _ S0.r (by omega) (by omega) H1.out).mono ?_; rintro e w1 ⟨rfl, R1, O1⟩; have S1 := S0.onR R1 O1; clear S0 R1)
    | ((with_reducible show AtS 5); refine wpl_alloc rfl _ rfl [.int .u32 0, .int .u32 0, .int .u8 0, .string ⟨#[]⟩, .slice none 0 0, .string ⟨#[]⟩, .string ⟨#[]⟩, .slice none 0 0] (by kernel_rfl) ?_; intro w2 B2 hx2; have S2 : St _ _ _ _ _ [.int .u32 0, .int .u32 0, .int .u8 0, .string ⟨#[]⟩, .slice none 0 0, .string ⟨#[]⟩, .string ⟨#[]⟩, .slice none 0 0] := S1.new hx2 (Nat.le_refl _) B2; clear S1)
    | ((with_reducible show AtW 95); refine wpl_store_box rfl _ _ _ rfl _ [.int .u32 (cp % 4294967296), .int .u32 0, .int .u8 0, .string ⟨#[]⟩, .slice none 0 0, .string ⟨#[]⟩, .string ⟨#[]⟩, .slice none 0 0] rfl rfl S2.b rfl (by kernel_rfl) (by rfl) ?_; intro w3 B3 O3; have S3 : St _ _ _ _ _ [.int .u32 (cp % 4294967296), .int .u32 0, .int .u8 0, .string ⟨#[]⟩, .slice none 0 0, .string ⟨#[]⟩, .string ⟨#[]⟩, .slice none 0 0] := S2.onV B3 O3; clear S2; have p3_0 : w3.cell? ⟨w1.heap.size, 0, none⟩ = some (.int .u32 (cp % 4294967296)) := S3.b.at (j := 0) rfl)
    | ((with_reducible show Calls _ _ #[_, Value.int .u32 33280] _ _); go_at_call 83; refine (has_g _ _ _ kc HKC.out).mono ?_; rintro e wx ⟨rfl, rfl⟩)
    | (go_at_call 79; refine (bad_g w _ _ _ _ (!kc) S3.r H2.out).mono ?_; rintro e w4 ⟨rfl, R4, O4⟩; have S4 := S3.onR R4 O4; clear S3 R4)
    | (go_at_call 82; refine (fixed_g w _ _ _ 4 _ _ S4.r (by omega) (by omega) H3.out).mono ?_; rintro e w5 ⟨rfl, R5, O5⟩; have S5 := S4.onR R5 O5; clear S4 R5)
    | ((with_reducible show AtW 25); refine wpl_store_cell rfl _ _ _ rfl w1.heap.size 1 (.int .u32 (mo % 4294967296)) rfl rfl rfl rfl (by kernel_rfl) S5.b (by simp) ?_; intro w6 B6 O6; have S6 : St _ _ _ _ _ [.int .u32 (cp % 4294967296), .int .u32 (mo % 4294967296), .int .u8 0, .string ⟨#[]⟩, .slice none 0 0, .string ⟨#[]⟩, .string ⟨#[]⟩, .slice none 0 0] := S5.onV B6 O6; clear S5)
    | (go_at_call 80; refine (take1_g w _ _ _ _ xc _ HXC.out S6.r H4.out).mono ?_; rintro e w7 ⟨gb7, cb7, rfl, cell7, R7, O7⟩; have S7 := S6.onR R7 O7; clear S6 R7)
    | ((with_reducible show AtW 5); refine wpl_store_cell rfl _ _ _ rfl w1.heap.size 2 (.int .u8 xc) rfl rfl rfl rfl (by kernel_rfl) S7.b (by simp) ?_; intro w8 B8 O8; have S8 : St _ _ _ _ _ [.int .u32 (cp % 4294967296), .int .u32 (mo % 4294967296), .int .u8 xc, .string ⟨#[]⟩, .slice none 0 0, .string ⟨#[]⟩, .string ⟨#[]⟩, .slice none 0 0] := S7.onV B8 O8; clear S7)
    | (go_at_call 154; refine (zeros_g23 w _ _ _ _ S8.r H5.out).mono ?_; rintro e w9 ⟨rfl, R9, O9⟩; have S9 := S8.onR R9 O9; clear S8 R9)
    | (go_at_call 81; refine (ended_g w _ _ _ _ _ S9.r H6.out).mono ?_; rintro e w10 ⟨rfl, R10, O10⟩; have S10 := S9.onR R10 O10; clear S9 R10)
    | ((with_reducible show AtW 9); refine wpl_store_cell rfl _ _ _ rfl w1.heap.size 3 (.string (strL us)) rfl rfl rfl rfl (by kernel_rfl) S10.b (by simp) ?_; intro w11 B11 O11; have S11 : St _ _ _ _ _ [.int .u32 (cp % 4294967296), .int .u32 (mo % 4294967296), .int .u8 xc, .string (strL us), .slice none 0 0, .string ⟨#[]⟩, .string ⟨#[]⟩, .slice none 0 0] := S10.onV B11 O11; clear S10; have p11_0 : w11.cell? ⟨w1.heap.size, 0, none⟩ = some (.int .u32 (cp % 4294967296)) := S11.b.at (j := 0) rfl)
    | ((with_reducible show Calls _ _ #[_, Value.int .u32 2097152] _ _); go_at_call 83; refine (has_g _ _ _ false HKL.out).mono ?_; rintro e wx ⟨rfl, rfl⟩)
    | (go_at_call 80; refine (take1_g w _ _ _ _ xn _ HXN.out S11.r H7.out).mono ?_; rintro e w12 ⟨gb12, cb12, rfl, cell12, R12, O12⟩; have S12 := S11.onR R12 O12; clear S11 R12)
    | (go_at_call 80; refine (takeS_g w _ _ _ nn _ _ _ HNN.out S12.r HNL.out H8.out).mono ?_; rintro e w13 ⟨A13, c13, rfl, ob, R13, O13⟩; have ltob := S12.lt; have loob := S12.lo; have S13 := S12.onR R13 O13; clear S12 R13)
    | ((with_reducible show AtW 22); refine wpl_store_cell rfl _ _ _ rfl w1.heap.size 4 (.slice A13 nn c13) rfl rfl rfl rfl (by kernel_rfl) S13.b (by simp) ?_; intro w14 B14 O14; have S14 : St _ _ _ _ _ [.int .u32 (cp % 4294967296), .int .u32 (mo % 4294967296), .int .u8 xc, .string (strL us), .slice A13 nn c13, .string ⟨#[]⟩, .string ⟨#[]⟩, .slice none 0 0] := S13.onV B14 O14; replace ob := ob.keepB O14 (fun e => by have h9 := (ob.ltB e).1; omega); clear S13; have p14_0 : w14.cell? ⟨w1.heap.size, 0, none⟩ = some (.int .u32 (cp % 4294967296)) := S14.b.at (j := 0) rfl)
    | fail)
  cases kd <;> cases kp <;> cases ka
  · have h9 := G9.out
    have h10 := G10.out
    have h11 := G11.out
    have h12 := G12.out
    clear G9 G10 G11 G12
    obtain ⟨rfl, rfl⟩ : [] = db ∧ s8 = s9 := Prod.mk.inj (show ([], s8) = (db, s9) from h9)
    clear h9
    obtain ⟨rfl, rfl⟩ : [] = pl ∧ s8 = s10 := Prod.mk.inj (show ([], s8) = (pl, s10) from h10)
    clear h10
    obtain ⟨rfl, rfl⟩ : [] = ps ∧ s8 = s11 := Prod.mk.inj (show ([], s8) = (ps, s11) from h11)
    clear h11
    have H12 := Lib.hid h12
    clear h12
    go_wp2_with (first
      | ((with_reducible show Calls _ _ #[_, Value.int .u32 8] _ _); go_at_call 83; refine (has_g _ _ _ false HKD.out).mono ?_; rintro e wx ⟨rfl, rfl⟩)
      | ((with_reducible show Calls _ _ #[_, Value.int .u32 524288] _ _); go_at_call 83; refine (has_g _ _ _ false HKP.out).mono ?_; rintro e wx ⟨rfl, rfl⟩)
      | ((with_reducible show Calls _ _ #[_, Value.int .u32 1048576] _ _); go_at_call 83; refine (has_g _ _ _ false HKA.out).mono ?_; rintro e wx ⟨rfl, rfl⟩)
      | (go_at_call 85; refine (over_g w _ _ _ _ S14.r H12.out).mono ?_; rintro e w15 ⟨rfl, R15, O15⟩; have S15 := S14.onR R15 O15; replace ob := ob.keepB O15 (fun e => by have h9 := (ob.ltB e).1; omega); clear S14 R15; have c1 := S15.r.c1)
      | ((with_reducible show AtW 95); refine wpl_store_box rfl _ _ _ rfl _ [.int .u32 0, .int .u32 0, .int .u8 0, .string ⟨#[]⟩, .slice none 0 0, .string ⟨#[]⟩, .string ⟨#[]⟩, .slice none 0 0] rfl rfl S15.b0 rfl (by kernel_rfl) (by rfl) ?_; intro wz Bz Oz; replace ob := ob.keepB Oz (fun e => by have h9 := (ob.ltB e).1; have := w.heap.size; omega))
      | fail)
    try simp only [Exit.inBlock, Exit.then]
    refine ret_box rfl rfl rfl rfl Bz Tryz.underlying95 rfl (by kernel_rfl) ?_
    exact ⟨⟨_, _, rfl, Rd.nil _, Recs.nil _ _, S15.ext.on Oz (Nat.le_refl _), (fun h hh => by cases hh)⟩⟩
  · have h9 := G9.out
    have h10 := G10.out
    have h11 := G11.out
    have h12 := G12.out
    clear G9 G10 G11 G12
    obtain ⟨rfl, rfl⟩ : [] = db ∧ s8 = s9 := Prod.mk.inj (show ([], s8) = (db, s9) from h9)
    clear h9
    obtain ⟨rfl, rfl⟩ : [] = pl ∧ s8 = s10 := Prod.mk.inj (show ([], s8) = (pl, s10) from h10)
    clear h10
    have h11x : rA s8 = (ps, s11) := h11
    have H11 := Lib.hid h11x
    clear h11x h11
    have H12 := Lib.hid h12
    clear h12
    go_wp2_with (first
      | ((with_reducible show Calls _ _ #[_, Value.int .u32 8] _ _); go_at_call 83; refine (has_g _ _ _ false HKD.out).mono ?_; rintro e wx ⟨rfl, rfl⟩)
      | ((with_reducible show Calls _ _ #[_, Value.int .u32 524288] _ _); go_at_call 83; refine (has_g _ _ _ false HKP.out).mono ?_; rintro e wx ⟨rfl, rfl⟩)
      | ((with_reducible show Calls _ _ #[_, Value.int .u32 1048576] _ _); go_at_call 83; refine (has_g _ _ _ true HKA.out).mono ?_; rintro e wx ⟨rfl, rfl⟩)
      | (go_at_call 84; refine (attrs_g w _ _ _ _ _ S14.r HL10.out H11.out).mono ?_; rintro e w15 ⟨va15, rfl, oc, R15, O15⟩; obtain ⟨A15, c15, hva15, _, _⟩ := oc.recs.shape; rw [pairsC_length] at hva15; subst hva15; have ltoc := S14.lt; have looc := S14.lo; have S15 := S14.onR R15 O15; replace ob := ob.keepB O15 (fun e => by have h9 := (ob.ltB e).1; omega); clear S14 R15)
      | ((with_reducible show AtW 73); refine wpl_store_cell rfl _ _ _ rfl w1.heap.size 7 (.slice A15 ps.length c15) rfl rfl rfl rfl (by kernel_rfl) S15.b (by simp) ?_; intro w16 B16 O16; have S16 : St _ _ _ _ _ [.int .u32 (cp % 4294967296), .int .u32 (mo % 4294967296), .int .u8 xc, .string (strL us), .slice A13 nn c13, .string ⟨#[]⟩, .string ⟨#[]⟩, .slice A15 ps.length c15] := S15.onV B16 O16; replace ob := ob.keepB O16 (fun e => by have h9 := (ob.ltB e).1; omega); replace oc := oc.keepB O16 (fun e => by have h9 := (oc.ltB e).1; omega); clear S15)
      | (go_at_call 85; refine (over_g w _ _ _ _ S16.r H12.out).mono ?_; rintro e w17 ⟨rfl, R17, O17⟩; have S17 := S16.onR R17 O17; replace ob := ob.keepB O17 (fun e => by have h9 := (ob.ltB e).1; omega); replace oc := oc.keepB O17 (fun e => by have h9 := (oc.ltB e).1; omega); clear S16 R17; have c1 := S17.r.c1)
      | ((with_reducible show AtW 95); refine wpl_store_box rfl _ _ _ rfl _ [.int .u32 0, .int .u32 0, .int .u8 0, .string ⟨#[]⟩, .slice none 0 0, .string ⟨#[]⟩, .string ⟨#[]⟩, .slice none 0 0] rfl rfl S17.b0 rfl (by kernel_rfl) (by rfl) ?_; intro wz Bz Oz; replace ob := ob.keepB Oz (fun e => by have h9 := (ob.ltB e).1; have := w.heap.size; omega); replace oc := oc.keepB Oz (fun e => by have h9 := (oc.ltB e).1; have := w.heap.size; omega))
      | fail)
    try simp only [Exit.inBlock, Exit.then]
    refine ret_box rfl rfl rfl rfl Bz Tryz.underlying95 rfl (by kernel_rfl) ?_
    exact ⟨⟨_, _, rfl, Rd.nil _, Recs.nil _ _, S17.ext.on Oz (Nat.le_refl _), (fun h hh => by cases hh)⟩⟩
  · have h9 := G9.out
    have h10 := G10.out
    have h11 := G11.out
    have h12 := G12.out
    clear G9 G10 G11 G12
    obtain ⟨rfl, rfl⟩ : [] = db ∧ s8 = s9 := Prod.mk.inj (show ([], s8) = (db, s9) from h9)
    clear h9
    have h10x : rZ s8 = (pl, s10) := h10
    have H10 := Lib.hid h10x
    clear h10x h10
    obtain ⟨rfl, rfl⟩ : [] = ps ∧ s10 = s11 := Prod.mk.inj (show ([], s10) = (ps, s11) from h11)
    clear h11
    have H12 := Lib.hid h12
    clear h12
    go_wp2_with (first
      | ((with_reducible show Calls _ _ #[_, Value.int .u32 8] _ _); go_at_call 83; refine (has_g _ _ _ false HKD.out).mono ?_; rintro e wx ⟨rfl, rfl⟩)
      | ((with_reducible show Calls _ _ #[_, Value.int .u32 524288] _ _); go_at_call 83; refine (has_g _ _ _ true HKP.out).mono ?_; rintro e wx ⟨rfl, rfl⟩)
      | (go_at_call 81; refine (ended_g w _ _ _ _ _ S14.r H10.out).mono ?_; rintro e w15 ⟨rfl, R15, O15⟩; have S15 := S14.onR R15 O15; replace ob := ob.keepB O15 (fun e => by have h9 := (ob.ltB e).1; omega); clear S14 R15)
      | ((with_reducible show AtW 9); refine wpl_store_cell rfl _ _ _ rfl w1.heap.size 6 (.string (strL pl)) rfl rfl rfl rfl (by kernel_rfl) S15.b (by simp) ?_; intro w16 B16 O16; have S16 : St _ _ _ _ _ [.int .u32 (cp % 4294967296), .int .u32 (mo % 4294967296), .int .u8 xc, .string (strL us), .slice A13 nn c13, .string ⟨#[]⟩, .string (strL pl), .slice none 0 0] := S15.onV B16 O16; replace ob := ob.keepB O16 (fun e => by have h9 := (ob.ltB e).1; omega); clear S15; have p16_0 : w16.cell? ⟨w1.heap.size, 0, none⟩ = some (.int .u32 (cp % 4294967296)) := S16.b.at (j := 0) rfl)
      | ((with_reducible show Calls _ _ #[_, Value.int .u32 1048576] _ _); go_at_call 83; refine (has_g _ _ _ false HKA.out).mono ?_; rintro e wx ⟨rfl, rfl⟩)
      | (go_at_call 85; refine (over_g w _ _ _ _ S16.r H12.out).mono ?_; rintro e w17 ⟨rfl, R17, O17⟩; have S17 := S16.onR R17 O17; replace ob := ob.keepB O17 (fun e => by have h9 := (ob.ltB e).1; omega); clear S16 R17; have c1 := S17.r.c1)
      | ((with_reducible show AtW 95); refine wpl_store_box rfl _ _ _ rfl _ [.int .u32 0, .int .u32 0, .int .u8 0, .string ⟨#[]⟩, .slice none 0 0, .string ⟨#[]⟩, .string ⟨#[]⟩, .slice none 0 0] rfl rfl S17.b0 rfl (by kernel_rfl) (by rfl) ?_; intro wz Bz Oz; replace ob := ob.keepB Oz (fun e => by have h9 := (ob.ltB e).1; have := w.heap.size; omega))
      | fail)
    try simp only [Exit.inBlock, Exit.then]
    refine ret_box rfl rfl rfl rfl Bz Tryz.underlying95 rfl (by kernel_rfl) ?_
    exact ⟨⟨_, _, rfl, Rd.nil _, Recs.nil _ _, S17.ext.on Oz (Nat.le_refl _), (fun h hh => by cases hh)⟩⟩
  · have h9 := G9.out
    have h10 := G10.out
    have h11 := G11.out
    have h12 := G12.out
    clear G9 G10 G11 G12
    obtain ⟨rfl, rfl⟩ : [] = db ∧ s8 = s9 := Prod.mk.inj (show ([], s8) = (db, s9) from h9)
    clear h9
    have h10x : rZ s8 = (pl, s10) := h10
    have H10 := Lib.hid h10x
    clear h10x h10
    have h11x : rA s10 = (ps, s11) := h11
    have H11 := Lib.hid h11x
    clear h11x h11
    have H12 := Lib.hid h12
    clear h12
    go_wp2_with (first
      | ((with_reducible show Calls _ _ #[_, Value.int .u32 8] _ _); go_at_call 83; refine (has_g _ _ _ false HKD.out).mono ?_; rintro e wx ⟨rfl, rfl⟩)
      | ((with_reducible show Calls _ _ #[_, Value.int .u32 524288] _ _); go_at_call 83; refine (has_g _ _ _ true HKP.out).mono ?_; rintro e wx ⟨rfl, rfl⟩)
      | (go_at_call 81; refine (ended_g w _ _ _ _ _ S14.r H10.out).mono ?_; rintro e w15 ⟨rfl, R15, O15⟩; have S15 := S14.onR R15 O15; replace ob := ob.keepB O15 (fun e => by have h9 := (ob.ltB e).1; omega); clear S14 R15)
      | ((with_reducible show AtW 9); refine wpl_store_cell rfl _ _ _ rfl w1.heap.size 6 (.string (strL pl)) rfl rfl rfl rfl (by kernel_rfl) S15.b (by simp) ?_; intro w16 B16 O16; have S16 : St _ _ _ _ _ [.int .u32 (cp % 4294967296), .int .u32 (mo % 4294967296), .int .u8 xc, .string (strL us), .slice A13 nn c13, .string ⟨#[]⟩, .string (strL pl), .slice none 0 0] := S15.onV B16 O16; replace ob := ob.keepB O16 (fun e => by have h9 := (ob.ltB e).1; omega); clear S15; have p16_0 : w16.cell? ⟨w1.heap.size, 0, none⟩ = some (.int .u32 (cp % 4294967296)) := S16.b.at (j := 0) rfl)
      | ((with_reducible show Calls _ _ #[_, Value.int .u32 1048576] _ _); go_at_call 83; refine (has_g _ _ _ true HKA.out).mono ?_; rintro e wx ⟨rfl, rfl⟩)
      | (go_at_call 84; refine (attrs_g w _ _ _ _ _ S16.r HL10.out H11.out).mono ?_; rintro e w17 ⟨va17, rfl, oc, R17, O17⟩; obtain ⟨A17, c17, hva17, _, _⟩ := oc.recs.shape; rw [pairsC_length] at hva17; subst hva17; have ltoc := S16.lt; have looc := S16.lo; have S17 := S16.onR R17 O17; replace ob := ob.keepB O17 (fun e => by have h9 := (ob.ltB e).1; omega); clear S16 R17)
      | ((with_reducible show AtW 73); refine wpl_store_cell rfl _ _ _ rfl w1.heap.size 7 (.slice A17 ps.length c17) rfl rfl rfl rfl (by kernel_rfl) S17.b (by simp) ?_; intro w18 B18 O18; have S18 : St _ _ _ _ _ [.int .u32 (cp % 4294967296), .int .u32 (mo % 4294967296), .int .u8 xc, .string (strL us), .slice A13 nn c13, .string ⟨#[]⟩, .string (strL pl), .slice A17 ps.length c17] := S17.onV B18 O18; replace ob := ob.keepB O18 (fun e => by have h9 := (ob.ltB e).1; omega); replace oc := oc.keepB O18 (fun e => by have h9 := (oc.ltB e).1; omega); clear S17)
      | (go_at_call 85; refine (over_g w _ _ _ _ S18.r H12.out).mono ?_; rintro e w19 ⟨rfl, R19, O19⟩; have S19 := S18.onR R19 O19; replace ob := ob.keepB O19 (fun e => by have h9 := (ob.ltB e).1; omega); replace oc := oc.keepB O19 (fun e => by have h9 := (oc.ltB e).1; omega); clear S18 R19; have c1 := S19.r.c1)
      | ((with_reducible show AtW 95); refine wpl_store_box rfl _ _ _ rfl _ [.int .u32 0, .int .u32 0, .int .u8 0, .string ⟨#[]⟩, .slice none 0 0, .string ⟨#[]⟩, .string ⟨#[]⟩, .slice none 0 0] rfl rfl S19.b0 rfl (by kernel_rfl) (by rfl) ?_; intro wz Bz Oz; replace ob := ob.keepB Oz (fun e => by have h9 := (ob.ltB e).1; have := w.heap.size; omega); replace oc := oc.keepB Oz (fun e => by have h9 := (oc.ltB e).1; have := w.heap.size; omega))
      | fail)
    try simp only [Exit.inBlock, Exit.then]
    refine ret_box rfl rfl rfl rfl Bz Tryz.underlying95 rfl (by kernel_rfl) ?_
    exact ⟨⟨_, _, rfl, Rd.nil _, Recs.nil _ _, S19.ext.on Oz (Nat.le_refl _), (fun h hh => by cases hh)⟩⟩
  · have h9 := G9.out
    have h10 := G10.out
    have h11 := G11.out
    have h12 := G12.out
    clear G9 G10 G11 G12
    have h9x : rZ s8 = (db, s9) := h9
    have H9 := Lib.hid h9x
    clear h9x h9
    obtain ⟨rfl, rfl⟩ : [] = pl ∧ s9 = s10 := Prod.mk.inj (show ([], s9) = (pl, s10) from h10)
    clear h10
    obtain ⟨rfl, rfl⟩ : [] = ps ∧ s9 = s11 := Prod.mk.inj (show ([], s9) = (ps, s11) from h11)
    clear h11
    have H12 := Lib.hid h12
    clear h12
    go_wp2_with (first
      | ((with_reducible show Calls _ _ #[_, Value.int .u32 8] _ _); go_at_call 83; refine (has_g _ _ _ true HKD.out).mono ?_; rintro e wx ⟨rfl, rfl⟩)
      | (go_at_call 81; refine (ended_g w _ _ _ _ _ S14.r H9.out).mono ?_; rintro e w15 ⟨rfl, R15, O15⟩; have S15 := S14.onR R15 O15; replace ob := ob.keepB O15 (fun e => by have h9 := (ob.ltB e).1; omega); clear S14 R15)
      | ((with_reducible show AtW 9); refine wpl_store_cell rfl _ _ _ rfl w1.heap.size 5 (.string (strL db)) rfl rfl rfl rfl (by kernel_rfl) S15.b (by simp) ?_; intro w16 B16 O16; have S16 : St _ _ _ _ _ [.int .u32 (cp % 4294967296), .int .u32 (mo % 4294967296), .int .u8 xc, .string (strL us), .slice A13 nn c13, .string (strL db), .string ⟨#[]⟩, .slice none 0 0] := S15.onV B16 O16; replace ob := ob.keepB O16 (fun e => by have h9 := (ob.ltB e).1; omega); clear S15; have p16_0 : w16.cell? ⟨w1.heap.size, 0, none⟩ = some (.int .u32 (cp % 4294967296)) := S16.b.at (j := 0) rfl)
      | ((with_reducible show Calls _ _ #[_, Value.int .u32 524288] _ _); go_at_call 83; refine (has_g _ _ _ false HKP.out).mono ?_; rintro e wx ⟨rfl, rfl⟩)
      | ((with_reducible show Calls _ _ #[_, Value.int .u32 1048576] _ _); go_at_call 83; refine (has_g _ _ _ false HKA.out).mono ?_; rintro e wx ⟨rfl, rfl⟩)
      | (go_at_call 85; refine (over_g w _ _ _ _ S16.r H12.out).mono ?_; rintro e w17 ⟨rfl, R17, O17⟩; have S17 := S16.onR R17 O17; replace ob := ob.keepB O17 (fun e => by have h9 := (ob.ltB e).1; omega); clear S16 R17; have c1 := S17.r.c1)
      | ((with_reducible show AtW 95); refine wpl_store_box rfl _ _ _ rfl _ [.int .u32 0, .int .u32 0, .int .u8 0, .string ⟨#[]⟩, .slice none 0 0, .string ⟨#[]⟩, .string ⟨#[]⟩, .slice none 0 0] rfl rfl S17.b0 rfl (by kernel_rfl) (by rfl) ?_; intro wz Bz Oz; replace ob := ob.keepB Oz (fun e => by have h9 := (ob.ltB e).1; have := w.heap.size; omega))
      | fail)
    try simp only [Exit.inBlock, Exit.then]
    refine ret_box rfl rfl rfl rfl Bz Tryz.underlying95 rfl (by kernel_rfl) ?_
    exact ⟨⟨_, _, rfl, Rd.nil _, Recs.nil _ _, S17.ext.on Oz (Nat.le_refl _), (fun h hh => by cases hh)⟩⟩
  · have h9 := G9.out
    have h10 := G10.out
    have h11 := G11.out
    have h12 := G12.out
    clear G9 G10 G11 G12
    have h9x : rZ s8 = (db, s9) := h9
    have H9 := Lib.hid h9x
    clear h9x h9
    obtain ⟨rfl, rfl⟩ : [] = pl ∧ s9 = s10 := Prod.mk.inj (show ([], s9) = (pl, s10) from h10)
    clear h10
    have h11x : rA s9 = (ps, s11) := h11
    have H11 := Lib.hid h11x
    clear h11x h11
    have H12 := Lib.hid h12
    clear h12
    go_wp2_with (first
      | ((with_reducible show Calls _ _ #[_, Value.int .u32 8] _ _); go_at_call 83; refine (has_g _ _ _ true HKD.out).mono ?_; rintro e wx ⟨rfl, rfl⟩)
      | (go_at_call 81; refine (ended_g w _ _ _ _ _ S14.r H9.out).mono ?_; rintro e w15 ⟨rfl, R15, O15⟩; have S15 := S14.onR R15 O15; replace ob := ob.keepB O15 (fun e => by have h9 := (ob.ltB e).1; omega); clear S14 R15)
      | ((with_reducible show AtW 9); refine wpl_store_cell rfl _ _ _ rfl w1.heap.size 5 (.string (strL db)) rfl rfl rfl rfl (by kernel_rfl) S15.b (by simp) ?_; intro w16 B16 O16; have S16 : St _ _ _ _ _ [.int .u32 (cp % 4294967296), .int .u32 (mo % 4294967296), .int .u8 xc, .string (strL us), .slice A13 nn c13, .string (strL db), .string ⟨#[]⟩, .slice none 0 0] := S15.onV B16 O16; replace ob := ob.keepB O16 (fun e => by have h9 := (ob.ltB e).1; omega); clear S15; have p16_0 : w16.cell? ⟨w1.heap.size, 0, none⟩ = some (.int .u32 (cp % 4294967296)) := S16.b.at (j := 0) rfl)
      | ((with_reducible show Calls _ _ #[_, Value.int .u32 524288] _ _); go_at_call 83; refine (has_g _ _ _ false HKP.out).mono ?_; rintro e wx ⟨rfl, rfl⟩)
      | ((with_reducible show Calls _ _ #[_, Value.int .u32 1048576] _ _); go_at_call 83; refine (has_g _ _ _ true HKA.out).mono ?_; rintro e wx ⟨rfl, rfl⟩)
      | (go_at_call 84; refine (attrs_g w _ _ _ _ _ S16.r HL10.out H11.out).mono ?_; rintro e w17 ⟨va17, rfl, oc, R17, O17⟩; obtain ⟨A17, c17, hva17, _, _⟩ := oc.recs.shape; rw [pairsC_length] at hva17; subst hva17; have ltoc := S16.lt; have looc := S16.lo; have S17 := S16.onR R17 O17; replace ob := ob.keepB O17 (fun e => by have h9 := (ob.ltB e).1; omega); clear S16 R17)
      | ((with_reducible show AtW 73); refine wpl_store_cell rfl _ _ _ rfl w1.heap.size 7 (.slice A17 ps.length c17) rfl rfl rfl rfl (by kernel_rfl) S17.b (by simp) ?_; intro w18 B18 O18; have S18 : St _ _ _ _ _ [.int .u32 (cp % 4294967296), .int .u32 (mo % 4294967296), .int .u8 xc, .string (strL us), .slice A13 nn c13, .string (strL db), .string ⟨#[]⟩, .slice A17 ps.length c17] := S17.onV B18 O18; replace ob := ob.keepB O18 (fun e => by have h9 := (ob.ltB e).1; omega); replace oc := oc.keepB O18 (fun e => by have h9 := (oc.ltB e).1; omega); clear S17)
      | (go_at_call 85; refine (over_g w _ _ _ _ S18.r H12.out).mono ?_; rintro e w19 ⟨rfl, R19, O19⟩; have S19 := S18.onR R19 O19; replace ob := ob.keepB O19 (fun e => by have h9 := (ob.ltB e).1; omega); replace oc := oc.keepB O19 (fun e => by have h9 := (oc.ltB e).1; omega); clear S18 R19; have c1 := S19.r.c1)
      | ((with_reducible show AtW 95); refine wpl_store_box rfl _ _ _ rfl _ [.int .u32 0, .int .u32 0, .int .u8 0, .string ⟨#[]⟩, .slice none 0 0, .string ⟨#[]⟩, .string ⟨#[]⟩, .slice none 0 0] rfl rfl S19.b0 rfl (by kernel_rfl) (by rfl) ?_; intro wz Bz Oz; replace ob := ob.keepB Oz (fun e => by have h9 := (ob.ltB e).1; have := w.heap.size; omega); replace oc := oc.keepB Oz (fun e => by have h9 := (oc.ltB e).1; have := w.heap.size; omega))
      | fail)
    try simp only [Exit.inBlock, Exit.then]
    refine ret_box rfl rfl rfl rfl Bz Tryz.underlying95 rfl (by kernel_rfl) ?_
    exact ⟨⟨_, _, rfl, Rd.nil _, Recs.nil _ _, S19.ext.on Oz (Nat.le_refl _), (fun h hh => by cases hh)⟩⟩
  · have h9 := G9.out
    have h10 := G10.out
    have h11 := G11.out
    have h12 := G12.out
    clear G9 G10 G11 G12
    have h9x : rZ s8 = (db, s9) := h9
    have H9 := Lib.hid h9x
    clear h9x h9
    have h10x : rZ s9 = (pl, s10) := h10
    have H10 := Lib.hid h10x
    clear h10x h10
    obtain ⟨rfl, rfl⟩ : [] = ps ∧ s10 = s11 := Prod.mk.inj (show ([], s10) = (ps, s11) from h11)
    clear h11
    have H12 := Lib.hid h12
    clear h12
    go_wp2_with (first
      | ((with_reducible show Calls _ _ #[_, Value.int .u32 8] _ _); go_at_call 83; refine (has_g _ _ _ true HKD.out).mono ?_; rintro e wx ⟨rfl, rfl⟩)
      | (go_at_call 81; refine (ended_g w _ _ _ _ _ S14.r H9.out).mono ?_; rintro e w15 ⟨rfl, R15, O15⟩; have S15 := S14.onR R15 O15; replace ob := ob.keepB O15 (fun e => by have h9 := (ob.ltB e).1; omega); clear S14 R15)
      | ((with_reducible show AtW 9); refine wpl_store_cell rfl _ _ _ rfl w1.heap.size 5 (.string (strL db)) rfl rfl rfl rfl (by kernel_rfl) S15.b (by simp) ?_; intro w16 B16 O16; have S16 : St _ _ _ _ _ [.int .u32 (cp % 4294967296), .int .u32 (mo % 4294967296), .int .u8 xc, .string (strL us), .slice A13 nn c13, .string (strL db), .string ⟨#[]⟩, .slice none 0 0] := S15.onV B16 O16; replace ob := ob.keepB O16 (fun e => by have h9 := (ob.ltB e).1; omega); clear S15; have p16_0 : w16.cell? ⟨w1.heap.size, 0, none⟩ = some (.int .u32 (cp % 4294967296)) := S16.b.at (j := 0) rfl)
      | ((with_reducible show Calls _ _ #[_, Value.int .u32 524288] _ _); go_at_call 83; refine (has_g _ _ _ true HKP.out).mono ?_; rintro e wx ⟨rfl, rfl⟩)
      | (go_at_call 81; refine (ended_g w _ _ _ _ _ S16.r H10.out).mono ?_; rintro e w17 ⟨rfl, R17, O17⟩; have S17 := S16.onR R17 O17; replace ob := ob.keepB O17 (fun e => by have h9 := (ob.ltB e).1; omega); clear S16 R17)
      | ((with_reducible show AtW 9); refine wpl_store_cell rfl _ _ _ rfl w1.heap.size 6 (.string (strL pl)) rfl rfl rfl rfl (by kernel_rfl) S17.b (by simp) ?_; intro w18 B18 O18; have S18 : St _ _ _ _ _ [.int .u32 (cp % 4294967296), .int .u32 (mo % 4294967296), .int .u8 xc, .string (strL us), .slice A13 nn c13, .string (strL db), .string (strL pl), .slice none 0 0] := S17.onV B18 O18; replace ob := ob.keepB O18 (fun e => by have h9 := (ob.ltB e).1; omega); clear S17; have p18_0 : w18.cell? ⟨w1.heap.size, 0, none⟩ = some (.int .u32 (cp % 4294967296)) := S18.b.at (j := 0) rfl)
      | ((with_reducible show Calls _ _ #[_, Value.int .u32 1048576] _ _); go_at_call 83; refine (has_g _ _ _ false HKA.out).mono ?_; rintro e wx ⟨rfl, rfl⟩)
      | (go_at_call 85; refine (over_g w _ _ _ _ S18.r H12.out).mono ?_; rintro e w19 ⟨rfl, R19, O19⟩; have S19 := S18.onR R19 O19; replace ob := ob.keepB O19 (fun e => by have h9 := (ob.ltB e).1; omega); clear S18 R19; have c1 := S19.r.c1)
      | ((with_reducible show AtW 95); refine wpl_store_box rfl _ _ _ rfl _ [.int .u32 0, .int .u32 0, .int .u8 0, .string ⟨#[]⟩, .slice none 0 0, .string ⟨#[]⟩, .string ⟨#[]⟩, .slice none 0 0] rfl rfl S19.b0 rfl (by kernel_rfl) (by rfl) ?_; intro wz Bz Oz; replace ob := ob.keepB Oz (fun e => by have h9 := (ob.ltB e).1; have := w.heap.size; omega))
      | fail)
    try simp only [Exit.inBlock, Exit.then]
    refine ret_box rfl rfl rfl rfl Bz Tryz.underlying95 rfl (by kernel_rfl) ?_
    exact ⟨⟨_, _, rfl, Rd.nil _, Recs.nil _ _, S19.ext.on Oz (Nat.le_refl _), (fun h hh => by cases hh)⟩⟩
  · have h9 := G9.out
    have h10 := G10.out
    have h11 := G11.out
    have h12 := G12.out
    clear G9 G10 G11 G12
    have h9x : rZ s8 = (db, s9) := h9
    have H9 := Lib.hid h9x
    clear h9x h9
    have h10x : rZ s9 = (pl, s10) := h10
    have H10 := Lib.hid h10x
    clear h10x h10
    have h11x : rA s10 = (ps, s11) := h11
    have H11 := Lib.hid h11x
    clear h11x h11
    have H12 := Lib.hid h12
    clear h12
    go_wp2_with (first
      | ((with_reducible show Calls _ _ #[_, Value.int .u32 8] _ _); go_at_call 83; refine (has_g _ _ _ true HKD.out).mono ?_; rintro e wx ⟨rfl, rfl⟩)
      | (go_at_call 81; refine (ended_g w _ _ _ _ _ S14.r H9.out).mono ?_; rintro e w15 ⟨rfl, R15, O15⟩; have S15 := S14.onR R15 O15; replace ob := ob.keepB O15 (fun e => by have h9 := (ob.ltB e).1; omega); clear S14 R15)
      | ((with_reducible show AtW 9); refine wpl_store_cell rfl _ _ _ rfl w1.heap.size 5 (.string (strL db)) rfl rfl rfl rfl (by kernel_rfl) S15.b (by simp) ?_; intro w16 B16 O16; have S16 : St _ _ _ _ _ [.int .u32 (cp % 4294967296), .int .u32 (mo % 4294967296), .int .u8 xc, .string (strL us), .slice A13 nn c13, .string (strL db), .string ⟨#[]⟩, .slice none 0 0] := S15.onV B16 O16; replace ob := ob.keepB O16 (fun e => by have h9 := (ob.ltB e).1; omega); clear S15; have p16_0 : w16.cell? ⟨w1.heap.size, 0, none⟩ = some (.int .u32 (cp % 4294967296)) := S16.b.at (j := 0) rfl)
      | ((with_reducible show Calls _ _ #[_, Value.int .u32 524288] _ _); go_at_call 83; refine (has_g _ _ _ true HKP.out).mono ?_; rintro e wx ⟨rfl, rfl⟩)
      | (go_at_call 81; refine (ended_g w _ _ _ _ _ S16.r H10.out).mono ?_; rintro e w17 ⟨rfl, R17, O17⟩; have S17 := S16.onR R17 O17; replace ob := ob.keepB O17 (fun e => by have h9 := (ob.ltB e).1; omega); clear S16 R17)
      | ((with_reducible show AtW 9); refine wpl_store_cell rfl _ _ _ rfl w1.heap.size 6 (.string (strL pl)) rfl rfl rfl rfl (by kernel_rfl) S17.b (by simp) ?_; intro w18 B18 O18; have S18 : St _ _ _ _ _ [.int .u32 (cp % 4294967296), .int .u32 (mo % 4294967296), .int .u8 xc, .string (strL us), .slice A13 nn c13, .string (strL db), .string (strL pl), .slice none 0 0] := S17.onV B18 O18; replace ob := ob.keepB O18 (fun e => by have h9 := (ob.ltB e).1; omega); clear S17; have p18_0 : w18.cell? ⟨w1.heap.size, 0, none⟩ = some (.int .u32 (cp % 4294967296)) := S18.b.at (j := 0) rfl)
      | ((with_reducible show Calls _ _ #[_, Value.int .u32 1048576] _ _); go_at_call 83; refine (has_g _ _ _ true HKA.out).mono ?_; rintro e wx ⟨rfl, rfl⟩)
      | (go_at_call 84; refine (attrs_g w _ _ _ _ _ S18.r HL10.out H11.out).mono ?_; rintro e w19 ⟨va19, rfl, oc, R19, O19⟩; obtain ⟨A19, c19, hva19, _, _⟩ := oc.recs.shape; rw [pairsC_length] at hva19; subst hva19; have ltoc := S18.lt; have looc := S18.lo; have S19 := S18.onR R19 O19; replace ob := ob.keepB O19 (fun e => by have h9 := (ob.ltB e).1; omega); clear S18 R19)
      | ((with_reducible show AtW 73); refine wpl_store_cell rfl _ _ _ rfl w1.heap.size 7 (.slice A19 ps.length c19) rfl rfl rfl rfl (by kernel_rfl) S19.b (by simp) ?_; intro w20 B20 O20; have S20 : St _ _ _ _ _ [.int .u32 (cp % 4294967296), .int .u32 (mo % 4294967296), .int .u8 xc, .string (strL us), .slice A13 nn c13, .string (strL db), .string (strL pl), .slice A19 ps.length c19] := S19.onV B20 O20; replace ob := ob.keepB O20 (fun e => by have h9 := (ob.ltB e).1; omega); replace oc := oc.keepB O20 (fun e => by have h9 := (oc.ltB e).1; omega); clear S19)
      | (go_at_call 85; refine (over_g w _ _ _ _ S20.r H12.out).mono ?_; rintro e w21 ⟨rfl, R21, O21⟩; have S21 := S20.onR R21 O21; replace ob := ob.keepB O21 (fun e => by have h9 := (ob.ltB e).1; omega); replace oc := oc.keepB O21 (fun e => by have h9 := (oc.ltB e).1; omega); clear S20 R21; have c1 := S21.r.c1)
      | ((with_reducible show AtW 95); refine wpl_store_box rfl _ _ _ rfl _ [.int .u32 0, .int .u32 0, .int .u8 0, .string ⟨#[]⟩, .slice none 0 0, .string ⟨#[]⟩, .string ⟨#[]⟩, .slice none 0 0] rfl rfl S21.b0 rfl (by kernel_rfl) (by rfl) ?_; intro wz Bz Oz; replace ob := ob.keepB Oz (fun e => by have h9 := (ob.ltB e).1; have := w.heap.size; omega); replace oc := oc.keepB Oz (fun e => by have h9 := (oc.ltB e).1; have := w.heap.size; omega))
      | fail)
    try simp only [Exit.inBlock, Exit.then]
    refine ret_box rfl rfl rfl rfl Bz Tryz.underlying95 rfl (by kernel_rfl) ?_
    exact ⟨⟨_, _, rfl, Rd.nil _, Recs.nil _ _, S21.ext.on Oz (Nat.le_refl _), (fun h hh => by cases hh)⟩⟩
end Go.Proofs.YtbodppfpmpmadaaGreat

