import Derived.Test.YtbodppfpmpmadaaGreatL15C
namespace Go.Proofs.YtbodppfpmpmadaaGreat
open Go.RowKit

set_option linter.unusedVariables false in
set_option maxRecDepth 100000 in
set_option maxHeartbeats 8000000 in
theorem readChangeR_a (w : World) (c : Int) (v : Value) (l : List UInt8) (hr : Rd w v l) (hl : l.length ≤ 900000) (he : (overP (changeM c) chgV0 l).2 = 0) :
    Calls Tryz.prog 62 #[v, .int .u32 c] w (RetChgR w (overP (changeM c) chgV0 l)) := by
  obtain ⟨A0, cap0, hv, _, _, _, _⟩ := id hr
  have HR := Lib.hid hr
  clear hr
  subst hv
  obtain ⟨b1, s1, h1⟩ := byte_one (l, 0)
  obtain ⟨x1, hx1⟩ : ∃ x1 : Int, x1 = (b1.toNat : Int) := ⟨_, rfl⟩
  obtain ⟨q1, hk1⟩ : ∃ q, (x1 != 17) = q := ⟨_, rfl⟩
  obtain ⟨s2, h2⟩ : ∃ s, rW q1 s1 = s := ⟨_, rfl⟩
  obtain ⟨us, s3, h3⟩ : ∃ x s, rZ s2 = (x, s) := ⟨_, _, rfl⟩
  obtain ⟨bn, s4, h4⟩ := byte_one s3
  obtain ⟨nn, hnn⟩ : ∃ n, bn.toNat = n := ⟨_, rfl⟩
  obtain ⟨xn, hxn⟩ : ∃ x1 : Int, x1 = (bn.toNat : Int) := ⟨_, rfl⟩
  obtain ⟨re, s5, h5⟩ : ∃ x s, rB nn s4 = (x, s) := ⟨_, _, rfl⟩
  obtain ⟨db, s6, h6⟩ : ∃ x s, rZ s5 = (x, s) := ⟨_, _, rfl⟩
  obtain ⟨ch, s7, h7⟩ : ∃ x s, rX 2 s6 = (x, s) := ⟨_, _, rfl⟩
  obtain ⟨kp, hkp⟩ : ∃ k, hasC c 524288 = k := ⟨_, rfl⟩
  obtain ⟨ka, hka⟩ : ∃ k, hasC c 1048576 = k := ⟨_, rfl⟩
  obtain ⟨pl, s8, h8⟩ : ∃ x s, optZ kp s7 = (x, s) := ⟨_, _, rfl⟩
  obtain ⟨ps, s9, h9⟩ : ∃ x s, optA ka s8 = (x, s) := ⟨_, _, rfl⟩
  obtain ⟨s10, h10⟩ : ∃ s, rO s9 = s := ⟨_, rfl⟩
  have hresp : respM false s3 = (re, s5) := by
    show (if false = true then bindR rU fun r => bindR (chkR (rW (decide (255 < r.length)))) fun _ => pureR r else bindR (rB 1) fun n => rB (n.getD 0 0).toNat) s3 = (re, s5)
    simp only [↓reduceIte, Bool.false_eq_true, bindR, h4]
    show rB (bn.toNat) s4 = _
    rw [hnn, h5]
  have hS : overP (changeM c) chgV0 l = (if s10.2 = 0 then ⟨us, re, db, ch % 65536, pl, ps⟩ else chgV0, s10.2) := by
    have e1 : byteI [b1] = x1 := hx1.symm
    simp only [overP, changeM, bindR, chkR, pureR, h1, e1, hk1, h2, h3, hresp, h6, h7, hkp, h8, hka, h9, h10]
  clear hresp
  have b1 := rB_len 1 (l, 0)
  rw [h1] at b1
  have b2 := rW_len q1 s1
  rw [h2] at b2
  have b3 := rZ_len s2
  rw [h3] at b3
  have b4 := rB_len 1 s3
  rw [h4] at b4
  have b5 := rB_len nn s4
  rw [h5] at b5
  have b6 := rZ_len s5
  rw [h6] at b6
  have b7 := rX_len 2 s6
  rw [h7] at b7
  have b8 : s8.1.length ≤ s7.1.length := by
    cases kp with
    | true => have := rZ_len s7; rw [show rZ s7 = (pl, s8) from h8] at this; exact this
    | false => rw [← (Prod.mk.inj (show ([], s7) = (pl, s8) from h8)).2]; exact Nat.le_refl _
  dsimp only at b1 b2 b3 b4 b5 b6 b7 b8
  have HL8 := Lib.hid (show s8.1.length ≤ 900000 by omega)
  have HNN := Lib.hid (show xn = (nn : Int) by rw [hxn, hnn])
  have HNL := Lib.hid (show nn ≤ 100000 by rw [← hnn]; have := bn.toNat_lt; omega)
  have HXN := Lib.hid hxn
  have hxn0 : 0 ≤ xn := by omega
  have hxn1 : xn < 256 := by have := bn.toNat_lt; omega
  have HX1 := Lib.hid hx1
  clear hxn hnn hx1 b1 b2 b3 b4 b5 b6 b7 b8
  have HKP := Lib.hid hkp
  have HKA := Lib.hid hka
  have H1 := Lib.hid h1
  have H2 := Lib.hid h2
  have H3 := Lib.hid h3
  have H4 := Lib.hid h4
  have H5 := Lib.hid h5
  have H6 := Lib.hid h6
  have H7 := Lib.hid h7
  clear hkp hka hl h1 h2 h3 h4 h5 h6 h7
  rw [hS] at he ⊢
  dsimp only at he
  clear hS
  rw [if_pos he, he]
  have hb : (s10.2 != 0) = false := by simp [he]
  clear he
  have G8 := Lib.hid h8
  have G9 := Lib.hid h9
  have G10 := Lib.hid h10
  clear h8 h9 h10
  go_enter Tryz.func62, Tryz.ntmps62
  go_wp2_with fail
  have S0 : St0 w _ (l, 0) [.string ⟨#[]⟩, .slice none 0 0, .string ⟨#[]⟩, .int .u16 0, .string ⟨#[]⟩, .slice none 0 0] := St0.start w _ l HR.out [.string ⟨#[]⟩, .slice none 0 0, .string ⟨#[]⟩, .int .u16 0, .string ⟨#[]⟩, .slice none 0 0] 75 132 #[.string ⟨#[]⟩, .slice none 0 0, .string ⟨#[]⟩, .int .u16 0, .string ⟨#[]⟩, .slice none 0 0] rfl
  generalize (w.alloc _).alloc _ = w0 at S0 ⊢
  go_wp2_with (first
    | (go_at_call 106; refine (byte_m w _ _ _ _ _ S0.r H1.out).mono ?_; rw [← HX1.out]; rintro e w1 ⟨rfl, R1, O1⟩; have S1 := S0.onR R1 O1; clear S0 R1)
    | (go_at_call 107; refine (wrong_m w _ _ _ _ (q1) S1.r H2.out).mono ?_; rintro e w2 ⟨rfl, R2, O2⟩; have S2 := S1.onR R2 O2; clear S1 R2)
    | (go_at_call 108; refine (ended_q w _ _ _ _ _ S2.r H3.out).mono ?_; rintro e w3 ⟨rfl, R3, O3⟩; have S3 := S2.onR R3 O3; clear S2 R3)
    | ((with_reducible show AtS 8); refine wpl_alloc rfl _ rfl [.string ⟨#[]⟩, .slice none 0 0, .string ⟨#[]⟩, .int .u16 0, .string ⟨#[]⟩, .slice none 0 0] (by kernel_rfl) ?_; intro w4 B4 hx4; have S4 : St _ _ _ _ _ [.string ⟨#[]⟩, .slice none 0 0, .string ⟨#[]⟩, .int .u16 0, .string ⟨#[]⟩, .slice none 0 0] := S3.new hx4 (Nat.le_refl _) B4; clear S3)
    | ((with_reducible show AtW 75); refine wpl_store_box rfl _ _ _ rfl _ [.string (strL us), .slice none 0 0, .string ⟨#[]⟩, .int .u16 0, .string ⟨#[]⟩, .slice none 0 0] rfl rfl S4.b rfl (by kernel_rfl) (by rfl) ?_; intro w5 B5 O5; have S5 : St _ _ _ _ _ [.string (strL us), .slice none 0 0, .string ⟨#[]⟩, .int .u16 0, .string ⟨#[]⟩, .slice none 0 0] := S4.onV B5 O5; clear S4)
    | (go_at_call 106; refine (byte_m w _ _ _ _ _ S5.r H4.out).mono ?_; rw [← HXN.out]; rintro e w6 ⟨rfl, R6, O6⟩; have S6 := S5.onR R6 O6; clear S5 R6)
    | (go_at_call 109; refine (bytesS_q w _ _ _ nn _ _ _ HNN.out S6.r HNL.out H5.out).mono ?_; rintro e w7 ⟨A7, c7, rfl, ob, R7, O7⟩; have ltob := S6.lt; have loob := S6.lo; have S7 := S6.onR R7 O7; clear S6 R7)
    | ((with_reducible show AtW 22); refine wpl_store_cell rfl _ _ _ rfl w3.heap.size 1 (.slice A7 nn c7) rfl rfl rfl rfl (by kernel_rfl) S7.b (by simp) ?_; intro w8 B8 O8; have S8 : St _ _ _ _ _ [.string (strL us), .slice A7 nn c7, .string ⟨#[]⟩, .int .u16 0, .string ⟨#[]⟩, .slice none 0 0] := S7.onV B8 O8; replace ob := ob.keepB O8 (fun e => by have h9 := (ob.ltB e).1; omega); clear S7)
    | (go_at_call 108; refine (ended_q w _ _ _ _ _ S8.r H6.out).mono ?_; rintro e w9 ⟨rfl, R9, O9⟩; have S9 := S8.onR R9 O9; replace ob := ob.keepB O9 (fun e => by have h9 := (ob.ltB e).1; omega); clear S8 R9)
    | ((with_reducible show AtW 9); refine wpl_store_cell rfl _ _ _ rfl w3.heap.size 2 (.string (strL db)) rfl rfl rfl rfl (by kernel_rfl) S9.b (by simp) ?_; intro w10 B10 O10; have S10 : St _ _ _ _ _ [.string (strL us), .slice A7 nn c7, .string (strL db), .int .u16 0, .string ⟨#[]⟩, .slice none 0 0] := S9.onV B10 O10; replace ob := ob.keepB O10 (fun e => by have h9 := (ob.ltB e).1; omega); clear S9)
    | (go_at_call 110; refine (fixed_q w _ _ _ 2 _ _ S10.r (by omega) (by omega) H7.out).mono ?_; rintro e w11 ⟨rfl, R11, O11⟩; have S11 := S10.onR R11 O11; replace ob := ob.keepB O11 (fun e => by have h9 := (ob.ltB e).1; omega); clear S10 R11)
    | ((with_reducible show AtW 27); refine wpl_store_cell rfl _ _ _ rfl w3.heap.size 3 (.int .u16 (ch % 65536)) rfl rfl rfl rfl (by kernel_rfl) S11.b (by simp) ?_; intro w12 B12 O12; have S12 : St _ _ _ _ _ [.string (strL us), .slice A7 nn c7, .string (strL db), .int .u16 (ch % 65536), .string ⟨#[]⟩, .slice none 0 0] := S11.onV B12 O12; replace ob := ob.keepB O12 (fun e => by have h9 := (ob.ltB e).1; omega); clear S11)
    | fail)
  cases kp <;> cases ka
  · have h8 := G8.out
    have h9 := G9.out
    have h10 := G10.out
    clear G8 G9 G10
    obtain ⟨rfl, rfl⟩ : [] = pl ∧ s7 = s8 := Prod.mk.inj (show ([], s7) = (pl, s8) from h8)
    clear h8
    obtain ⟨rfl, rfl⟩ : [] = ps ∧ s7 = s9 := Prod.mk.inj (show ([], s7) = (ps, s9) from h9)
    clear h9
    have H10 := Lib.hid h10
    clear h10
    go_wp2_with (first
      | ((with_reducible show Calls _ _ #[_, Value.int .u32 524288] _ _); go_at_call 104; refine (hasR_at _ _ _ false ((hasB_plugin _).trans HKP.out)).mono ?_; rintro e wx ⟨rfl, rfl⟩)
      | ((with_reducible show Calls _ _ #[_, Value.int .u32 1048576] _ _); go_at_call 104; refine (hasR_at _ _ _ false ((hasB_attrs _).trans HKA.out)).mono ?_; rintro e wx ⟨rfl, rfl⟩)
      | (go_at_call 112; refine (done_r w _ _ _ _ S12.r H10.out).mono ?_; rintro e w13 ⟨rfl, R13, O13⟩; have S13 := S12.onR R13 O13; replace ob := ob.keepB O13 (fun e => by have h9 := (ob.ltB e).1; omega); clear S12 R13; have c1 := S13.r.c1)
      | ((with_reducible show AtS 52); refine wpl_load_box rfl _ _ rfl _ rfl S13.b Tryz.underlying75 rfl (by kernel_rfl) ?_)
      | ((with_reducible show AtW 75); refine wpl_store_box rfl _ _ _ rfl _ [.string (strL us), .slice A7 nn c7, .string (strL db), .int .u16 (ch % 65536), .string ⟨#[]⟩, .slice none 0 0] rfl rfl S13.b0 rfl (by kernel_rfl) (by rfl) ?_; intro wz Bz Oz; replace ob := ob.keepB Oz (fun e => by have h9 := (ob.ltB e).1; have := w.heap.size; omega))
      | fail)
    try simp only [Exit.inBlock, Exit.then]
    refine ret_box rfl rfl rfl rfl Bz Tryz.underlying75 rfl (by kernel_rfl) ?_
    exact ⟨⟨_, _, _, _, rfl, ob.rd, S13.ext.on Oz (Nat.le_refl _)⟩⟩
  · have h8 := G8.out
    have h9 := G9.out
    have h10 := G10.out
    clear G8 G9 G10
    obtain ⟨rfl, rfl⟩ : [] = pl ∧ s7 = s8 := Prod.mk.inj (show ([], s7) = (pl, s8) from h8)
    clear h8
    have h9x : rA s7 = (ps, s9) := h9
    have H9 := Lib.hid h9x
    clear h9x h9
    have H10 := Lib.hid h10
    clear h10
    go_wp2_with (first
      | ((with_reducible show Calls _ _ #[_, Value.int .u32 524288] _ _); go_at_call 104; refine (hasR_at _ _ _ false ((hasB_plugin _).trans HKP.out)).mono ?_; rintro e wx ⟨rfl, rfl⟩)
      | ((with_reducible show Calls _ _ #[_, Value.int .u32 1048576] _ _); go_at_call 104; refine (hasR_at _ _ _ true ((hasB_attrs _).trans HKA.out)).mono ?_; rintro e wx ⟨rfl, rfl⟩)
      | (go_at_call 111; refine (attrs_q w _ _ _ _ _ S12.r HL8.out H9.out).mono ?_; rintro e w13 ⟨va13, qs13, rfl, oc, R13, O13⟩; obtain ⟨A13, c13, hva13, _, _⟩ := oc.recs.shape; rw [pairsC_length] at hva13; subst hva13; have ltoc := S12.lt; have looc := S12.lo; have S13 := S12.onR R13 O13; replace ob := ob.keepB O13 (fun e => by have h9 := (ob.ltB e).1; omega); clear S12 R13)
      | ((with_reducible show AtW 73); refine wpl_store_cell rfl _ _ _ rfl w3.heap.size 5 (.slice A13 qs13.length c13) rfl rfl rfl rfl (by kernel_rfl) S13.b (by simp) ?_; intro w14 B14 O14; have S14 : St _ _ _ _ _ [.string (strL us), .slice A7 nn c7, .string (strL db), .int .u16 (ch % 65536), .string ⟨#[]⟩, .slice A13 qs13.length c13] := S13.onV B14 O14; replace ob := ob.keepB O14 (fun e => by have h9 := (ob.ltB e).1; omega); replace oc := oc.keepB O14 (fun e => by have h9 := (oc.ltB e).1; omega); clear S13)
      | (go_at_call 112; refine (done_r w _ _ _ _ S14.r H10.out).mono ?_; rintro e w15 ⟨rfl, R15, O15⟩; have S15 := S14.onR R15 O15; replace ob := ob.keepB O15 (fun e => by have h9 := (ob.ltB e).1; omega); replace oc := oc.keepB O15 (fun e => by have h9 := (oc.ltB e).1; omega); clear S14 R15; have c1 := S15.r.c1)
      | ((with_reducible show AtS 52); refine wpl_load_box rfl _ _ rfl _ rfl S15.b Tryz.underlying75 rfl (by kernel_rfl) ?_)
      | ((with_reducible show AtW 75); refine wpl_store_box rfl _ _ _ rfl _ [.string (strL us), .slice A7 nn c7, .string (strL db), .int .u16 (ch % 65536), .string ⟨#[]⟩, .slice A13 qs13.length c13] rfl rfl S15.b0 rfl (by kernel_rfl) (by rfl) ?_; intro wz Bz Oz; replace ob := ob.keepB Oz (fun e => by have h9 := (ob.ltB e).1; have := w.heap.size; omega); replace oc := oc.keepB Oz (fun e => by have h9 := (oc.ltB e).1; have := w.heap.size; omega))
      | fail)
    try simp only [Exit.inBlock, Exit.then]
    refine ret_box rfl rfl rfl rfl Bz Tryz.underlying75 rfl (by kernel_rfl) ?_
    exact ⟨⟨_, _, _, _, rfl, ob.rd, S15.ext.on Oz (Nat.le_refl _)⟩⟩
  · have h8 := G8.out
    have h9 := G9.out
    have h10 := G10.out
    clear G8 G9 G10
    have h8x : rZ s7 = (pl, s8) := h8
    have H8 := Lib.hid h8x
    clear h8x h8
    obtain ⟨rfl, rfl⟩ : [] = ps ∧ s8 = s9 := Prod.mk.inj (show ([], s8) = (ps, s9) from h9)
    clear h9
    have H10 := Lib.hid h10
    clear h10
    go_wp2_with (first
      | ((with_reducible show Calls _ _ #[_, Value.int .u32 524288] _ _); go_at_call 104; refine (hasR_at _ _ _ true ((hasB_plugin _).trans HKP.out)).mono ?_; rintro e wx ⟨rfl, rfl⟩)
      | (go_at_call 108; refine (ended_q w _ _ _ _ _ S12.r H8.out).mono ?_; rintro e w13 ⟨rfl, R13, O13⟩; have S13 := S12.onR R13 O13; replace ob := ob.keepB O13 (fun e => by have h9 := (ob.ltB e).1; omega); clear S12 R13)
      | ((with_reducible show AtW 9); refine wpl_store_cell rfl _ _ _ rfl w3.heap.size 4 (.string (strL pl)) rfl rfl rfl rfl (by kernel_rfl) S13.b (by simp) ?_; intro w14 B14 O14; have S14 : St _ _ _ _ _ [.string (strL us), .slice A7 nn c7, .string (strL db), .int .u16 (ch % 65536), .string (strL pl), .slice none 0 0] := S13.onV B14 O14; replace ob := ob.keepB O14 (fun e => by have h9 := (ob.ltB e).1; omega); clear S13)
      | ((with_reducible show Calls _ _ #[_, Value.int .u32 1048576] _ _); go_at_call 104; refine (hasR_at _ _ _ false ((hasB_attrs _).trans HKA.out)).mono ?_; rintro e wx ⟨rfl, rfl⟩)
      | (go_at_call 112; refine (done_r w _ _ _ _ S14.r H10.out).mono ?_; rintro e w15 ⟨rfl, R15, O15⟩; have S15 := S14.onR R15 O15; replace ob := ob.keepB O15 (fun e => by have h9 := (ob.ltB e).1; omega); clear S14 R15; have c1 := S15.r.c1)
      | ((with_reducible show AtS 52); refine wpl_load_box rfl _ _ rfl _ rfl S15.b Tryz.underlying75 rfl (by kernel_rfl) ?_)
      | ((with_reducible show AtW 75); refine wpl_store_box rfl _ _ _ rfl _ [.string (strL us), .slice A7 nn c7, .string (strL db), .int .u16 (ch % 65536), .string (strL pl), .slice none 0 0] rfl rfl S15.b0 rfl (by kernel_rfl) (by rfl) ?_; intro wz Bz Oz; replace ob := ob.keepB Oz (fun e => by have h9 := (ob.ltB e).1; have := w.heap.size; omega))
      | fail)
    try simp only [Exit.inBlock, Exit.then]
    refine ret_box rfl rfl rfl rfl Bz Tryz.underlying75 rfl (by kernel_rfl) ?_
    exact ⟨⟨_, _, _, _, rfl, ob.rd, S15.ext.on Oz (Nat.le_refl _)⟩⟩
  · have h8 := G8.out
    have h9 := G9.out
    have h10 := G10.out
    clear G8 G9 G10
    have h8x : rZ s7 = (pl, s8) := h8
    have H8 := Lib.hid h8x
    clear h8x h8
    have h9x : rA s8 = (ps, s9) := h9
    have H9 := Lib.hid h9x
    clear h9x h9
    have H10 := Lib.hid h10
    clear h10
    go_wp2_with (first
      | ((with_reducible show Calls _ _ #[_, Value.int .u32 524288] _ _); go_at_call 104; refine (hasR_at _ _ _ true ((hasB_plugin _).trans HKP.out)).mono ?_; rintro e wx ⟨rfl, rfl⟩)
      | (go_at_call 108; refine (ended_q w _ _ _ _ _ S12.r H8.out).mono ?_; rintro e w13 ⟨rfl, R13, O13⟩; have S13 := S12.onR R13 O13; replace ob := ob.keepB O13 (fun e => by have h9 := (ob.ltB e).1; omega); clear S12 R13)
      | ((with_reducible show AtW 9); refine wpl_store_cell rfl _ _ _ rfl w3.heap.size 4 (.string (strL pl)) rfl rfl rfl rfl (by kernel_rfl) S13.b (by simp) ?_; intro w14 B14 O14; have S14 : St _ _ _ _ _ [.string (strL us), .slice A7 nn c7, .string (strL db), .int .u16 (ch % 65536), .string (strL pl), .slice none 0 0] := S13.onV B14 O14; replace ob := ob.keepB O14 (fun e => by have h9 := (ob.ltB e).1; omega); clear S13)
      | ((with_reducible show Calls _ _ #[_, Value.int .u32 1048576] _ _); go_at_call 104; refine (hasR_at _ _ _ true ((hasB_attrs _).trans HKA.out)).mono ?_; rintro e wx ⟨rfl, rfl⟩)
      | (go_at_call 111; refine (attrs_q w _ _ _ _ _ S14.r HL8.out H9.out).mono ?_; rintro e w15 ⟨va15, qs15, rfl, oc, R15, O15⟩; obtain ⟨A15, c15, hva15, _, _⟩ := oc.recs.shape; rw [pairsC_length] at hva15; subst hva15; have ltoc := S14.lt; have looc := S14.lo; have S15 := S14.onR R15 O15; replace ob := ob.keepB O15 (fun e => by have h9 := (ob.ltB e).1; omega); clear S14 R15)
      | ((with_reducible show AtW 73); refine wpl_store_cell rfl _ _ _ rfl w3.heap.size 5 (.slice A15 qs15.length c15) rfl rfl rfl rfl (by kernel_rfl) S15.b (by simp) ?_; intro w16 B16 O16; have S16 : St _ _ _ _ _ [.string (strL us), .slice A7 nn c7, .string (strL db), .int .u16 (ch % 65536), .string (strL pl), .slice A15 qs15.length c15] := S15.onV B16 O16; replace ob := ob.keepB O16 (fun e => by have h9 := (ob.ltB e).1; omega); replace oc := oc.keepB O16 (fun e => by have h9 := (oc.ltB e).1; omega); clear S15)
      | (go_at_call 112; refine (done_r w _ _ _ _ S16.r H10.out).mono ?_; rintro e w17 ⟨rfl, R17, O17⟩; have S17 := S16.onR R17 O17; replace ob := ob.keepB O17 (fun e => by have h9 := (ob.ltB e).1; omega); replace oc := oc.keepB O17 (fun e => by have h9 := (oc.ltB e).1; omega); clear S16 R17; have c1 := S17.r.c1)
      | ((with_reducible show AtS 52); refine wpl_load_box rfl _ _ rfl _ rfl S17.b Tryz.underlying75 rfl (by kernel_rfl) ?_)
      | ((with_reducible show AtW 75); refine wpl_store_box rfl _ _ _ rfl _ [.string (strL us), .slice A7 nn c7, .string (strL db), .int .u16 (ch % 65536), .string (strL pl), .slice A15 qs15.length c15] rfl rfl S17.b0 rfl (by kernel_rfl) (by rfl) ?_; intro wz Bz Oz; replace ob := ob.keepB Oz (fun e => by have h9 := (ob.ltB e).1; have := w.heap.size; omega); replace oc := oc.keepB Oz (fun e => by have h9 := (oc.ltB e).1; have := w.heap.size; omega))
      | fail)
    try simp only [Exit.inBlock, Exit.then]
    refine ret_box rfl rfl rfl rfl Bz Tryz.underlying75 rfl (by kernel_rfl) ?_
    exact ⟨⟨_, _, _, _, rfl, ob.rd, S17.ext.on Oz (Nat.le_refl _)⟩⟩
end Go.Proofs.YtbodppfpmpmadaaGreat

