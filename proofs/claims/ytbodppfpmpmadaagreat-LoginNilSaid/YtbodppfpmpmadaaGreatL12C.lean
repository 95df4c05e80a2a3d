import Derived.Test.YtbodppfpmpmadaaGreatGrRC
/- The program's function that reads a switch. (Printed by gen_grF.py.) -/
namespace Go.Proofs.YtbodppfpmpmadaaGreat
open Go.RowKit

def RetSwitch (w : World) (r : (List UInt8 × List UInt8) × Int) (e : Ending) (w' : World) : Prop :=
  ∃ vn, e = .returned (.tuple #[.agg #[.string (strL r.1.1), vn], .int .i64 r.2]) ∧ Rd w' vn r.1.2 ∧ Ext w w'

set_option maxRecDepth 100000 in
set_option maxHeartbeats 4000000 in
theorem readSwitch_g (w : World) (v : Value) (l : List UInt8) (hr : Rd w v l) : Calls Tryz.prog 169 #[v] w (RetSwitch w (overP switchM ([], []) l)) := by
  obtain ⟨A0, cap0, hv, _, _, _, _⟩ := id hr
  have HR := Lib.hid hr
  clear hr
  subst hv
  obtain ⟨b1, s1, h1⟩ := byte_one (l, 0)
  obtain ⟨x1, hx1⟩ : ∃ x1 : Int, x1 = (b1.toNat : Int) := ⟨_, rfl⟩
  obtain ⟨q1, hk1⟩ : ∃ q, (x1 != 254) = q := ⟨_, rfl⟩
  obtain ⟨s2, h2⟩ : ∃ s, rW q1 s1 = s := ⟨_, rfl⟩
  obtain ⟨pl, s3, h3⟩ : ∃ x s, rZ s2 = (x, s) := ⟨_, _, rfl⟩
  obtain ⟨n, s4, h4⟩ : ∃ x s, rB 20 s3 = (x, s) := ⟨_, _, rfl⟩
  obtain ⟨k1, hn1⟩ : ∃ k, nonceOk n = k := ⟨_, rfl⟩
  obtain ⟨s5, h5⟩ : ∃ s, rW (!k1) s4 = s := ⟨_, rfl⟩
  obtain ⟨s6, h6⟩ : ∃ s, r0 1 s5 = s := ⟨_, rfl⟩
  obtain ⟨s7, h7⟩ : ∃ s, rO s6 = s := ⟨_, rfl⟩
  have hS : overP switchM ([], []) l = (if s7.2 = 0 then (pl, n) else ([], []), s7.2) := by
    have e1 : byteI [b1] = x1 := hx1.symm
    simp only [overP, switchM, bindR, chkR, pureR, h1, e1, hk1, h2, h3, h4, hn1, h5, h6, h7]
  have HX1 := Lib.hid hx1
  have H1 := Lib.hid h1
  have H2 := Lib.hid h2
  have H3 := Lib.hid h3
  have H4 := Lib.hid h4
  have HK1 := Lib.hid hn1
  have H5 := Lib.hid h5
  have H6 := Lib.hid h6
  have H7 := Lib.hid h7
  clear hx1 h1 h2 h3 h4 hn1 h5 h6 h7
  rw [hS]
  clear hS
  by_cases he : s7.2 = 0
  · rw [if_pos he, he]
    have hb : (s7.2 != 0) = false := by simp [he]
    clear he
    go_enter Tryz.func169, Tryz.ntmps169
    go_wp2_with fail
    have S0 : St0 w _ (l, 0) [.string ⟨#[]⟩, .slice none 0 0] := St0.start w _ l HR.out [.string ⟨#[]⟩, .slice none 0 0] 103 114 #[.string ⟨#[]⟩, .slice none 0 0] rfl
    generalize (w.alloc _).alloc _ = w0 at S0 ⊢
    go_wp2_with (first
      | (go_at_call 80; refine (take1_g w _ _ _ _ x1 _ HX1.out S0.r H1.out).mono ?_; rintro e w1 ⟨gb1, cb1, rfl, cell1, R1, O1⟩; have S1 := S0.onR R1 O1; clear S0 R1)
      | (go_at_call 79; refine (bad_g w _ _ _ _ (q1) S1.r H2.out).mono ?_; rintro e w2 ⟨rfl, R2, O2⟩; have S2 := S1.onR R2 O2; clear S1 R2)
      | (go_at_call 81; refine (ended_g w _ _ _ _ _ S2.r H3.out).mono ?_; rintro e w3 ⟨rfl, R3, O3⟩; have S3 := S2.onR R3 O3; clear S2 R3)
      | (go_at_call 80; refine (takeS_g w _ _ _ 20 _ _ _ rfl S3.r (by omega) H4.out).mono ?_; rintro e w4 ⟨A4, c4, rfl, ob, R4, O4⟩; have ltob := S3.lt; have S4 := S3.onR R4 O4; clear S3 R4)
      | ((with_reducible show wpList _ _ _ (⟨some 5, _, _, _, _, _⟩ :: _) _ _); refine wpl_alloc rfl _ rfl [.string ⟨#[]⟩, .slice none 0 0] (by kernel_rfl) ?_; intro w5 B5 hx5; have S5 : St w _ w4.heap.size _ [.string ⟨#[]⟩, .slice none 0 0] [.string ⟨#[]⟩, .slice none 0 0] := S4.new hx5 (Nat.le_refl _) B5; have obn : ∀ g9, _ := fun g9 (e : _ = some g9) => (ob.ltB (g := g9) e).2; have obq := ob.ext hx5; clear ob; have ob := obq; clear obq; clear S4)
      | ((with_reducible show wpList _ _ _ (⟨none, Op.store 103 _ _, _, _, _, _⟩ :: _) _ _); refine wpl_store_box rfl _ _ _ rfl _ [.string (strL pl), .slice A4 20 c4] rfl rfl S5.b rfl (by kernel_rfl) (by rfl) ?_; intro w6 B6 O6; have S6 : St w _ w4.heap.size _ [.string ⟨#[]⟩, .slice none 0 0] [.string (strL pl), .slice A4 20 c4] := S5.onV B6 O6; have obq := ob.keepB O6 (fun e => by have h9 := (ob.ltB e).1; have h8 := obn _ e; omega); clear ob; have ob := obq; clear obq; clear S5; have p6_1 : w6.cell? ⟨w4.heap.size, 1, none⟩ = some (.slice A4 20 c4) := S6.b.at (j := 1) rfl)
      | (go_at_call 167; refine (nonce_g _ _ _ k1 ob.rd HK1.out).mono ?_; rintro e wx ⟨rfl, rfl⟩)
      | (go_at_call 79; refine (bad_g w _ _ _ _ (!k1) S6.r H5.out).mono ?_; rintro e w7 ⟨rfl, R7, O7⟩; have S7 := S6.onR R7 O7; have obq := ob.keepB O7 (fun e => by have h9 := (ob.ltB e).1; omega); clear ob; have ob := obq; clear obq; clear S6 R7)
      | (go_at_call 154; refine (zeros_g1 w _ _ _ _ S7.r H6.out).mono ?_; rintro e w8 ⟨rfl, R8, O8⟩; have S8 := S7.onR R8 O8; have obq := ob.keepB O8 (fun e => by have h9 := (ob.ltB e).1; omega); clear ob; have ob := obq; clear obq; clear S7 R8)
      | (go_at_call 85; refine (over_g w _ _ _ _ S8.r H7.out).mono ?_; rintro e w9 ⟨rfl, R9, O9⟩; have S9 := S8.onR R9 O9; have obq := ob.keepB O9 (fun e => by have h9 := (ob.ltB e).1; omega); clear ob; have ob := obq; clear obq; clear S8 R9; have p9_1 : w9.cell? ⟨w4.heap.size, 1, none⟩ = some (.slice A4 20 c4) := S9.b.at (j := 1) rfl; have c1 := S9.r.c1)
      | ((with_reducible show wpList _ _ _ (⟨some 36, _, _, _, _, _⟩ :: _) _ _); refine wpl_load_box rfl _ _ rfl _ rfl S9.b Tryz.underlying103 rfl (by kernel_rfl) ?_)
      | ((with_reducible show wpList _ _ _ (⟨none, Op.store 103 _ _, _, _, _, _⟩ :: _) _ _); refine wpl_store_box rfl _ _ _ rfl _ [.string (strL pl), .slice A4 20 c4] rfl rfl S9.b0 rfl (by kernel_rfl) (by rfl) ?_; intro wz Bz Oz; have obq := ob.keepB Oz (fun e => by have h9 := (ob.ltB e).1; have := w.heap.size; omega); clear ob; have ob := obq; clear obq)
      | fail)
    try simp only [Exit.inBlock, Exit.then]
    refine ret_box rfl rfl rfl rfl Bz Tryz.underlying103 rfl (by kernel_rfl) ?_
    exact ⟨_, rfl, ob.rd, S9.ext.on Oz (Nat.le_refl _)⟩
  · rw [if_neg he]
    have hb : (s7.2 != 0) = true := by simpa using he
    clear he
    go_enter Tryz.func169, Tryz.ntmps169
    go_wp2_with fail
    have S0 : St0 w _ (l, 0) [.string ⟨#[]⟩, .slice none 0 0] := St0.start w _ l HR.out [.string ⟨#[]⟩, .slice none 0 0] 103 114 #[.string ⟨#[]⟩, .slice none 0 0] rfl
    generalize (w.alloc _).alloc _ = w0 at S0 ⊢
    go_wp2_with (first
      | (go_at_call 80; refine (take1_g w _ _ _ _ x1 _ HX1.out S0.r H1.out).mono ?_; rintro e w1 ⟨gb1, cb1, rfl, cell1, R1, O1⟩; have S1 := S0.onR R1 O1; clear S0 R1)
      | (go_at_call 79; refine (bad_g w _ _ _ _ (q1) S1.r H2.out).mono ?_; rintro e w2 ⟨rfl, R2, O2⟩; have S2 := S1.onR R2 O2; clear S1 R2)
      | (go_at_call 81; refine (ended_g w _ _ _ _ _ S2.r H3.out).mono ?_; rintro e w3 ⟨rfl, R3, O3⟩; have S3 := S2.onR R3 O3; clear S2 R3)
      | (go_at_call 80; refine (takeS_g w _ _ _ 20 _ _ _ rfl S3.r (by omega) H4.out).mono ?_; rintro e w4 ⟨A4, c4, rfl, ob, R4, O4⟩; have ltob := S3.lt; have S4 := S3.onR R4 O4; clear S3 R4)
      | ((with_reducible show wpList _ _ _ (⟨some 5, _, _, _, _, _⟩ :: _) _ _); refine wpl_alloc rfl _ rfl [.string ⟨#[]⟩, .slice none 0 0] (by kernel_rfl) ?_; intro w5 B5 hx5; have S5 : St w _ w4.heap.size _ [.string ⟨#[]⟩, .slice none 0 0] [.string ⟨#[]⟩, .slice none 0 0] := S4.new hx5 (Nat.le_refl _) B5; have obn : ∀ g9, _ := fun g9 (e : _ = some g9) => (ob.ltB (g := g9) e).2; have obq := ob.ext hx5; clear ob; have ob := obq; clear obq; clear S4)
      | ((with_reducible show wpList _ _ _ (⟨none, Op.store 103 _ _, _, _, _, _⟩ :: _) _ _); refine wpl_store_box rfl _ _ _ rfl _ [.string (strL pl), .slice A4 20 c4] rfl rfl S5.b rfl (by kernel_rfl) (by rfl) ?_; intro w6 B6 O6; have S6 : St w _ w4.heap.size _ [.string ⟨#[]⟩, .slice none 0 0] [.string (strL pl), .slice A4 20 c4] := S5.onV B6 O6; have obq := ob.keepB O6 (fun e => by have h9 := (ob.ltB e).1; have h8 := obn _ e; omega); clear ob; have ob := obq; clear obq; clear S5; have p6_1 : w6.cell? ⟨w4.heap.size, 1, none⟩ = some (.slice A4 20 c4) := S6.b.at (j := 1) rfl)
      | (go_at_call 167; refine (nonce_g _ _ _ k1 ob.rd HK1.out).mono ?_; rintro e wx ⟨rfl, rfl⟩)
      | (go_at_call 79; refine (bad_g w _ _ _ _ (!k1) S6.r H5.out).mono ?_; rintro e w7 ⟨rfl, R7, O7⟩; have S7 := S6.onR R7 O7; have obq := ob.keepB O7 (fun e => by have h9 := (ob.ltB e).1; omega); clear ob; have ob := obq; clear obq; clear S6 R7)
      | (go_at_call 154; refine (zeros_g1 w _ _ _ _ S7.r H6.out).mono ?_; rintro e w8 ⟨rfl, R8, O8⟩; have S8 := S7.onR R8 O8; have obq := ob.keepB O8 (fun e => by have h9 := (ob.ltB e).1; omega); clear ob; have ob := obq; clear obq; clear S7 R8)
      | (go_at_call 85; refine (over_g w _ _ _ _ S8.r H7.out).mono ?_; rintro e w9 ⟨rfl, R9, O9⟩; have S9 := S8.onR R9 O9; have obq := ob.keepB O9 (fun e => by have h9 := (ob.ltB e).1; omega); clear ob; have ob := obq; clear obq; clear S8 R9; have p9_1 : w9.cell? ⟨w4.heap.size, 1, none⟩ = some (.slice A4 20 c4) := S9.b.at (j := 1) rfl; have c1 := S9.r.c1)
      | ((with_reducible show wpList _ _ _ (⟨none, Op.store 103 _ _, _, _, _, _⟩ :: _) _ _); refine wpl_store_box rfl _ _ _ rfl _ [.string ⟨#[]⟩, .slice none 0 0] rfl rfl S9.b0 rfl (by kernel_rfl) (by rfl) ?_; intro wz Bz Oz; have obq := ob.keepB Oz (fun e => by have h9 := (ob.ltB e).1; have := w.heap.size; omega); clear ob; have ob := obq; clear obq)
      | fail)
    try simp only [Exit.inBlock, Exit.then]
    refine ret_box rfl rfl rfl rfl Bz Tryz.underlying103 rfl (by kernel_rfl) ?_
    exact ⟨_, rfl, Rd.nil _, S9.ext.on Oz (Nat.le_refl _)⟩
end Go.Proofs.YtbodppfpmpmadaaGreat
