/- The reference's function that reads an ERR. (Printed by gen_rdI.py.) -/
import Derived.Test.YtnlfcknpmemhfaaRdH
namespace Go.Proofs.Ytnlfcknpmemhfaa
open Go.RowKit

theorem rB_len (n : Nat) (s : List UInt8 × Int) : (rB n s).2.1.length ≤ s.1.length := by
  unfold rB
  split
  · split <;> simp
  · exact Nat.le_refl _
theorem rI_len (s : List UInt8 × Int) : (rI s).2.1.length ≤ s.1.length := by
  unfold rI
  split
  · split <;> simp
  · exact Nat.le_refl _
theorem rT_len (s : List UInt8 × Int) : (rT s).2.1.length ≤ s.1.length := by
  unfold rT
  split
  · split <;> simp
  · exact Nat.le_refl _

/-- As the document reads it. -/
theorem errS_ref (l : List UInt8) : errS l =
    if (rR (rB 5 (rMust [35] (rF 2 (rMust [255] (l, 0))).2)).2).2.2 = 0 then (((rF 2 (rMust [255] (l, 0))).1 % 65536, (rB 5 (rMust [35] (rF 2 (rMust [255] (l, 0))).2)).1, (rR (rB 5 (rMust [35] (rF 2 (rMust [255] (l, 0))).2)).2).1), 0)
    else ((0, [], []), (rR (rB 5 (rMust [35] (rF 2 (rMust [255] (l, 0))).2)).2).2.2) := by
  unfold errS
  dsimp only
  generalize (rMust [35] (rF 2 (rMust [255] (l, 0))).2) = s
  obtain ⟨l3, e3⟩ := s
  by_cases he : e3 = 0
  · subst he
    by_cases hl : l3.length < 5
    · simp [rB, rR, hl]
    · simp [rB, rR, hl]
  · simp [rB, rR, he]

set_option maxRecDepth 100000 in
set_option maxHeartbeats 2000000 in
theorem readErr_ref (w : World) (v : Value) (l : List UInt8) (hr : Rd w v l) (hll : l.length ≤ 8000000) :
    Calls Try.prog 55 #[v] w (RetErr w (errS l)) := by
  obtain ⟨A0, cap0, hv, _, _, _, _⟩ := id hr
  have HR := Lib.hid hr
  clear hr
  subst hv
  have tok : True := trivial
  have tok2 : True := trivial
  have tok3 : True := trivial
  have tok4 : True := trivial
  obtain ⟨s1, h1⟩ : ∃ s, rMust [255] (l, 0) = s := ⟨_, rfl⟩
  obtain ⟨x, s2, h2⟩ : ∃ x s, rF 2 s1 = (x, s) := ⟨_, _, rfl⟩
  obtain ⟨s3, h3⟩ : ∃ s, rMust [35] s2 = s := ⟨_, rfl⟩
  obtain ⟨t, s4, h4⟩ : ∃ t s, rB 5 s3 = (t, s) := ⟨_, _, rfl⟩
  obtain ⟨u, s5, h5⟩ : ∃ t s, rR s4 = (t, s) := ⟨_, _, rfl⟩
  have hS : errS l = if s5.2 = 0 then ((x % 65536, t, u), 0) else ((0, [], []), s5.2) := by rw [errS_ref]; simp only [h1, h2, h3, h4, h5]
  have hlen : s4.1.length ≤ 8000000 := by
    have i1 := rMust_len [255] (l, 0)
    have i2 := rF_len 2 s1
    have i3 := rMust_len [35] s2
    have i4 := rB_len 5 s3
    rw [h1] at i1; rw [h2] at i2; rw [h3] at i3; rw [h4] at i4
    dsimp only at i1 i2 i3 i4
    omega
  have H1 := Lib.hid h1
  have H2 := Lib.hid h2
  have H3 := Lib.hid h3
  have H4 := Lib.hid h4
  have H5 := Lib.hid h5
  clear h1 h2 h3 h4 h5
  rw [hS]
  clear hS
  obtain ⟨ba, sa, hba⟩ := rB_one ((l, 0))
  have hma := must_byte [255] hba
  have hka : ((ba.toNat : Int) != 255) = !(ba == 255) := congrArg not (byte_eq ba 255)
  rw [List.contains_cons, List.contains_nil, Bool.or_false] at hma
  obtain ⟨qa, hqa⟩ : ∃ q, (!(ba == 255)) = q := ⟨_, rfl⟩
  rw [hqa] at hma hka
  have HBa := Lib.hid hba
  rw [H1.out] at hma
  have HQa := Lib.hid hma.symm
  clear hma hba hqa
  obtain ⟨bc, sc, hbc⟩ := rB_one (s2)
  have hmc := must_byte [35] hbc
  have hkc : ((bc.toNat : Int) != 35) = !(bc == 35) := congrArg not (byte_eq bc 35)
  rw [List.contains_cons, List.contains_nil, Bool.or_false] at hmc
  obtain ⟨qc, hqc⟩ : ∃ q, (!(bc == 35)) = q := ⟨_, rfl⟩
  rw [hqc] at hmc hkc
  have HBc := Lib.hid hbc
  rw [H3.out] at hmc
  have HQc := Lib.hid hmc.symm
  clear hmc hbc hqc
  by_cases he : s5.2 = 0
  · rw [if_pos he]
    have hb : (s5.2 == 0) = true := by simp [he]
    go_enter Try.func55, Try.ntmps55
    go_wp2_with fail
    generalize hW0 : w.alloc _ = W0
    have B0 : BoxF W0 w.heap.size [.int .u16 0, .string ⟨#[]⟩, .string ⟨#[]⟩] := by rw [← hW0]; exact BoxF.new _ _ _
    have hx0 : Ext w W0 := by rw [← hW0]; exact (Ext.refl w).alloc _
    have hsz : W0.heap.size = w.heap.size + 1 := by rw [← hW0]; simp
    clear hW0
    have R0 := Rdr.at (HR.out.ext hx0) 0 102 (w.heap.size + 1) hsz.symm
    go_wp2_with (first
      | (go_at_call 79; refine (byte_m W0 _ (w.heap.size + 1) _ _ _ R0 HBa.out).mono ?_; rintro e w1 ⟨rfl, R1, O1⟩; clear R0)
      | (go_at_call 80; refine (wrong_m W0 _ (w.heap.size + 1) _ _ qa R1 HQa.out).mono ?_; rintro e w2 ⟨rfl, R2, O2⟩; clear R1)
      | (go_at_call 82; refine (fixed_r W0 _ (w.heap.size + 1) _ 2 _ _ R2 (by omega) H2.out).mono ?_; rintro e w3 ⟨rfl, R3, O3⟩; clear R2)
      | ((with_reducible show wpList _ _ _ (⟨none, Op.store 30 _ _, _, _, _, _⟩ :: _) _ _); clear tok; have lt := R3.lt; refine wpl_store_box rfl _ _ _ rfl _ [.int .u16 (x % 65536), .string ⟨#[]⟩, .string ⟨#[]⟩] rfl rfl (BoxF.new _ _ _) rfl (by kernel_rfl) (by rfl) ?_; intro w4 B4 O4; have R4 := R3.grow (((Ext.refl _).alloc _).on O4 (Nat.le_refl _)); clear R3)
      | (go_at_call 79; refine (byte_m W0 _ (w.heap.size + 1) _ _ _ R4 HBc.out).mono ?_; rintro e w5 ⟨rfl, R5, O5⟩; have B5 := B4.on O5 (by omega); clear B4; clear R4)
      | (go_at_call 80; refine (wrong_m W0 _ (w.heap.size + 1) _ _ qc R5 HQc.out).mono ?_; rintro e w6 ⟨rfl, R6, O6⟩; have B6 := B5.on O6 (by omega); clear B5; clear R5)
      | (go_at_call 86; refine (bytes_m W0 _ (w.heap.size + 1) _ 5 _ _ R6 (by omega) H4.out).mono ?_; rintro e w7 ⟨vb7, rfl, ob7, R7, O7⟩; have B7 := B6.on O7 (by omega); clear B6; clear R6)
      | ((with_reducible show wpList _ _ _ (⟨some 28, _, _, _, _, _⟩ :: _) _ _); refine wpl_str bt ob7.rd rfl _ rfl rfl ?_)
      | ((with_reducible show wpList _ _ _ (⟨none, Op.store 9 _ _, _, _, _, _⟩ :: _) _ _); clear tok3; refine wpl_store_cell rfl _ _ _ rfl _ 1 (.string (strL t)) rfl rfl rfl rfl (by kernel_rfl) B7 (by simp) ?_; intro w8 B8' O8; have B8 := B8'; clear B7 B8'; have R8 := R7.on O8 (by omega) (by omega); clear R7)
      | (go_at_call 83; refine (rest_r W0 _ (w.heap.size + 1) _ _ _ R8 hlen H5.out).mono ?_; rintro e w9 ⟨vb9, rfl, ob9, R9, O9⟩; have B9 := B8.on O9 (by omega); clear B8; clear R8)
      | ((with_reducible show wpList _ _ _ (⟨some 32, _, _, _, _, _⟩ :: _) _ _); refine wpl_str bt ob9.rd rfl _ rfl rfl ?_)
      | ((with_reducible show wpList _ _ _ (⟨none, Op.store 9 _ _, _, _, _, _⟩ :: _) _ _); clear tok4; refine wpl_store_cell rfl _ _ _ rfl _ 2 (.string (strL u)) rfl rfl rfl rfl (by kernel_rfl) B9 (by simp) ?_; intro w10 B10' O10; have B10 := B10'; clear B9 B10'; have R10 := R9.on O10 (by omega) (by omega); clear R9; have c1 := R10.c1)
      | ((with_reducible show wpList _ _ _ (⟨some 44, _, _, _, _, _⟩ :: _) _ _); refine wpl_load_box rfl _ _ rfl _ rfl B10 Try.underlying30 rfl (by kernel_rfl) ?_)
      | ((with_reducible show wpList _ _ _ (⟨none, Op.store 30 _ _, _, _, _, _⟩ :: _) _ _); clear tok2; refine wpl_store_box rfl _ _ _ rfl _ [.int .u16 (x % 65536), .string (strL t), .string (strL u)] rfl rfl (B0.ext R10.ext) rfl (by kernel_rfl) (by rfl) ?_; intro w9 B9 O9)
      | fail)
    try simp only [Exit.inBlock, Exit.then]
    refine ret_box rfl rfl rfl rfl B9 Try.underlying30 rfl (by kernel_rfl) ?_
    exact ⟨rfl, (hx0.trans R10.ext).on O9 (Nat.le_refl _)⟩
  · rw [if_neg he]
    have hb : (s5.2 == 0) = false := by simpa using he
    go_enter Try.func55, Try.ntmps55
    go_wp2_with fail
    generalize hW0 : w.alloc _ = W0
    have B0 : BoxF W0 w.heap.size [.int .u16 0, .string ⟨#[]⟩, .string ⟨#[]⟩] := by rw [← hW0]; exact BoxF.new _ _ _
    have hx0 : Ext w W0 := by rw [← hW0]; exact (Ext.refl w).alloc _
    have hsz : W0.heap.size = w.heap.size + 1 := by rw [← hW0]; simp
    clear hW0
    have R0 := Rdr.at (HR.out.ext hx0) 0 102 (w.heap.size + 1) hsz.symm
    go_wp2_with (first
      | (go_at_call 79; refine (byte_m W0 _ (w.heap.size + 1) _ _ _ R0 HBa.out).mono ?_; rintro e w1 ⟨rfl, R1, O1⟩; clear R0)
      | (go_at_call 80; refine (wrong_m W0 _ (w.heap.size + 1) _ _ qa R1 HQa.out).mono ?_; rintro e w2 ⟨rfl, R2, O2⟩; clear R1)
      | (go_at_call 82; refine (fixed_r W0 _ (w.heap.size + 1) _ 2 _ _ R2 (by omega) H2.out).mono ?_; rintro e w3 ⟨rfl, R3, O3⟩; clear R2)
      | ((with_reducible show wpList _ _ _ (⟨none, Op.store 30 _ _, _, _, _, _⟩ :: _) _ _); clear tok; have lt := R3.lt; refine wpl_store_box rfl _ _ _ rfl _ [.int .u16 (x % 65536), .string ⟨#[]⟩, .string ⟨#[]⟩] rfl rfl (BoxF.new _ _ _) rfl (by kernel_rfl) (by rfl) ?_; intro w4 B4 O4; have R4 := R3.grow (((Ext.refl _).alloc _).on O4 (Nat.le_refl _)); clear R3)
      | (go_at_call 79; refine (byte_m W0 _ (w.heap.size + 1) _ _ _ R4 HBc.out).mono ?_; rintro e w5 ⟨rfl, R5, O5⟩; have B5 := B4.on O5 (by omega); clear B4; clear R4)
      | (go_at_call 80; refine (wrong_m W0 _ (w.heap.size + 1) _ _ qc R5 HQc.out).mono ?_; rintro e w6 ⟨rfl, R6, O6⟩; have B6 := B5.on O6 (by omega); clear B5; clear R5)
      | (go_at_call 86; refine (bytes_m W0 _ (w.heap.size + 1) _ 5 _ _ R6 (by omega) H4.out).mono ?_; rintro e w7 ⟨vb7, rfl, ob7, R7, O7⟩; have B7 := B6.on O7 (by omega); clear B6; clear R6)
      | ((with_reducible show wpList _ _ _ (⟨some 28, _, _, _, _, _⟩ :: _) _ _); refine wpl_str bt ob7.rd rfl _ rfl rfl ?_)
      | ((with_reducible show wpList _ _ _ (⟨none, Op.store 9 _ _, _, _, _, _⟩ :: _) _ _); clear tok3; refine wpl_store_cell rfl _ _ _ rfl _ 1 (.string (strL t)) rfl rfl rfl rfl (by kernel_rfl) B7 (by simp) ?_; intro w8 B8' O8; have B8 := B8'; clear B7 B8'; have R8 := R7.on O8 (by omega) (by omega); clear R7)
      | (go_at_call 83; refine (rest_r W0 _ (w.heap.size + 1) _ _ _ R8 hlen H5.out).mono ?_; rintro e w9 ⟨vb9, rfl, ob9, R9, O9⟩; have B9 := B8.on O9 (by omega); clear B8; clear R8)
      | ((with_reducible show wpList _ _ _ (⟨some 32, _, _, _, _, _⟩ :: _) _ _); refine wpl_str bt ob9.rd rfl _ rfl rfl ?_)
      | ((with_reducible show wpList _ _ _ (⟨none, Op.store 9 _ _, _, _, _, _⟩ :: _) _ _); clear tok4; refine wpl_store_cell rfl _ _ _ rfl _ 2 (.string (strL u)) rfl rfl rfl rfl (by kernel_rfl) B9 (by simp) ?_; intro w10 B10' O10; have B10 := B10'; clear B9 B10'; have R10 := R9.on O10 (by omega) (by omega); clear R9; have c1 := R10.c1)
      | fail)
    have z0 := (B0.ext R10.ext).at (j := 0) (by rfl)
    have y0 := (B0.ext R10.ext).free 0 (by simp)
    have z1 := (B0.ext R10.ext).at (j := 1) (by rfl)
    have y1 := (B0.ext R10.ext).free 1 (by simp)
    have z2 := (B0.ext R10.ext).at (j := 2) (by rfl)
    have y2 := (B0.ext R10.ext).free 2 (by simp)
    go_region_held3 (fun W' => W'.cell? ⟨(w.heap.size + 1), 1, none⟩ = some (.int .i64 s5.2)) ((first | exact c1 | exact (On.sets _ 0 [.int .u16 0, .string ⟨#[]⟩, .string ⟨#[]⟩]).cell c1 (by simp) | fail)) (fail)
    go_wp2_with fail
    have B9 := (B0.ext R10.ext.drew).sets (ds := [.int .u16 0, .string ⟨#[]⟩, .string ⟨#[]⟩]) rfl
    have O9 := On.sets (g := w.heap.size) (World.drew w10) 0 [.int .u16 0, .string ⟨#[]⟩, .string ⟨#[]⟩]
    try simp only [Exit.inBlock, Exit.then]
    refine ret_box rfl rfl rfl rfl B9 Try.underlying30 rfl (by kernel_rfl) ?_
    exact ⟨rfl, (hx0.trans R10.ext.drew).on O9 (Nat.le_refl _)⟩

end Go.Proofs.Ytnlfcknpmemhfaa
