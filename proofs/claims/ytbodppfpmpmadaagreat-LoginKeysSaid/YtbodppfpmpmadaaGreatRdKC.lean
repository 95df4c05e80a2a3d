import Derived.Test.YtbodppfpmpmadaaGreatL15C
namespace Go.Proofs.YtbodppfpmpmadaaGreat
open Go.RowKit

set_option maxRecDepth 100000 in
set_option maxHeartbeats 8000000 in
theorem readOk_ref0 (w : World) (v : Value) (l : List UInt8) (c : Int) (hr : Rd w v l) (hway : ∀ ba sa, rB 1 (l, 0) = ([ba], sa) → (ba == 0) = true) (hll : l.length ≤ 8000000) :
    Calls Tryz.prog 77 #[v, .int .u32 c] w (RetOk w (okS l c)) := by
  obtain ⟨A0, cap0, hv, _, _, _, _⟩ := id hr
  have HR := Lib.hid hr
  clear hr
  subst hv
  have tok : True := trivial
  have tok2 : True := trivial
  have tok3 : True := trivial
  have tok4 : True := trivial
  have tok5 : True := trivial
  have tok6 : True := trivial
  have tok7 : True := trivial
  have tok8 : True := trivial
  have tok9 : True := trivial
  obtain ⟨s1, h1⟩ : ∃ s, rMust [0, 254] (l, 0) = s := ⟨_, rfl⟩
  obtain ⟨a, s2, h2⟩ : ∃ x s, rI s1 = (x, s) := ⟨_, _, rfl⟩
  obtain ⟨i, s3, h3⟩ : ∃ x s, rI s2 = (x, s) := ⟨_, _, rfl⟩
  obtain ⟨st, s4, h4⟩ : ∃ x s, rF 2 s3 = (x, s) := ⟨_, _, rfl⟩
  obtain ⟨wn, l5, e5, h5⟩ : ∃ x l e, rF 2 s4 = (x, (l, e)) := ⟨_, _, _, rfl⟩
  obtain ⟨info, trk, s6, h6⟩ : ∃ p q s, okT c (st % 65536) (l5, e5) = ((p, q), s) := ⟨_, _, _, rfl⟩
  obtain ⟨s7, h7⟩ : ∃ s, rO s6 = s := ⟨_, rfl⟩
  have hS : okS l c = if s7.2 = 0 then ((a, i, st % 65536, wn % 65536, info, trk), 0) else ((0, 0, 0, 0, [], []), s7.2) := by simp only [okS, h1, h2, h3, h4, h5, h6, h7]
  have hlen : l5.length ≤ 8000000 := by
    have i1 := rMust_len [0, 254] (l, 0)
    have i2 := rI_len s1
    have i3 := rI_len s2
    have i4 := rF_len 2 s3
    have i5 := rF_len 2 s4
    rw [h1] at i1; rw [h2] at i2; rw [h3] at i3; rw [h4] at i4; rw [h5] at i5
    dsimp only at i1 i2 i3 i4 i5
    omega
  have H1 := Lib.hid h1
  have H2 := Lib.hid h2
  have H3 := Lib.hid h3
  have H4 := Lib.hid h4
  have H5 := Lib.hid h5
  have H7 := Lib.hid h7
  clear h1 h2 h3 h4 h5
  rw [hS]
  clear hS
  obtain ⟨ba, sa, hba⟩ := rB_one (l, 0)
  have hma := must_byte [0, 254] hba
  obtain ⟨qa, hqa⟩ : ∃ q, (!([0, 254] : List UInt8).contains ba) = q := ⟨_, rfl⟩
  rw [hqa] at hma
  have HBa := Lib.hid hba
  rw [H1.out] at hma
  have HQa := Lib.hid hma.symm
  have hk0 : ((ba.toNat : Int) != 0) = !(ba == 0) := congrArg not (byte_eq ba 0)
  have hk1 : ((ba.toNat : Int) != 254) = !(ba == 254) := congrArg not (byte_eq ba 254)
  have hkq : (!(ba == 0) && !(ba == 254)) = qa := by rw [← hqa, List.contains_cons, List.contains_cons, List.contains_nil, Bool.or_false, Bool.not_or]
  rw [hway ba sa hba] at hk0 hkq
  obtain rfl : false = qa := by simpa using hkq
  have hk0' : ((ba.toNat : Int) != 0) = false := hk0
  clear hk0
  clear hma hba hqa hkq hway
  cases hq : hasB c 8388608 with
  | false =>
    obtain ⟨u1, g1, hu1⟩ : ∃ x s, rR (l5, e5) = (x, s) := ⟨_, _, rfl⟩
    obtain ⟨⟨rfl, rfl⟩, rfl⟩ : (u1 = info ∧ [] = trk) ∧ g1 = s6 := by rw [okT_has hq, hu1] at h6; simpa using h6
    have HU1 := Lib.hid hu1
    have HK := Lib.hid hq
    clear h6 h7 hq hu1
    by_cases he7 : s7.2 = 0
    · rw [if_pos he7]
      have hb7 : (s7.2 == 0) = true := by simp [he7]
      go_enter Tryz.func77, Tryz.ntmps77
      go_wp2_with fail
      generalize hW0 : w.alloc _ = W0
      have B0 : BoxF W0 w.heap.size [.int .u64 0, .int .u64 0, .int .u16 0, .int .u16 0, .string ⟨#[]⟩, .slice none 0 0] := by rw [← hW0]; exact BoxF.new _ _ _
      have hx0 : Ext w W0 := by rw [← hW0]; exact (Ext.refl w).alloc _
      have hsz : W0.heap.size = w.heap.size + 1 := by rw [← hW0]; simp
      clear hW0
      have R0 := Rdr.at (HR.out.ext hx0) 0 132 (w.heap.size + 1) hsz.symm
      go_wp2_with (first
        | (go_at_call 106; refine (byte_m W0 _ (w.heap.size + 1) _ _ _ R0 HBa.out).mono ?_; rintro e w1 ⟨rfl, R1, O1⟩; clear R0)
        | (go_at_call 107; refine (wrong_m W0 _ (w.heap.size + 1) _ _ _ R1 HQa.out).mono ?_; rintro e w2 ⟨rfl, R2, O2⟩; clear R1)
        | (go_at_call 130; refine (int_r W0 _ (w.heap.size + 1) _ _ _ R2 H2.out).mono ?_; rintro e w3 ⟨rfl, R3, O3⟩; clear R2)
        | ((with_reducible show AtW 108); clear tok; have lt := R3.lt; refine wpl_store_box rfl _ _ _ rfl _ [.int .u64 a, .int .u64 0, .int .u16 0, .int .u16 0, .string ⟨#[]⟩, .slice none 0 0] rfl rfl (BoxF.new _ _ _) rfl (by kernel_rfl) (by rfl) ?_; intro w4 B4 O4; have R4 := R3.grow (((Ext.refl _).alloc _).on O4 (Nat.le_refl _)); clear R3)
        | (go_at_call 130; refine (int_r W0 _ (w.heap.size + 1) _ _ _ R4 H3.out).mono ?_; rintro e w5 ⟨rfl, R5, O5⟩; have B5 := B4.on O5 (by omega); clear B4; clear R4)
        | ((with_reducible show AtW 106); clear tok3; refine wpl_store_cell rfl _ _ _ rfl _ 1 (.int .u64 i) rfl rfl rfl rfl (by kernel_rfl) B5 (by simp) ?_; intro w6 B6' O6; have B6 := B6'; clear B5 B6'; have R6 := R5.on O6 (by omega) (by omega); clear R5)
        | (go_at_call 110; refine (fixed_r W0 _ (w.heap.size + 1) _ 2 _ _ R6 (by omega) H4.out).mono ?_; rintro e w7 ⟨rfl, R7, O7⟩; have B7 := B6.on O7 (by omega); clear B6; clear R6)
        | ((with_reducible show AtW 27); clear tok4; refine wpl_store_cell rfl _ _ _ rfl _ 2 (.int .u16 (st % 65536)) rfl rfl rfl rfl (by kernel_rfl) B7 (by simp) ?_; intro w8 B8' O8; have B8 := B8'; clear B7 B8'; have R8 := R7.on O8 (by omega) (by omega); clear R7)
        | (go_at_call 110; refine (fixed_r W0 _ (w.heap.size + 1) _ 2 _ _ R8 (by omega) H5.out).mono ?_; rintro e w9 ⟨rfl, R9, O9⟩; have B9 := B8.on O9 (by omega); clear B8; clear R8)
        | ((with_reducible show AtW 27); clear tok5; refine wpl_store_cell rfl _ _ _ rfl _ 3 (.int .u16 (wn % 65536)) rfl rfl rfl rfl (by kernel_rfl) B9 (by simp) ?_; intro w10 B10' O10; have B10 := B10'; clear B9 B10'; have R10 := R9.on O10 (by omega) (by omega); clear R9)
        | (go_at_call 104; refine (hasR_at _ _ _ false HK.out).mono ?_; rintro e wx ⟨rfl, rfl⟩)
        | (go_at_call 131; refine (rest_r W0 _ (w.heap.size + 1) _ _ _ R10 hlen HU1.out).mono ?_; rintro e w11 ⟨vb11, rfl, ob11, R11, O11⟩; have B11 := B10.on O11 (by omega); clear B10; clear R10)
        | ((with_reducible show AtS 41); refine wpl_str bt ob11.rd rfl _ rfl rfl ?_)
        | ((with_reducible show AtW 9); clear tok6; refine wpl_store_cell rfl _ _ _ rfl _ 4 (.string (strL u1)) rfl rfl rfl rfl (by kernel_rfl) B11 (by simp) ?_; intro w12 B12' O12; have B12 := B12'; clear B11 B12'; have R12 := R11.on O12 (by omega) (by omega); clear R11)
        | (go_at_call 112; refine (done_r W0 _ (w.heap.size + 1) _ _ R12 H7.out).mono ?_; rintro e w13 ⟨rfl, R13, O13⟩; have B13 := B12.on O13 (by omega); clear B12; clear R12; have c1 := R13.c1)
        | ((with_reducible show AtS 74); refine wpl_load_box rfl _ _ rfl _ rfl B13 Tryz.underlying108 rfl (by kernel_rfl) ?_)
        | ((with_reducible show AtW 108); clear tok2; refine wpl_store_box rfl _ _ _ rfl _ [.int .u64 a, .int .u64 i, .int .u16 (st % 65536), .int .u16 (wn % 65536), .string (strL u1), .slice none 0 0] rfl rfl (B0.ext R13.ext) rfl (by kernel_rfl) (by rfl) ?_; intro w9 B9 O9)
        | fail)
      try simp only [Exit.inBlock, Exit.then]
      refine ret_box rfl rfl rfl rfl B9 Tryz.underlying108 rfl (by kernel_rfl) ?_
      exact ⟨_, rfl, Rd.nil _, (hx0.trans R13.ext).on O9 (Nat.le_refl _)⟩
    · rw [if_neg he7]
      have hb7 : (s7.2 == 0) = false := by simpa using he7
      go_enter Tryz.func77, Tryz.ntmps77
      go_wp2_with fail
      generalize hW0 : w.alloc _ = W0
      have B0 : BoxF W0 w.heap.size [.int .u64 0, .int .u64 0, .int .u16 0, .int .u16 0, .string ⟨#[]⟩, .slice none 0 0] := by rw [← hW0]; exact BoxF.new _ _ _
      have hx0 : Ext w W0 := by rw [← hW0]; exact (Ext.refl w).alloc _
      have hsz : W0.heap.size = w.heap.size + 1 := by rw [← hW0]; simp
      clear hW0
      have R0 := Rdr.at (HR.out.ext hx0) 0 132 (w.heap.size + 1) hsz.symm
      go_wp2_with (first
        | (go_at_call 106; refine (byte_m W0 _ (w.heap.size + 1) _ _ _ R0 HBa.out).mono ?_; rintro e w1 ⟨rfl, R1, O1⟩; clear R0)
        | (go_at_call 107; refine (wrong_m W0 _ (w.heap.size + 1) _ _ _ R1 HQa.out).mono ?_; rintro e w2 ⟨rfl, R2, O2⟩; clear R1)
        | (go_at_call 130; refine (int_r W0 _ (w.heap.size + 1) _ _ _ R2 H2.out).mono ?_; rintro e w3 ⟨rfl, R3, O3⟩; clear R2)
        | ((with_reducible show AtW 108); clear tok; have lt := R3.lt; refine wpl_store_box rfl _ _ _ rfl _ [.int .u64 a, .int .u64 0, .int .u16 0, .int .u16 0, .string ⟨#[]⟩, .slice none 0 0] rfl rfl (BoxF.new _ _ _) rfl (by kernel_rfl) (by rfl) ?_; intro w4 B4 O4; have R4 := R3.grow (((Ext.refl _).alloc _).on O4 (Nat.le_refl _)); clear R3)
        | (go_at_call 130; refine (int_r W0 _ (w.heap.size + 1) _ _ _ R4 H3.out).mono ?_; rintro e w5 ⟨rfl, R5, O5⟩; have B5 := B4.on O5 (by omega); clear B4; clear R4)
        | ((with_reducible show AtW 106); clear tok3; refine wpl_store_cell rfl _ _ _ rfl _ 1 (.int .u64 i) rfl rfl rfl rfl (by kernel_rfl) B5 (by simp) ?_; intro w6 B6' O6; have B6 := B6'; clear B5 B6'; have R6 := R5.on O6 (by omega) (by omega); clear R5)
        | (go_at_call 110; refine (fixed_r W0 _ (w.heap.size + 1) _ 2 _ _ R6 (by omega) H4.out).mono ?_; rintro e w7 ⟨rfl, R7, O7⟩; have B7 := B6.on O7 (by omega); clear B6; clear R6)
        | ((with_reducible show AtW 27); clear tok4; refine wpl_store_cell rfl _ _ _ rfl _ 2 (.int .u16 (st % 65536)) rfl rfl rfl rfl (by kernel_rfl) B7 (by simp) ?_; intro w8 B8' O8; have B8 := B8'; clear B7 B8'; have R8 := R7.on O8 (by omega) (by omega); clear R7)
        | (go_at_call 110; refine (fixed_r W0 _ (w.heap.size + 1) _ 2 _ _ R8 (by omega) H5.out).mono ?_; rintro e w9 ⟨rfl, R9, O9⟩; have B9 := B8.on O9 (by omega); clear B8; clear R8)
        | ((with_reducible show AtW 27); clear tok5; refine wpl_store_cell rfl _ _ _ rfl _ 3 (.int .u16 (wn % 65536)) rfl rfl rfl rfl (by kernel_rfl) B9 (by simp) ?_; intro w10 B10' O10; have B10 := B10'; clear B9 B10'; have R10 := R9.on O10 (by omega) (by omega); clear R9)
        | (go_at_call 104; refine (hasR_at _ _ _ false HK.out).mono ?_; rintro e wx ⟨rfl, rfl⟩)
        | (go_at_call 131; refine (rest_r W0 _ (w.heap.size + 1) _ _ _ R10 hlen HU1.out).mono ?_; rintro e w11 ⟨vb11, rfl, ob11, R11, O11⟩; have B11 := B10.on O11 (by omega); clear B10; clear R10)
        | ((with_reducible show AtS 41); refine wpl_str bt ob11.rd rfl _ rfl rfl ?_)
        | ((with_reducible show AtW 9); clear tok6; refine wpl_store_cell rfl _ _ _ rfl _ 4 (.string (strL u1)) rfl rfl rfl rfl (by kernel_rfl) B11 (by simp) ?_; intro w12 B12' O12; have B12 := B12'; clear B11 B12'; have R12 := R11.on O12 (by omega) (by omega); clear R11)
        | (go_at_call 112; refine (done_r W0 _ (w.heap.size + 1) _ _ R12 H7.out).mono ?_; rintro e w13 ⟨rfl, R13, O13⟩; have B13 := B12.on O13 (by omega); clear B12; clear R12; have c1 := R13.c1)
        | fail)
      have z0 := (B0.ext R13.ext).at (j := 0) (by rfl)
      have y0 := (B0.ext R13.ext).free 0 (by simp)
      have z1 := (B0.ext R13.ext).at (j := 1) (by rfl)
      have y1 := (B0.ext R13.ext).free 1 (by simp)
      have z2 := (B0.ext R13.ext).at (j := 2) (by rfl)
      have y2 := (B0.ext R13.ext).free 2 (by simp)
      have z3 := (B0.ext R13.ext).at (j := 3) (by rfl)
      have y3 := (B0.ext R13.ext).free 3 (by simp)
      have z4 := (B0.ext R13.ext).at (j := 4) (by rfl)
      have y4 := (B0.ext R13.ext).free 4 (by simp)
      have z5 := (B0.ext R13.ext).at (j := 5) (by rfl)
      have y5 := (B0.ext R13.ext).free 5 (by simp)
      have CH := (((((((On.refl w.heap.size w13).set 0 (.int .u64 0)).set 1 (.int .u64 0)).set 2 (.int .u16 0)).set 3 (.int .u16 0)).set 4 (.string ⟨#[]⟩)).set 5 (.slice none 0 0))
      have CD := CH.ext (Ext.refl _).drew
      have B9 : BoxF _ w.heap.size [.int .u64 0, .int .u64 0, .int .u16 0, .int .u16 0, .string ⟨#[]⟩, .slice none 0 0] := (((((((B0.ext R13.ext).set 0 (.int .u64 0)).set 1 (.int .u64 0)).set 2 (.int .u16 0)).set 3 (.int .u16 0)).set 4 (.string ⟨#[]⟩)).set 5 (.slice none 0 0)).ext (Ext.refl _).drew
      have ok9 := ((hx0.trans R13.ext).on CH (Nat.le_refl _)).drew
      have c1d : (World.drew w13).cell? ⟨(w.heap.size + 1), 1, none⟩ = some (.int .i64 s7.2) := c1
      have c2d := CD.cell c1 (by simp)
      go_region_held3 (fun W' => W'.cell? ⟨(w.heap.size + 1), 1, none⟩ = some (.int .i64 s7.2)) ((first | (with_reducible exact c1d) | (with_reducible exact c2d) | fail)) (fail)
      go_wp2_with fail
      try simp only [Exit.inBlock, Exit.then]
      refine ret_box rfl rfl rfl rfl B9 Tryz.underlying108 rfl (by kernel_rfl) ?_
      exact ⟨_, rfl, Rd.nil _, ok9⟩
  | true =>
    cases ht : trackB c (st % 65536) with
    | true =>
      obtain ⟨u1, g1, hu1⟩ : ∃ x s, rT (l5, e5) = (x, s) := ⟨_, _, rfl⟩
      obtain ⟨u2, g2, hu2⟩ : ∃ x s, rT g1 = (x, s) := ⟨_, _, rfl⟩
      obtain ⟨⟨rfl, rfl⟩, rfl⟩ : (u1 = info ∧ u2 = trk) ∧ g2 = s6 := by rw [okT_track ht, hu1, hu2] at h6; simpa using h6
      have hz2 : u2.length ≤ 8000000 := by
        have i1 := rT_len (l5, e5)
        have i2 := rT_small g1
        rw [hu1] at i1
        rw [hu2] at i2
        dsimp only at i1 i2
        omega
      have HU1 := Lib.hid hu1
      have HU2 := Lib.hid hu2
      have HK := Lib.hid hq
      have HT := Lib.hid ht
      clear h6 h7 hq ht hu1 hu2
      by_cases hl5 : 0 < l5.length
      · by_cases he7 : s7.2 = 0
        · rw [if_pos he7]
          have hb7 : (s7.2 == 0) = true := by simp [he7]
          go_enter Tryz.func77, Tryz.ntmps77
          go_wp2_with fail
          generalize hW0 : w.alloc _ = W0
          have B0 : BoxF W0 w.heap.size [.int .u64 0, .int .u64 0, .int .u16 0, .int .u16 0, .string ⟨#[]⟩, .slice none 0 0] := by rw [← hW0]; exact BoxF.new _ _ _
          have hx0 : Ext w W0 := by rw [← hW0]; exact (Ext.refl w).alloc _
          have hsz : W0.heap.size = w.heap.size + 1 := by rw [← hW0]; simp
          clear hW0
          have R0 := Rdr.at (HR.out.ext hx0) 0 132 (w.heap.size + 1) hsz.symm
          go_wp2_with (first
            | (go_at_call 106; refine (byte_m W0 _ (w.heap.size + 1) _ _ _ R0 HBa.out).mono ?_; rintro e w1 ⟨rfl, R1, O1⟩; clear R0)
            | (go_at_call 107; refine (wrong_m W0 _ (w.heap.size + 1) _ _ _ R1 HQa.out).mono ?_; rintro e w2 ⟨rfl, R2, O2⟩; clear R1)
            | (go_at_call 130; refine (int_r W0 _ (w.heap.size + 1) _ _ _ R2 H2.out).mono ?_; rintro e w3 ⟨rfl, R3, O3⟩; clear R2)
            | ((with_reducible show AtW 108); clear tok; have lt := R3.lt; refine wpl_store_box rfl _ _ _ rfl _ [.int .u64 a, .int .u64 0, .int .u16 0, .int .u16 0, .string ⟨#[]⟩, .slice none 0 0] rfl rfl (BoxF.new _ _ _) rfl (by kernel_rfl) (by rfl) ?_; intro w4 B4 O4; have R4 := R3.grow (((Ext.refl _).alloc _).on O4 (Nat.le_refl _)); clear R3)
            | (go_at_call 130; refine (int_r W0 _ (w.heap.size + 1) _ _ _ R4 H3.out).mono ?_; rintro e w5 ⟨rfl, R5, O5⟩; have B5 := B4.on O5 (by omega); clear B4; clear R4)
            | ((with_reducible show AtW 106); clear tok3; refine wpl_store_cell rfl _ _ _ rfl _ 1 (.int .u64 i) rfl rfl rfl rfl (by kernel_rfl) B5 (by simp) ?_; intro w6 B6' O6; have B6 := B6'; clear B5 B6'; have R6 := R5.on O6 (by omega) (by omega); clear R5)
            | (go_at_call 110; refine (fixed_r W0 _ (w.heap.size + 1) _ 2 _ _ R6 (by omega) H4.out).mono ?_; rintro e w7 ⟨rfl, R7, O7⟩; have B7 := B6.on O7 (by omega); clear B6; clear R6)
            | ((with_reducible show AtW 27); clear tok4; refine wpl_store_cell rfl _ _ _ rfl _ 2 (.int .u16 (st % 65536)) rfl rfl rfl rfl (by kernel_rfl) B7 (by simp) ?_; intro w8 B8' O8; have B8 := B8'; clear B7 B8'; have R8 := R7.on O8 (by omega) (by omega); clear R7)
            | (go_at_call 110; refine (fixed_r W0 _ (w.heap.size + 1) _ 2 _ _ R8 (by omega) H5.out).mono ?_; rintro e w9 ⟨rfl, R9, O9⟩; have B9 := B8.on O9 (by omega); clear B8; clear R8)
            | ((with_reducible show AtW 27); clear tok5; refine wpl_store_cell rfl _ _ _ rfl _ 3 (.int .u16 (wn % 65536)) rfl rfl rfl rfl (by kernel_rfl) B9 (by simp) ?_; intro w10 B10' O10; have B10 := B10'; clear B9 B10'; have R10 := R9.on O10 (by omega) (by omega); clear R9; obtain ⟨v5, c0, hr5⟩ := R10.c0; obtain ⟨A5, cap5, rfl, z1, z2, z3, z4⟩ := hr5; clear z3 z4; unfold maxLen at z2; have y2 := B10.at (j := 2) (by rfl))
            | (go_at_call 104; refine (hasR_at _ _ _ true HK.out).mono ?_; rintro e wx ⟨rfl, rfl⟩)
            | (go_at_call 132; refine (trackR_c _ _ _ _ HT.out).mono ?_; rintro e wx ⟨rfl, rfl⟩)
            | (go_at_call 118; refine (text_r W0 _ (w.heap.size + 1) _ _ _ R10 HU1.out).mono ?_; rintro e w11 ⟨rfl, R11, O11⟩; have B11 := B10.on O11 (by omega); clear B10; clear R10)
            | ((with_reducible show AtW 9); clear tok6; refine wpl_store_cell rfl _ _ _ rfl _ 4 (.string (strL u1)) rfl rfl rfl rfl (by kernel_rfl) B11 (by simp) ?_; intro w12 B12' O12; have B12 := B12'; clear B11 B12'; have R12 := R11.on O12 (by omega) (by omega); clear R11; have y2 := B12.at (j := 2) (by rfl))
            | (go_at_call 118; refine (text_r W0 _ (w.heap.size + 1) _ _ _ R12 HU2.out).mono ?_; rintro e w13 ⟨rfl, R13, O13⟩; have B13 := B12.on O13 (by omega); clear B12; clear R12)
            | ((with_reducible show AtS 64); have ltR := R13.lt; have ltB := B13.lt; have lt00 := R13.ext.size; refine wpl_bytes bt _ (by rw [strL_size]; unfold maxLen; omega) rfl _ rfl rfl ?_; intro tA tm tc w14 hT hTb hx14; rw [strL_toList] at hT; have R14 := R13.grow hx14; have B14 := B13.ext hx14; clear R13 B13)
            | ((with_reducible show AtW 22); clear tok7; refine wpl_store_cell rfl _ _ _ rfl _ 5 (.slice tA tm tc) rfl rfl rfl rfl (by kernel_rfl) B14 (by simp) ?_; intro w15 B15' O15; have B15 := B15'; clear B14 B15'; have R15 := R14.on O15 (by omega) (by omega); clear R14; replace hT := hT.on O15 (by rw [hTb]; simp; omega))
            | (go_at_call 112; refine (done_r W0 _ (w.heap.size + 1) _ _ R15 H7.out).mono ?_; rintro e w16 ⟨rfl, R16, O16⟩; have B16 := B15.on O16 (by omega); clear B15; clear R15; have c1 := R16.c1; replace hT := hT.on O16 (by rw [hTb]; simp; omega))
            | ((with_reducible show AtS 74); refine wpl_load_box rfl _ _ rfl _ rfl B16 Tryz.underlying108 rfl (by kernel_rfl) ?_)
            | ((with_reducible show AtW 108); clear tok2; refine wpl_store_box rfl _ _ _ rfl _ [.int .u64 a, .int .u64 i, .int .u16 (st % 65536), .int .u16 (wn % 65536), .string (strL u1), .slice tA tm tc] rfl rfl (B0.ext R16.ext) rfl (by kernel_rfl) (by rfl) ?_; intro w9 B9 O9)
            | fail)
          try simp only [Exit.inBlock, Exit.then]
          refine ret_box rfl rfl rfl rfl B9 Tryz.underlying108 rfl (by kernel_rfl) ?_
          exact ⟨_, rfl, hT.on O9 (by rw [hTb]; simp; omega), (hx0.trans R16.ext).on O9 (Nat.le_refl _)⟩
        · rw [if_neg he7]
          have hb7 : (s7.2 == 0) = false := by simpa using he7
          go_enter Tryz.func77, Tryz.ntmps77
          go_wp2_with fail
          generalize hW0 : w.alloc _ = W0
          have B0 : BoxF W0 w.heap.size [.int .u64 0, .int .u64 0, .int .u16 0, .int .u16 0, .string ⟨#[]⟩, .slice none 0 0] := by rw [← hW0]; exact BoxF.new _ _ _
          have hx0 : Ext w W0 := by rw [← hW0]; exact (Ext.refl w).alloc _
          have hsz : W0.heap.size = w.heap.size + 1 := by rw [← hW0]; simp
          clear hW0
          have R0 := Rdr.at (HR.out.ext hx0) 0 132 (w.heap.size + 1) hsz.symm
          go_wp2_with (first
            | (go_at_call 106; refine (byte_m W0 _ (w.heap.size + 1) _ _ _ R0 HBa.out).mono ?_; rintro e w1 ⟨rfl, R1, O1⟩; clear R0)
            | (go_at_call 107; refine (wrong_m W0 _ (w.heap.size + 1) _ _ _ R1 HQa.out).mono ?_; rintro e w2 ⟨rfl, R2, O2⟩; clear R1)
            | (go_at_call 130; refine (int_r W0 _ (w.heap.size + 1) _ _ _ R2 H2.out).mono ?_; rintro e w3 ⟨rfl, R3, O3⟩; clear R2)
            | ((with_reducible show AtW 108); clear tok; have lt := R3.lt; refine wpl_store_box rfl _ _ _ rfl _ [.int .u64 a, .int .u64 0, .int .u16 0, .int .u16 0, .string ⟨#[]⟩, .slice none 0 0] rfl rfl (BoxF.new _ _ _) rfl (by kernel_rfl) (by rfl) ?_; intro w4 B4 O4; have R4 := R3.grow (((Ext.refl _).alloc _).on O4 (Nat.le_refl _)); clear R3)
            | (go_at_call 130; refine (int_r W0 _ (w.heap.size + 1) _ _ _ R4 H3.out).mono ?_; rintro e w5 ⟨rfl, R5, O5⟩; have B5 := B4.on O5 (by omega); clear B4; clear R4)
            | ((with_reducible show AtW 106); clear tok3; refine wpl_store_cell rfl _ _ _ rfl _ 1 (.int .u64 i) rfl rfl rfl rfl (by kernel_rfl) B5 (by simp) ?_; intro w6 B6' O6; have B6 := B6'; clear B5 B6'; have R6 := R5.on O6 (by omega) (by omega); clear R5)
            | (go_at_call 110; refine (fixed_r W0 _ (w.heap.size + 1) _ 2 _ _ R6 (by omega) H4.out).mono ?_; rintro e w7 ⟨rfl, R7, O7⟩; have B7 := B6.on O7 (by omega); clear B6; clear R6)
            | ((with_reducible show AtW 27); clear tok4; refine wpl_store_cell rfl _ _ _ rfl _ 2 (.int .u16 (st % 65536)) rfl rfl rfl rfl (by kernel_rfl) B7 (by simp) ?_; intro w8 B8' O8; have B8 := B8'; clear B7 B8'; have R8 := R7.on O8 (by omega) (by omega); clear R7)
            | (go_at_call 110; refine (fixed_r W0 _ (w.heap.size + 1) _ 2 _ _ R8 (by omega) H5.out).mono ?_; rintro e w9 ⟨rfl, R9, O9⟩; have B9 := B8.on O9 (by omega); clear B8; clear R8)
            | ((with_reducible show AtW 27); clear tok5; refine wpl_store_cell rfl _ _ _ rfl _ 3 (.int .u16 (wn % 65536)) rfl rfl rfl rfl (by kernel_rfl) B9 (by simp) ?_; intro w10 B10' O10; have B10 := B10'; clear B9 B10'; have R10 := R9.on O10 (by omega) (by omega); clear R9; obtain ⟨v5, c0, hr5⟩ := R10.c0; obtain ⟨A5, cap5, rfl, z1, z2, z3, z4⟩ := hr5; clear z3 z4; unfold maxLen at z2; have y2 := B10.at (j := 2) (by rfl))
            | (go_at_call 104; refine (hasR_at _ _ _ true HK.out).mono ?_; rintro e wx ⟨rfl, rfl⟩)
            | (go_at_call 132; refine (trackR_c _ _ _ _ HT.out).mono ?_; rintro e wx ⟨rfl, rfl⟩)
            | (go_at_call 118; refine (text_r W0 _ (w.heap.size + 1) _ _ _ R10 HU1.out).mono ?_; rintro e w11 ⟨rfl, R11, O11⟩; have B11 := B10.on O11 (by omega); clear B10; clear R10)
            | ((with_reducible show AtW 9); clear tok6; refine wpl_store_cell rfl _ _ _ rfl _ 4 (.string (strL u1)) rfl rfl rfl rfl (by kernel_rfl) B11 (by simp) ?_; intro w12 B12' O12; have B12 := B12'; clear B11 B12'; have R12 := R11.on O12 (by omega) (by omega); clear R11; have y2 := B12.at (j := 2) (by rfl))
            | (go_at_call 118; refine (text_r W0 _ (w.heap.size + 1) _ _ _ R12 HU2.out).mono ?_; rintro e w13 ⟨rfl, R13, O13⟩; have B13 := B12.on O13 (by omega); clear B12; clear R12)
            | ((with_reducible show AtS 64); have ltR := R13.lt; have ltB := B13.lt; have lt00 := R13.ext.size; refine wpl_bytes bt _ (by rw [strL_size]; unfold maxLen; omega) rfl _ rfl rfl ?_; intro tA tm tc w14 hT hTb hx14; rw [strL_toList] at hT; have R14 := R13.grow hx14; have B14 := B13.ext hx14; clear R13 B13)
            | ((with_reducible show AtW 22); clear tok7; refine wpl_store_cell rfl _ _ _ rfl _ 5 (.slice tA tm tc) rfl rfl rfl rfl (by kernel_rfl) B14 (by simp) ?_; intro w15 B15' O15; have B15 := B15'; clear B14 B15'; have R15 := R14.on O15 (by omega) (by omega); clear R14; replace hT := hT.on O15 (by rw [hTb]; simp; omega))
            | (go_at_call 112; refine (done_r W0 _ (w.heap.size + 1) _ _ R15 H7.out).mono ?_; rintro e w16 ⟨rfl, R16, O16⟩; have B16 := B15.on O16 (by omega); clear B15; clear R15; have c1 := R16.c1; replace hT := hT.on O16 (by rw [hTb]; simp; omega))
            | fail)
          have z0 := (B0.ext R16.ext).at (j := 0) (by rfl)
          have y0 := (B0.ext R16.ext).free 0 (by simp)
          have z1 := (B0.ext R16.ext).at (j := 1) (by rfl)
          have y1 := (B0.ext R16.ext).free 1 (by simp)
          have z2 := (B0.ext R16.ext).at (j := 2) (by rfl)
          have y2 := (B0.ext R16.ext).free 2 (by simp)
          have z3 := (B0.ext R16.ext).at (j := 3) (by rfl)
          have y3 := (B0.ext R16.ext).free 3 (by simp)
          have z4 := (B0.ext R16.ext).at (j := 4) (by rfl)
          have y4 := (B0.ext R16.ext).free 4 (by simp)
          have z5 := (B0.ext R16.ext).at (j := 5) (by rfl)
          have y5 := (B0.ext R16.ext).free 5 (by simp)
          have CH := (((((((On.refl w.heap.size w16).set 0 (.int .u64 0)).set 1 (.int .u64 0)).set 2 (.int .u16 0)).set 3 (.int .u16 0)).set 4 (.string ⟨#[]⟩)).set 5 (.slice none 0 0))
          have CD := CH.ext (Ext.refl _).drew
          have B9 : BoxF _ w.heap.size [.int .u64 0, .int .u64 0, .int .u16 0, .int .u16 0, .string ⟨#[]⟩, .slice none 0 0] := (((((((B0.ext R16.ext).set 0 (.int .u64 0)).set 1 (.int .u64 0)).set 2 (.int .u16 0)).set 3 (.int .u16 0)).set 4 (.string ⟨#[]⟩)).set 5 (.slice none 0 0)).ext (Ext.refl _).drew
          have ok9 := ((hx0.trans R16.ext).on CH (Nat.le_refl _)).drew
          have c1d : (World.drew w16).cell? ⟨(w.heap.size + 1), 1, none⟩ = some (.int .i64 s7.2) := c1
          have c2d := CD.cell c1 (by simp)
          go_region_held3 (fun W' => W'.cell? ⟨(w.heap.size + 1), 1, none⟩ = some (.int .i64 s7.2)) ((first | (with_reducible exact c1d) | (with_reducible exact c2d) | fail)) (fail)
          go_wp2_with fail
          try simp only [Exit.inBlock, Exit.then]
          refine ret_box rfl rfl rfl rfl B9 Tryz.underlying108 rfl (by kernel_rfl) ?_
          exact ⟨_, rfl, Rd.nil _, ok9⟩
      · by_cases he7 : s7.2 = 0
        · rw [if_pos he7]
          have hb7 : (s7.2 == 0) = true := by simp [he7]
          go_enter Tryz.func77, Tryz.ntmps77
          go_wp2_with fail
          generalize hW0 : w.alloc _ = W0
          have B0 : BoxF W0 w.heap.size [.int .u64 0, .int .u64 0, .int .u16 0, .int .u16 0, .string ⟨#[]⟩, .slice none 0 0] := by rw [← hW0]; exact BoxF.new _ _ _
          have hx0 : Ext w W0 := by rw [← hW0]; exact (Ext.refl w).alloc _
          have hsz : W0.heap.size = w.heap.size + 1 := by rw [← hW0]; simp
          clear hW0
          have R0 := Rdr.at (HR.out.ext hx0) 0 132 (w.heap.size + 1) hsz.symm
          go_wp2_with (first
            | (go_at_call 106; refine (byte_m W0 _ (w.heap.size + 1) _ _ _ R0 HBa.out).mono ?_; rintro e w1 ⟨rfl, R1, O1⟩; clear R0)
            | (go_at_call 107; refine (wrong_m W0 _ (w.heap.size + 1) _ _ _ R1 HQa.out).mono ?_; rintro e w2 ⟨rfl, R2, O2⟩; clear R1)
            | (go_at_call 130; refine (int_r W0 _ (w.heap.size + 1) _ _ _ R2 H2.out).mono ?_; rintro e w3 ⟨rfl, R3, O3⟩; clear R2)
            | ((with_reducible show AtW 108); clear tok; have lt := R3.lt; refine wpl_store_box rfl _ _ _ rfl _ [.int .u64 a, .int .u64 0, .int .u16 0, .int .u16 0, .string ⟨#[]⟩, .slice none 0 0] rfl rfl (BoxF.new _ _ _) rfl (by kernel_rfl) (by rfl) ?_; intro w4 B4 O4; have R4 := R3.grow (((Ext.refl _).alloc _).on O4 (Nat.le_refl _)); clear R3)
            | (go_at_call 130; refine (int_r W0 _ (w.heap.size + 1) _ _ _ R4 H3.out).mono ?_; rintro e w5 ⟨rfl, R5, O5⟩; have B5 := B4.on O5 (by omega); clear B4; clear R4)
            | ((with_reducible show AtW 106); clear tok3; refine wpl_store_cell rfl _ _ _ rfl _ 1 (.int .u64 i) rfl rfl rfl rfl (by kernel_rfl) B5 (by simp) ?_; intro w6 B6' O6; have B6 := B6'; clear B5 B6'; have R6 := R5.on O6 (by omega) (by omega); clear R5)
            | (go_at_call 110; refine (fixed_r W0 _ (w.heap.size + 1) _ 2 _ _ R6 (by omega) H4.out).mono ?_; rintro e w7 ⟨rfl, R7, O7⟩; have B7 := B6.on O7 (by omega); clear B6; clear R6)
            | ((with_reducible show AtW 27); clear tok4; refine wpl_store_cell rfl _ _ _ rfl _ 2 (.int .u16 (st % 65536)) rfl rfl rfl rfl (by kernel_rfl) B7 (by simp) ?_; intro w8 B8' O8; have B8 := B8'; clear B7 B8'; have R8 := R7.on O8 (by omega) (by omega); clear R7)
            | (go_at_call 110; refine (fixed_r W0 _ (w.heap.size + 1) _ 2 _ _ R8 (by omega) H5.out).mono ?_; rintro e w9 ⟨rfl, R9, O9⟩; have B9 := B8.on O9 (by omega); clear B8; clear R8)
            | ((with_reducible show AtW 27); clear tok5; refine wpl_store_cell rfl _ _ _ rfl _ 3 (.int .u16 (wn % 65536)) rfl rfl rfl rfl (by kernel_rfl) B9 (by simp) ?_; intro w10 B10' O10; have B10 := B10'; clear B9 B10'; have R10 := R9.on O10 (by omega) (by omega); clear R9; obtain ⟨v5, c0, hr5⟩ := R10.c0; obtain ⟨A5, cap5, rfl, z1, z2, z3, z4⟩ := hr5; clear z3 z4; unfold maxLen at z2; have y2 := B10.at (j := 2) (by rfl))
            | (go_at_call 104; refine (hasR_at _ _ _ true HK.out).mono ?_; rintro e wx ⟨rfl, rfl⟩)
            | (go_at_call 132; refine (trackR_c _ _ _ _ HT.out).mono ?_; rintro e wx ⟨rfl, rfl⟩)
            | (go_at_call 118; refine (text_r W0 _ (w.heap.size + 1) _ _ _ R10 HU1.out).mono ?_; rintro e w11 ⟨rfl, R11, O11⟩; have B11 := B10.on O11 (by omega); clear B10; clear R10)
            | ((with_reducible show AtW 9); clear tok6; refine wpl_store_cell rfl _ _ _ rfl _ 4 (.string (strL u1)) rfl rfl rfl rfl (by kernel_rfl) B11 (by simp) ?_; intro w12 B12' O12; have B12 := B12'; clear B11 B12'; have R12 := R11.on O12 (by omega) (by omega); clear R11; have y2 := B12.at (j := 2) (by rfl))
            | (go_at_call 118; refine (text_r W0 _ (w.heap.size + 1) _ _ _ R12 HU2.out).mono ?_; rintro e w13 ⟨rfl, R13, O13⟩; have B13 := B12.on O13 (by omega); clear B12; clear R12)
            | ((with_reducible show AtS 64); have ltR := R13.lt; have ltB := B13.lt; have lt00 := R13.ext.size; refine wpl_bytes bt _ (by rw [strL_size]; unfold maxLen; omega) rfl _ rfl rfl ?_; intro tA tm tc w14 hT hTb hx14; rw [strL_toList] at hT; have R14 := R13.grow hx14; have B14 := B13.ext hx14; clear R13 B13)
            | ((with_reducible show AtW 22); clear tok7; refine wpl_store_cell rfl _ _ _ rfl _ 5 (.slice tA tm tc) rfl rfl rfl rfl (by kernel_rfl) B14 (by simp) ?_; intro w15 B15' O15; have B15 := B15'; clear B14 B15'; have R15 := R14.on O15 (by omega) (by omega); clear R14; replace hT := hT.on O15 (by rw [hTb]; simp; omega))
            | (go_at_call 112; refine (done_r W0 _ (w.heap.size + 1) _ _ R15 H7.out).mono ?_; rintro e w16 ⟨rfl, R16, O16⟩; have B16 := B15.on O16 (by omega); clear B15; clear R15; have c1 := R16.c1; replace hT := hT.on O16 (by rw [hTb]; simp; omega))
            | ((with_reducible show AtS 74); refine wpl_load_box rfl _ _ rfl _ rfl B16 Tryz.underlying108 rfl (by kernel_rfl) ?_)
            | ((with_reducible show AtW 108); clear tok2; refine wpl_store_box rfl _ _ _ rfl _ [.int .u64 a, .int .u64 i, .int .u16 (st % 65536), .int .u16 (wn % 65536), .string (strL u1), .slice tA tm tc] rfl rfl (B0.ext R16.ext) rfl (by kernel_rfl) (by rfl) ?_; intro w9 B9 O9)
            | fail)
          try simp only [Exit.inBlock, Exit.then]
          refine ret_box rfl rfl rfl rfl B9 Tryz.underlying108 rfl (by kernel_rfl) ?_
          exact ⟨_, rfl, hT.on O9 (by rw [hTb]; simp; omega), (hx0.trans R16.ext).on O9 (Nat.le_refl _)⟩
        · rw [if_neg he7]
          have hb7 : (s7.2 == 0) = false := by simpa using he7
          go_enter Tryz.func77, Tryz.ntmps77
          go_wp2_with fail
          generalize hW0 : w.alloc _ = W0
          have B0 : BoxF W0 w.heap.size [.int .u64 0, .int .u64 0, .int .u16 0, .int .u16 0, .string ⟨#[]⟩, .slice none 0 0] := by rw [← hW0]; exact BoxF.new _ _ _
          have hx0 : Ext w W0 := by rw [← hW0]; exact (Ext.refl w).alloc _
          have hsz : W0.heap.size = w.heap.size + 1 := by rw [← hW0]; simp
          clear hW0
          have R0 := Rdr.at (HR.out.ext hx0) 0 132 (w.heap.size + 1) hsz.symm
          go_wp2_with (first
            | (go_at_call 106; refine (byte_m W0 _ (w.heap.size + 1) _ _ _ R0 HBa.out).mono ?_; rintro e w1 ⟨rfl, R1, O1⟩; clear R0)
            | (go_at_call 107; refine (wrong_m W0 _ (w.heap.size + 1) _ _ _ R1 HQa.out).mono ?_; rintro e w2 ⟨rfl, R2, O2⟩; clear R1)
            | (go_at_call 130; refine (int_r W0 _ (w.heap.size + 1) _ _ _ R2 H2.out).mono ?_; rintro e w3 ⟨rfl, R3, O3⟩; clear R2)
            | ((with_reducible show AtW 108); clear tok; have lt := R3.lt; refine wpl_store_box rfl _ _ _ rfl _ [.int .u64 a, .int .u64 0, .int .u16 0, .int .u16 0, .string ⟨#[]⟩, .slice none 0 0] rfl rfl (BoxF.new _ _ _) rfl (by kernel_rfl) (by rfl) ?_; intro w4 B4 O4; have R4 := R3.grow (((Ext.refl _).alloc _).on O4 (Nat.le_refl _)); clear R3)
            | (go_at_call 130; refine (int_r W0 _ (w.heap.size + 1) _ _ _ R4 H3.out).mono ?_; rintro e w5 ⟨rfl, R5, O5⟩; have B5 := B4.on O5 (by omega); clear B4; clear R4)
            | ((with_reducible show AtW 106); clear tok3; refine wpl_store_cell rfl _ _ _ rfl _ 1 (.int .u64 i) rfl rfl rfl rfl (by kernel_rfl) B5 (by simp) ?_; intro w6 B6' O6; have B6 := B6'; clear B5 B6'; have R6 := R5.on O6 (by omega) (by omega); clear R5)
            | (go_at_call 110; refine (fixed_r W0 _ (w.heap.size + 1) _ 2 _ _ R6 (by omega) H4.out).mono ?_; rintro e w7 ⟨rfl, R7, O7⟩; have B7 := B6.on O7 (by omega); clear B6; clear R6)
            | ((with_reducible show AtW 27); clear tok4; refine wpl_store_cell rfl _ _ _ rfl _ 2 (.int .u16 (st % 65536)) rfl rfl rfl rfl (by kernel_rfl) B7 (by simp) ?_; intro w8 B8' O8; have B8 := B8'; clear B7 B8'; have R8 := R7.on O8 (by omega) (by omega); clear R7)
            | (go_at_call 110; refine (fixed_r W0 _ (w.heap.size + 1) _ 2 _ _ R8 (by omega) H5.out).mono ?_; rintro e w9 ⟨rfl, R9, O9⟩; have B9 := B8.on O9 (by omega); clear B8; clear R8)
            | ((with_reducible show AtW 27); clear tok5; refine wpl_store_cell rfl _ _ _ rfl _ 3 (.int .u16 (wn % 65536)) rfl rfl rfl rfl (by kernel_rfl) B9 (by simp) ?_; intro w10 B10' O10; have B10 := B10'; clear B9 B10'; have R10 := R9.on O10 (by omega) (by omega); clear R9; obtain ⟨v5, c0, hr5⟩ := R10.c0; obtain ⟨A5, cap5, rfl, z1, z2, z3, z4⟩ := hr5; clear z3 z4; unfold maxLen at z2; have y2 := B10.at (j := 2) (by rfl))
            | (go_at_call 104; refine (hasR_at _ _ _ true HK.out).mono ?_; rintro e wx ⟨rfl, rfl⟩)
            | (go_at_call 132; refine (trackR_c _ _ _ _ HT.out).mono ?_; rintro e wx ⟨rfl, rfl⟩)
            | (go_at_call 118; refine (text_r W0 _ (w.heap.size + 1) _ _ _ R10 HU1.out).mono ?_; rintro e w11 ⟨rfl, R11, O11⟩; have B11 := B10.on O11 (by omega); clear B10; clear R10)
            | ((with_reducible show AtW 9); clear tok6; refine wpl_store_cell rfl _ _ _ rfl _ 4 (.string (strL u1)) rfl rfl rfl rfl (by kernel_rfl) B11 (by simp) ?_; intro w12 B12' O12; have B12 := B12'; clear B11 B12'; have R12 := R11.on O12 (by omega) (by omega); clear R11; have y2 := B12.at (j := 2) (by rfl))
            | (go_at_call 118; refine (text_r W0 _ (w.heap.size + 1) _ _ _ R12 HU2.out).mono ?_; rintro e w13 ⟨rfl, R13, O13⟩; have B13 := B12.on O13 (by omega); clear B12; clear R12)
            | ((with_reducible show AtS 64); have ltR := R13.lt; have ltB := B13.lt; have lt00 := R13.ext.size; refine wpl_bytes bt _ (by rw [strL_size]; unfold maxLen; omega) rfl _ rfl rfl ?_; intro tA tm tc w14 hT hTb hx14; rw [strL_toList] at hT; have R14 := R13.grow hx14; have B14 := B13.ext hx14; clear R13 B13)
            | ((with_reducible show AtW 22); clear tok7; refine wpl_store_cell rfl _ _ _ rfl _ 5 (.slice tA tm tc) rfl rfl rfl rfl (by kernel_rfl) B14 (by simp) ?_; intro w15 B15' O15; have B15 := B15'; clear B14 B15'; have R15 := R14.on O15 (by omega) (by omega); clear R14; replace hT := hT.on O15 (by rw [hTb]; simp; omega))
            | (go_at_call 112; refine (done_r W0 _ (w.heap.size + 1) _ _ R15 H7.out).mono ?_; rintro e w16 ⟨rfl, R16, O16⟩; have B16 := B15.on O16 (by omega); clear B15; clear R15; have c1 := R16.c1; replace hT := hT.on O16 (by rw [hTb]; simp; omega))
            | fail)
          have z0 := (B0.ext R16.ext).at (j := 0) (by rfl)
          have y0 := (B0.ext R16.ext).free 0 (by simp)
          have z1 := (B0.ext R16.ext).at (j := 1) (by rfl)
          have y1 := (B0.ext R16.ext).free 1 (by simp)
          have z2 := (B0.ext R16.ext).at (j := 2) (by rfl)
          have y2 := (B0.ext R16.ext).free 2 (by simp)
          have z3 := (B0.ext R16.ext).at (j := 3) (by rfl)
          have y3 := (B0.ext R16.ext).free 3 (by simp)
          have z4 := (B0.ext R16.ext).at (j := 4) (by rfl)
          have y4 := (B0.ext R16.ext).free 4 (by simp)
          have z5 := (B0.ext R16.ext).at (j := 5) (by rfl)
          have y5 := (B0.ext R16.ext).free 5 (by simp)
          have CH := (((((((On.refl w.heap.size w16).set 0 (.int .u64 0)).set 1 (.int .u64 0)).set 2 (.int .u16 0)).set 3 (.int .u16 0)).set 4 (.string ⟨#[]⟩)).set 5 (.slice none 0 0))
          have CD := CH.ext (Ext.refl _).drew
          have B9 : BoxF _ w.heap.size [.int .u64 0, .int .u64 0, .int .u16 0, .int .u16 0, .string ⟨#[]⟩, .slice none 0 0] := (((((((B0.ext R16.ext).set 0 (.int .u64 0)).set 1 (.int .u64 0)).set 2 (.int .u16 0)).set 3 (.int .u16 0)).set 4 (.string ⟨#[]⟩)).set 5 (.slice none 0 0)).ext (Ext.refl _).drew
          have ok9 := ((hx0.trans R16.ext).on CH (Nat.le_refl _)).drew
          have c1d : (World.drew w16).cell? ⟨(w.heap.size + 1), 1, none⟩ = some (.int .i64 s7.2) := c1
          have c2d := CD.cell c1 (by simp)
          go_region_held3 (fun W' => W'.cell? ⟨(w.heap.size + 1), 1, none⟩ = some (.int .i64 s7.2)) ((first | (with_reducible exact c1d) | (with_reducible exact c2d) | fail)) (fail)
          go_wp2_with fail
          try simp only [Exit.inBlock, Exit.then]
          refine ret_box rfl rfl rfl rfl B9 Tryz.underlying108 rfl (by kernel_rfl) ?_
          exact ⟨_, rfl, Rd.nil _, ok9⟩
    | false =>
      by_cases hl5 : 0 < l5.length
      · obtain ⟨u1, g1, hu1⟩ : ∃ x s, rT (l5, e5) = (x, s) := ⟨_, _, rfl⟩
        obtain ⟨⟨rfl, rfl⟩, rfl⟩ : (u1 = info ∧ [] = trk) ∧ g1 = s6 := by rw [okT_text hq ht hl5, hu1] at h6; simpa using h6
        have HU1 := Lib.hid hu1
        have HK := Lib.hid hq
        have HT := Lib.hid ht
        clear h6 h7 hq ht hu1
        by_cases he7 : s7.2 = 0
        · rw [if_pos he7]
          have hb7 : (s7.2 == 0) = true := by simp [he7]
          go_enter Tryz.func77, Tryz.ntmps77
          go_wp2_with fail
          generalize hW0 : w.alloc _ = W0
          have B0 : BoxF W0 w.heap.size [.int .u64 0, .int .u64 0, .int .u16 0, .int .u16 0, .string ⟨#[]⟩, .slice none 0 0] := by rw [← hW0]; exact BoxF.new _ _ _
          have hx0 : Ext w W0 := by rw [← hW0]; exact (Ext.refl w).alloc _
          have hsz : W0.heap.size = w.heap.size + 1 := by rw [← hW0]; simp
          clear hW0
          have R0 := Rdr.at (HR.out.ext hx0) 0 132 (w.heap.size + 1) hsz.symm
          go_wp2_with (first
            | (go_at_call 106; refine (byte_m W0 _ (w.heap.size + 1) _ _ _ R0 HBa.out).mono ?_; rintro e w1 ⟨rfl, R1, O1⟩; clear R0)
            | (go_at_call 107; refine (wrong_m W0 _ (w.heap.size + 1) _ _ _ R1 HQa.out).mono ?_; rintro e w2 ⟨rfl, R2, O2⟩; clear R1)
            | (go_at_call 130; refine (int_r W0 _ (w.heap.size + 1) _ _ _ R2 H2.out).mono ?_; rintro e w3 ⟨rfl, R3, O3⟩; clear R2)
            | ((with_reducible show AtW 108); clear tok; have lt := R3.lt; refine wpl_store_box rfl _ _ _ rfl _ [.int .u64 a, .int .u64 0, .int .u16 0, .int .u16 0, .string ⟨#[]⟩, .slice none 0 0] rfl rfl (BoxF.new _ _ _) rfl (by kernel_rfl) (by rfl) ?_; intro w4 B4 O4; have R4 := R3.grow (((Ext.refl _).alloc _).on O4 (Nat.le_refl _)); clear R3)
            | (go_at_call 130; refine (int_r W0 _ (w.heap.size + 1) _ _ _ R4 H3.out).mono ?_; rintro e w5 ⟨rfl, R5, O5⟩; have B5 := B4.on O5 (by omega); clear B4; clear R4)
            | ((with_reducible show AtW 106); clear tok3; refine wpl_store_cell rfl _ _ _ rfl _ 1 (.int .u64 i) rfl rfl rfl rfl (by kernel_rfl) B5 (by simp) ?_; intro w6 B6' O6; have B6 := B6'; clear B5 B6'; have R6 := R5.on O6 (by omega) (by omega); clear R5)
            | (go_at_call 110; refine (fixed_r W0 _ (w.heap.size + 1) _ 2 _ _ R6 (by omega) H4.out).mono ?_; rintro e w7 ⟨rfl, R7, O7⟩; have B7 := B6.on O7 (by omega); clear B6; clear R6)
            | ((with_reducible show AtW 27); clear tok4; refine wpl_store_cell rfl _ _ _ rfl _ 2 (.int .u16 (st % 65536)) rfl rfl rfl rfl (by kernel_rfl) B7 (by simp) ?_; intro w8 B8' O8; have B8 := B8'; clear B7 B8'; have R8 := R7.on O8 (by omega) (by omega); clear R7)
            | (go_at_call 110; refine (fixed_r W0 _ (w.heap.size + 1) _ 2 _ _ R8 (by omega) H5.out).mono ?_; rintro e w9 ⟨rfl, R9, O9⟩; have B9 := B8.on O9 (by omega); clear B8; clear R8)
            | ((with_reducible show AtW 27); clear tok5; refine wpl_store_cell rfl _ _ _ rfl _ 3 (.int .u16 (wn % 65536)) rfl rfl rfl rfl (by kernel_rfl) B9 (by simp) ?_; intro w10 B10' O10; have B10 := B10'; clear B9 B10'; have R10 := R9.on O10 (by omega) (by omega); clear R9; obtain ⟨v5, c0, hr5⟩ := R10.c0; obtain ⟨A5, cap5, rfl, z1, z2, z3, z4⟩ := hr5; clear z3 z4; unfold maxLen at z2; have y2 := B10.at (j := 2) (by rfl))
            | (go_at_call 104; refine (hasR_at _ _ _ true HK.out).mono ?_; rintro e wx ⟨rfl, rfl⟩)
            | (go_at_call 132; refine (trackR_c _ _ _ _ HT.out).mono ?_; rintro e wx ⟨rfl, rfl⟩)
            | (go_at_call 118; refine (text_r W0 _ (w.heap.size + 1) _ _ _ R10 HU1.out).mono ?_; rintro e w11 ⟨rfl, R11, O11⟩; have B11 := B10.on O11 (by omega); clear B10; clear R10)
            | ((with_reducible show AtW 9); clear tok6; refine wpl_store_cell rfl _ _ _ rfl _ 4 (.string (strL u1)) rfl rfl rfl rfl (by kernel_rfl) B11 (by simp) ?_; intro w12 B12' O12; have B12 := B12'; clear B11 B12'; have R12 := R11.on O12 (by omega) (by omega); clear R11; have y2 := B12.at (j := 2) (by rfl))
            | (go_at_call 112; refine (done_r W0 _ (w.heap.size + 1) _ _ R12 H7.out).mono ?_; rintro e w13 ⟨rfl, R13, O13⟩; have B13 := B12.on O13 (by omega); clear B12; clear R12; have c1 := R13.c1)
            | ((with_reducible show AtS 74); refine wpl_load_box rfl _ _ rfl _ rfl B13 Tryz.underlying108 rfl (by kernel_rfl) ?_)
            | ((with_reducible show AtW 108); clear tok2; refine wpl_store_box rfl _ _ _ rfl _ [.int .u64 a, .int .u64 i, .int .u16 (st % 65536), .int .u16 (wn % 65536), .string (strL u1), .slice none 0 0] rfl rfl (B0.ext R13.ext) rfl (by kernel_rfl) (by rfl) ?_; intro w9 B9 O9)
            | fail)
          try simp only [Exit.inBlock, Exit.then]
          refine ret_box rfl rfl rfl rfl B9 Tryz.underlying108 rfl (by kernel_rfl) ?_
          exact ⟨_, rfl, Rd.nil _, (hx0.trans R13.ext).on O9 (Nat.le_refl _)⟩
        · rw [if_neg he7]
          have hb7 : (s7.2 == 0) = false := by simpa using he7
          go_enter Tryz.func77, Tryz.ntmps77
          go_wp2_with fail
          generalize hW0 : w.alloc _ = W0
          have B0 : BoxF W0 w.heap.size [.int .u64 0, .int .u64 0, .int .u16 0, .int .u16 0, .string ⟨#[]⟩, .slice none 0 0] := by rw [← hW0]; exact BoxF.new _ _ _
          have hx0 : Ext w W0 := by rw [← hW0]; exact (Ext.refl w).alloc _
          have hsz : W0.heap.size = w.heap.size + 1 := by rw [← hW0]; simp
          clear hW0
          have R0 := Rdr.at (HR.out.ext hx0) 0 132 (w.heap.size + 1) hsz.symm
          go_wp2_with (first
            | (go_at_call 106; refine (byte_m W0 _ (w.heap.size + 1) _ _ _ R0 HBa.out).mono ?_; rintro e w1 ⟨rfl, R1, O1⟩; clear R0)
            | (go_at_call 107; refine (wrong_m W0 _ (w.heap.size + 1) _ _ _ R1 HQa.out).mono ?_; rintro e w2 ⟨rfl, R2, O2⟩; clear R1)
            | (go_at_call 130; refine (int_r W0 _ (w.heap.size + 1) _ _ _ R2 H2.out).mono ?_; rintro e w3 ⟨rfl, R3, O3⟩; clear R2)
            | ((with_reducible show AtW 108); clear tok; have lt := R3.lt; refine wpl_store_box rfl _ _ _ rfl _ [.int .u64 a, .int .u64 0, .int .u16 0, .int .u16 0, .string ⟨#[]⟩, .slice none 0 0] rfl rfl (BoxF.new _ _ _) rfl (by kernel_rfl) (by rfl) ?_; intro w4 B4 O4; have R4 := R3.grow (((Ext.refl _).alloc _).on O4 (Nat.le_refl _)); clear R3)
            | (go_at_call 130; refine (int_r W0 _ (w.heap.size + 1) _ _ _ R4 H3.out).mono ?_; rintro e w5 ⟨rfl, R5, O5⟩; have B5 := B4.on O5 (by omega); clear B4; clear R4)
            | ((with_reducible show AtW 106); clear tok3; refine wpl_store_cell rfl _ _ _ rfl _ 1 (.int .u64 i) rfl rfl rfl rfl (by kernel_rfl) B5 (by simp) ?_; intro w6 B6' O6; have B6 := B6'; clear B5 B6'; have R6 := R5.on O6 (by omega) (by omega); clear R5)
            | (go_at_call 110; refine (fixed_r W0 _ (w.heap.size + 1) _ 2 _ _ R6 (by omega) H4.out).mono ?_; rintro e w7 ⟨rfl, R7, O7⟩; have B7 := B6.on O7 (by omega); clear B6; clear R6)
            | ((with_reducible show AtW 27); clear tok4; refine wpl_store_cell rfl _ _ _ rfl _ 2 (.int .u16 (st % 65536)) rfl rfl rfl rfl (by kernel_rfl) B7 (by simp) ?_; intro w8 B8' O8; have B8 := B8'; clear B7 B8'; have R8 := R7.on O8 (by omega) (by omega); clear R7)
            | (go_at_call 110; refine (fixed_r W0 _ (w.heap.size + 1) _ 2 _ _ R8 (by omega) H5.out).mono ?_; rintro e w9 ⟨rfl, R9, O9⟩; have B9 := B8.on O9 (by omega); clear B8; clear R8)
            | ((with_reducible show AtW 27); clear tok5; refine wpl_store_cell rfl _ _ _ rfl _ 3 (.int .u16 (wn % 65536)) rfl rfl rfl rfl (by kernel_rfl) B9 (by simp) ?_; intro w10 B10' O10; have B10 := B10'; clear B9 B10'; have R10 := R9.on O10 (by omega) (by omega); clear R9; obtain ⟨v5, c0, hr5⟩ := R10.c0; obtain ⟨A5, cap5, rfl, z1, z2, z3, z4⟩ := hr5; clear z3 z4; unfold maxLen at z2; have y2 := B10.at (j := 2) (by rfl))
            | (go_at_call 104; refine (hasR_at _ _ _ true HK.out).mono ?_; rintro e wx ⟨rfl, rfl⟩)
            | (go_at_call 132; refine (trackR_c _ _ _ _ HT.out).mono ?_; rintro e wx ⟨rfl, rfl⟩)
            | (go_at_call 118; refine (text_r W0 _ (w.heap.size + 1) _ _ _ R10 HU1.out).mono ?_; rintro e w11 ⟨rfl, R11, O11⟩; have B11 := B10.on O11 (by omega); clear B10; clear R10)
            | ((with_reducible show AtW 9); clear tok6; refine wpl_store_cell rfl _ _ _ rfl _ 4 (.string (strL u1)) rfl rfl rfl rfl (by kernel_rfl) B11 (by simp) ?_; intro w12 B12' O12; have B12 := B12'; clear B11 B12'; have R12 := R11.on O12 (by omega) (by omega); clear R11; have y2 := B12.at (j := 2) (by rfl))
            | (go_at_call 112; refine (done_r W0 _ (w.heap.size + 1) _ _ R12 H7.out).mono ?_; rintro e w13 ⟨rfl, R13, O13⟩; have B13 := B12.on O13 (by omega); clear B12; clear R12; have c1 := R13.c1)
            | fail)
          have z0 := (B0.ext R13.ext).at (j := 0) (by rfl)
          have y0 := (B0.ext R13.ext).free 0 (by simp)
          have z1 := (B0.ext R13.ext).at (j := 1) (by rfl)
          have y1 := (B0.ext R13.ext).free 1 (by simp)
          have z2 := (B0.ext R13.ext).at (j := 2) (by rfl)
          have y2 := (B0.ext R13.ext).free 2 (by simp)
          have z3 := (B0.ext R13.ext).at (j := 3) (by rfl)
          have y3 := (B0.ext R13.ext).free 3 (by simp)
          have z4 := (B0.ext R13.ext).at (j := 4) (by rfl)
          have y4 := (B0.ext R13.ext).free 4 (by simp)
          have z5 := (B0.ext R13.ext).at (j := 5) (by rfl)
          have y5 := (B0.ext R13.ext).free 5 (by simp)
          have CH := (((((((On.refl w.heap.size w13).set 0 (.int .u64 0)).set 1 (.int .u64 0)).set 2 (.int .u16 0)).set 3 (.int .u16 0)).set 4 (.string ⟨#[]⟩)).set 5 (.slice none 0 0))
          have CD := CH.ext (Ext.refl _).drew
          have B9 : BoxF _ w.heap.size [.int .u64 0, .int .u64 0, .int .u16 0, .int .u16 0, .string ⟨#[]⟩, .slice none 0 0] := (((((((B0.ext R13.ext).set 0 (.int .u64 0)).set 1 (.int .u64 0)).set 2 (.int .u16 0)).set 3 (.int .u16 0)).set 4 (.string ⟨#[]⟩)).set 5 (.slice none 0 0)).ext (Ext.refl _).drew
          have ok9 := ((hx0.trans R13.ext).on CH (Nat.le_refl _)).drew
          have c1d : (World.drew w13).cell? ⟨(w.heap.size + 1), 1, none⟩ = some (.int .i64 s7.2) := c1
          have c2d := CD.cell c1 (by simp)
          go_region_held3 (fun W' => W'.cell? ⟨(w.heap.size + 1), 1, none⟩ = some (.int .i64 s7.2)) ((first | (with_reducible exact c1d) | (with_reducible exact c2d) | fail)) (fail)
          go_wp2_with fail
          try simp only [Exit.inBlock, Exit.then]
          refine ret_box rfl rfl rfl rfl B9 Tryz.underlying108 rfl (by kernel_rfl) ?_
          exact ⟨_, rfl, Rd.nil _, ok9⟩
      · obtain ⟨⟨rfl, rfl⟩, rfl⟩ : ([] = info ∧ [] = trk) ∧ (l5, e5) = s6 := by rw [okT_none hq ht hl5] at h6; simpa using h6
        have HK := Lib.hid hq
        have HT := Lib.hid ht
        clear h6 h7 hq ht
        by_cases he7 : s7.2 = 0
        · rw [if_pos he7]
          have hb7 : (s7.2 == 0) = true := by simp [he7]
          go_enter Tryz.func77, Tryz.ntmps77
          go_wp2_with fail
          generalize hW0 : w.alloc _ = W0
          have B0 : BoxF W0 w.heap.size [.int .u64 0, .int .u64 0, .int .u16 0, .int .u16 0, .string ⟨#[]⟩, .slice none 0 0] := by rw [← hW0]; exact BoxF.new _ _ _
          have hx0 : Ext w W0 := by rw [← hW0]; exact (Ext.refl w).alloc _
          have hsz : W0.heap.size = w.heap.size + 1 := by rw [← hW0]; simp
          clear hW0
          have R0 := Rdr.at (HR.out.ext hx0) 0 132 (w.heap.size + 1) hsz.symm
          go_wp2_with (first
            | (go_at_call 106; refine (byte_m W0 _ (w.heap.size + 1) _ _ _ R0 HBa.out).mono ?_; rintro e w1 ⟨rfl, R1, O1⟩; clear R0)
            | (go_at_call 107; refine (wrong_m W0 _ (w.heap.size + 1) _ _ _ R1 HQa.out).mono ?_; rintro e w2 ⟨rfl, R2, O2⟩; clear R1)
            | (go_at_call 130; refine (int_r W0 _ (w.heap.size + 1) _ _ _ R2 H2.out).mono ?_; rintro e w3 ⟨rfl, R3, O3⟩; clear R2)
            | ((with_reducible show AtW 108); clear tok; have lt := R3.lt; refine wpl_store_box rfl _ _ _ rfl _ [.int .u64 a, .int .u64 0, .int .u16 0, .int .u16 0, .string ⟨#[]⟩, .slice none 0 0] rfl rfl (BoxF.new _ _ _) rfl (by kernel_rfl) (by rfl) ?_; intro w4 B4 O4; have R4 := R3.grow (((Ext.refl _).alloc _).on O4 (Nat.le_refl _)); clear R3)
            | (go_at_call 130; refine (int_r W0 _ (w.heap.size + 1) _ _ _ R4 H3.out).mono ?_; rintro e w5 ⟨rfl, R5, O5⟩; have B5 := B4.on O5 (by omega); clear B4; clear R4)
            | ((with_reducible show AtW 106); clear tok3; refine wpl_store_cell rfl _ _ _ rfl _ 1 (.int .u64 i) rfl rfl rfl rfl (by kernel_rfl) B5 (by simp) ?_; intro w6 B6' O6; have B6 := B6'; clear B5 B6'; have R6 := R5.on O6 (by omega) (by omega); clear R5)
            | (go_at_call 110; refine (fixed_r W0 _ (w.heap.size + 1) _ 2 _ _ R6 (by omega) H4.out).mono ?_; rintro e w7 ⟨rfl, R7, O7⟩; have B7 := B6.on O7 (by omega); clear B6; clear R6)
            | ((with_reducible show AtW 27); clear tok4; refine wpl_store_cell rfl _ _ _ rfl _ 2 (.int .u16 (st % 65536)) rfl rfl rfl rfl (by kernel_rfl) B7 (by simp) ?_; intro w8 B8' O8; have B8 := B8'; clear B7 B8'; have R8 := R7.on O8 (by omega) (by omega); clear R7)
            | (go_at_call 110; refine (fixed_r W0 _ (w.heap.size + 1) _ 2 _ _ R8 (by omega) H5.out).mono ?_; rintro e w9 ⟨rfl, R9, O9⟩; have B9 := B8.on O9 (by omega); clear B8; clear R8)
            | ((with_reducible show AtW 27); clear tok5; refine wpl_store_cell rfl _ _ _ rfl _ 3 (.int .u16 (wn % 65536)) rfl rfl rfl rfl (by kernel_rfl) B9 (by simp) ?_; intro w10 B10' O10; have B10 := B10'; clear B9 B10'; have R10 := R9.on O10 (by omega) (by omega); clear R9; obtain ⟨v5, c0, hr5⟩ := R10.c0; obtain ⟨A5, cap5, rfl, z1, z2, z3, z4⟩ := hr5; clear z3 z4; unfold maxLen at z2; have y2 := B10.at (j := 2) (by rfl))
            | (go_at_call 104; refine (hasR_at _ _ _ true HK.out).mono ?_; rintro e wx ⟨rfl, rfl⟩)
            | (go_at_call 132; refine (trackR_c _ _ _ _ HT.out).mono ?_; rintro e wx ⟨rfl, rfl⟩)
            | (go_at_call 112; refine (done_r W0 _ (w.heap.size + 1) _ _ R10 H7.out).mono ?_; rintro e w11 ⟨rfl, R11, O11⟩; have B11 := B10.on O11 (by omega); clear B10; clear R10; have c1 := R11.c1)
            | ((with_reducible show AtS 74); refine wpl_load_box rfl _ _ rfl _ rfl B11 Tryz.underlying108 rfl (by kernel_rfl) ?_)
            | ((with_reducible show AtW 108); clear tok2; refine wpl_store_box rfl _ _ _ rfl _ [.int .u64 a, .int .u64 i, .int .u16 (st % 65536), .int .u16 (wn % 65536), .string ⟨#[]⟩, .slice none 0 0] rfl rfl (B0.ext R11.ext) rfl (by kernel_rfl) (by rfl) ?_; intro w9 B9 O9)
            | fail)
          try simp only [Exit.inBlock, Exit.then]
          refine ret_box rfl rfl rfl rfl B9 Tryz.underlying108 rfl (by kernel_rfl) ?_
          exact ⟨_, rfl, Rd.nil _, (hx0.trans R11.ext).on O9 (Nat.le_refl _)⟩
        · rw [if_neg he7]
          have hb7 : (s7.2 == 0) = false := by simpa using he7
          go_enter Tryz.func77, Tryz.ntmps77
          go_wp2_with fail
          generalize hW0 : w.alloc _ = W0
          have B0 : BoxF W0 w.heap.size [.int .u64 0, .int .u64 0, .int .u16 0, .int .u16 0, .string ⟨#[]⟩, .slice none 0 0] := by rw [← hW0]; exact BoxF.new _ _ _
          have hx0 : Ext w W0 := by rw [← hW0]; exact (Ext.refl w).alloc _
          have hsz : W0.heap.size = w.heap.size + 1 := by rw [← hW0]; simp
          clear hW0
          have R0 := Rdr.at (HR.out.ext hx0) 0 132 (w.heap.size + 1) hsz.symm
          go_wp2_with (first
            | (go_at_call 106; refine (byte_m W0 _ (w.heap.size + 1) _ _ _ R0 HBa.out).mono ?_; rintro e w1 ⟨rfl, R1, O1⟩; clear R0)
            | (go_at_call 107; refine (wrong_m W0 _ (w.heap.size + 1) _ _ _ R1 HQa.out).mono ?_; rintro e w2 ⟨rfl, R2, O2⟩; clear R1)
            | (go_at_call 130; refine (int_r W0 _ (w.heap.size + 1) _ _ _ R2 H2.out).mono ?_; rintro e w3 ⟨rfl, R3, O3⟩; clear R2)
            | ((with_reducible show AtW 108); clear tok; have lt := R3.lt; refine wpl_store_box rfl _ _ _ rfl _ [.int .u64 a, .int .u64 0, .int .u16 0, .int .u16 0, .string ⟨#[]⟩, .slice none 0 0] rfl rfl (BoxF.new _ _ _) rfl (by kernel_rfl) (by rfl) ?_; intro w4 B4 O4; have R4 := R3.grow (((Ext.refl _).alloc _).on O4 (Nat.le_refl _)); clear R3)
            | (go_at_call 130; refine (int_r W0 _ (w.heap.size + 1) _ _ _ R4 H3.out).mono ?_; rintro e w5 ⟨rfl, R5, O5⟩; have B5 := B4.on O5 (by omega); clear B4; clear R4)
            | ((with_reducible show AtW 106); clear tok3; refine wpl_store_cell rfl _ _ _ rfl _ 1 (.int .u64 i) rfl rfl rfl rfl (by kernel_rfl) B5 (by simp) ?_; intro w6 B6' O6; have B6 := B6'; clear B5 B6'; have R6 := R5.on O6 (by omega) (by omega); clear R5)
            | (go_at_call 110; refine (fixed_r W0 _ (w.heap.size + 1) _ 2 _ _ R6 (by omega) H4.out).mono ?_; rintro e w7 ⟨rfl, R7, O7⟩; have B7 := B6.on O7 (by omega); clear B6; clear R6)
            | ((with_reducible show AtW 27); clear tok4; refine wpl_store_cell rfl _ _ _ rfl _ 2 (.int .u16 (st % 65536)) rfl rfl rfl rfl (by kernel_rfl) B7 (by simp) ?_; intro w8 B8' O8; have B8 := B8'; clear B7 B8'; have R8 := R7.on O8 (by omega) (by omega); clear R7)
            | (go_at_call 110; refine (fixed_r W0 _ (w.heap.size + 1) _ 2 _ _ R8 (by omega) H5.out).mono ?_; rintro e w9 ⟨rfl, R9, O9⟩; have B9 := B8.on O9 (by omega); clear B8; clear R8)
            | ((with_reducible show AtW 27); clear tok5; refine wpl_store_cell rfl _ _ _ rfl _ 3 (.int .u16 (wn % 65536)) rfl rfl rfl rfl (by kernel_rfl) B9 (by simp) ?_; intro w10 B10' O10; have B10 := B10'; clear B9 B10'; have R10 := R9.on O10 (by omega) (by omega); clear R9; obtain ⟨v5, c0, hr5⟩ := R10.c0; obtain ⟨A5, cap5, rfl, z1, z2, z3, z4⟩ := hr5; clear z3 z4; unfold maxLen at z2; have y2 := B10.at (j := 2) (by rfl))
            | (go_at_call 104; refine (hasR_at _ _ _ true HK.out).mono ?_; rintro e wx ⟨rfl, rfl⟩)
            | (go_at_call 132; refine (trackR_c _ _ _ _ HT.out).mono ?_; rintro e wx ⟨rfl, rfl⟩)
            | (go_at_call 112; refine (done_r W0 _ (w.heap.size + 1) _ _ R10 H7.out).mono ?_; rintro e w11 ⟨rfl, R11, O11⟩; have B11 := B10.on O11 (by omega); clear B10; clear R10; have c1 := R11.c1)
            | fail)
          have z0 := (B0.ext R11.ext).at (j := 0) (by rfl)
          have y0 := (B0.ext R11.ext).free 0 (by simp)
          have z1 := (B0.ext R11.ext).at (j := 1) (by rfl)
          have y1 := (B0.ext R11.ext).free 1 (by simp)
          have z2 := (B0.ext R11.ext).at (j := 2) (by rfl)
          have y2 := (B0.ext R11.ext).free 2 (by simp)
          have z3 := (B0.ext R11.ext).at (j := 3) (by rfl)
          have y3 := (B0.ext R11.ext).free 3 (by simp)
          have z4 := (B0.ext R11.ext).at (j := 4) (by rfl)
          have y4 := (B0.ext R11.ext).free 4 (by simp)
          have z5 := (B0.ext R11.ext).at (j := 5) (by rfl)
          have y5 := (B0.ext R11.ext).free 5 (by simp)
          have CH := (((((((On.refl w.heap.size w11).set 0 (.int .u64 0)).set 1 (.int .u64 0)).set 2 (.int .u16 0)).set 3 (.int .u16 0)).set 4 (.string ⟨#[]⟩)).set 5 (.slice none 0 0))
          have CD := CH.ext (Ext.refl _).drew
          have B9 : BoxF _ w.heap.size [.int .u64 0, .int .u64 0, .int .u16 0, .int .u16 0, .string ⟨#[]⟩, .slice none 0 0] := (((((((B0.ext R11.ext).set 0 (.int .u64 0)).set 1 (.int .u64 0)).set 2 (.int .u16 0)).set 3 (.int .u16 0)).set 4 (.string ⟨#[]⟩)).set 5 (.slice none 0 0)).ext (Ext.refl _).drew
          have ok9 := ((hx0.trans R11.ext).on CH (Nat.le_refl _)).drew
          have c1d : (World.drew w11).cell? ⟨(w.heap.size + 1), 1, none⟩ = some (.int .i64 s7.2) := c1
          have c2d := CD.cell c1 (by simp)
          go_region_held3 (fun W' => W'.cell? ⟨(w.heap.size + 1), 1, none⟩ = some (.int .i64 s7.2)) ((first | (with_reducible exact c1d) | (with_reducible exact c2d) | fail)) (fail)
          go_wp2_with fail
          try simp only [Exit.inBlock, Exit.then]
          refine ret_box rfl rfl rfl rfl B9 Tryz.underlying108 rfl (by kernel_rfl) ?_
          exact ⟨_, rfl, Rd.nil _, ok9⟩
end Go.Proofs.YtbodppfpmpmadaaGreat

