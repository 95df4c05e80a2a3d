/- What reads an EOF and a prepared statement, both sides. (Printed by gen_rdG.py.) -/
import Derived.Test.YtnlfcknpmemhfaaRdF
import Derived.Test.YtnlfcknpmemhfaaBox
namespace Go.Proofs.Ytnlfcknpmemhfaa
open Go.RowKit

theorem Rdr.at {w : World} {v : Value} {l : List UInt8} (hr : Rd w v l) (e : Int) (t : TypeId) (g : Nat) (hg : g = w.heap.size) : Rdr w (w.alloc (.cells #[v, .int .i64 e] t)) g (l, e) := by
  subst hg
  exact Rdr.new hr e t

/-- An EOF that is read: the reader's states, one behind the other. -/
def eofS (l : List UInt8) : (Int × Int) × Int :=
  if (rO (rF 2 (rF 2 (rMust [254] (l, 0))).2).2).2 = 0 then (((rF 2 (rMust [254] (l, 0))).1 % 65536, (rF 2 (rF 2 (rMust [254] (l, 0))).2).1 % 65536), 0) else ((0, 0), (rO (rF 2 (rF 2 (rMust [254] (l, 0))).2).2).2)
def RetEof (w : World) (r : (Int × Int) × Int) (e : Ending) (w' : World) : Prop := e = .returned (.tuple #[.agg #[.int .u16 r.1.1, .int .u16 r.1.2], .int .i64 r.2]) ∧ Ext w w'

set_option maxRecDepth 100000 in
set_option maxHeartbeats 2000000 in
theorem readEof_len (w : World) (v : Value) (l : List UInt8) (hr : Rd w v l) :
    Calls Try.prog 56 #[v] w (RetEof w (eofS l)) := by
  obtain ⟨A0, cap0, hv, _, _, _, _⟩ := id hr
  have HR := Lib.hid hr
  clear hr
  subst hv
  have tok : True := trivial
  have tok2 : True := trivial
  obtain ⟨s1, h1⟩ : ∃ s, rMust [254] (l, 0) = s := ⟨_, rfl⟩
  obtain ⟨x, s2, h2⟩ : ∃ x s, rF 2 s1 = (x, s) := ⟨_, _, rfl⟩
  obtain ⟨y, s3, h3⟩ : ∃ x s, rF 2 s2 = (x, s) := ⟨_, _, rfl⟩
  obtain ⟨s4, h4⟩ : ∃ s, rO s3 = s := ⟨_, rfl⟩
  have hS : eofS l = if s4.2 = 0 then ((x % 65536, y % 65536), 0) else ((0, 0), s4.2) := by simp only [eofS, h1, h2, h3, h4]
  have H1 := Lib.hid h1
  have H2 := Lib.hid h2
  have H3 := Lib.hid h3
  have H4 := Lib.hid h4
  clear h1 h2 h3 h4
  rw [hS]
  clear hS
  by_cases he : s4.2 = 0
  · rw [if_pos he]
    have hb : (s4.2 == 0) = true := by simp [he]
    go_enter Try.func56, Try.ntmps56
    go_wp2_with fail
    generalize hW0 : w.alloc _ = W0
    have B0 : BoxF W0 w.heap.size [.int .u16 0, .int .u16 0] := by rw [← hW0]; exact BoxF.new _ _ _
    have hx0 : Ext w W0 := by rw [← hW0]; exact (Ext.refl w).alloc _
    have hsz : W0.heap.size = w.heap.size + 1 := by rw [← hW0]; simp
    clear hW0
    have R0 := Rdr.at (HR.out.ext hx0) 0 93 (w.heap.size + 1) hsz.symm
    go_wp2_with (first
      | (go_at_call 73; refine (must_m W0 _ (w.heap.size + 1) _ _ [254] (R0.grow ((Ext.refl _).alloc _)) (rd_lit _ _ [254] (by rfl) (by simp) 1 _ (by rfl) (by simp [hsz])) (by simp [Value.ownBlock]) _ H1.out).mono ?_; rintro e w1 ⟨rfl, R1, O1⟩; clear R0)
      | (go_at_call 75; refine (fixed_m W0 _ (w.heap.size + 1) _ 2 _ _ R1 (by omega) H2.out).mono ?_; rintro e w2 ⟨rfl, R2, O2⟩; clear R1)
      | (go_at_call 75; refine (fixed_m W0 _ (w.heap.size + 1) _ 2 _ _ R2 (by omega) H3.out).mono ?_; rintro e w3 ⟨rfl, R3, O3⟩; clear R2)
      | ((with_reducible show wpList _ _ _ (⟨none, Op.store 32 _ _, _, _, _, _⟩ :: _) _ _); clear tok; have lt := R3.lt; refine wpl_store_box rfl _ _ _ rfl _ [.int .u16 (x % 65536), .int .u16 (y % 65536)] rfl rfl (BoxF.new _ _ _) rfl (by kernel_rfl) (by rfl) ?_; intro w4 B4 O4; have R4 := R3.grow (((Ext.refl _).alloc _).on O4 (Nat.le_refl _)); clear R3)
      | (go_at_call 78; refine (over_m W0 _ (w.heap.size + 1) _ _ R4 H4.out).mono ?_; rintro e w5 ⟨rfl, R5, O5⟩; have B5 := B4.on O5 (by omega); clear B4; clear R4; have c1 := R5.c1)
      | ((with_reducible show wpList _ _ _ (⟨some 26, _, _, _, _, _⟩ :: _) _ _); refine wpl_load_box rfl _ _ rfl _ rfl B5 Try.underlying32 rfl (by kernel_rfl) ?_)
      | ((with_reducible show wpList _ _ _ (⟨none, Op.store 32 _ _, _, _, _, _⟩ :: _) _ _); clear tok2; refine wpl_store_box rfl _ _ _ rfl _ [.int .u16 (x % 65536), .int .u16 (y % 65536)] rfl rfl (B0.ext R5.ext) rfl (by kernel_rfl) (by rfl) ?_; intro w9 B9 O9)
      | fail)
    try simp only [Exit.inBlock, Exit.then]
    refine ret_box rfl rfl rfl rfl B9 Try.underlying32 rfl (by kernel_rfl) ?_
    exact ⟨rfl, (hx0.trans R5.ext).on O9 (Nat.le_refl _)⟩
  · rw [if_neg he]
    have hb : (s4.2 == 0) = false := by simpa using he
    go_enter Try.func56, Try.ntmps56
    go_wp2_with fail
    generalize hW0 : w.alloc _ = W0
    have B0 : BoxF W0 w.heap.size [.int .u16 0, .int .u16 0] := by rw [← hW0]; exact BoxF.new _ _ _
    have hx0 : Ext w W0 := by rw [← hW0]; exact (Ext.refl w).alloc _
    have hsz : W0.heap.size = w.heap.size + 1 := by rw [← hW0]; simp
    clear hW0
    have R0 := Rdr.at (HR.out.ext hx0) 0 93 (w.heap.size + 1) hsz.symm
    go_wp2_with (first
      | (go_at_call 73; refine (must_m W0 _ (w.heap.size + 1) _ _ [254] (R0.grow ((Ext.refl _).alloc _)) (rd_lit _ _ [254] (by rfl) (by simp) 1 _ (by rfl) (by simp [hsz])) (by simp [Value.ownBlock]) _ H1.out).mono ?_; rintro e w1 ⟨rfl, R1, O1⟩; clear R0)
      | (go_at_call 75; refine (fixed_m W0 _ (w.heap.size + 1) _ 2 _ _ R1 (by omega) H2.out).mono ?_; rintro e w2 ⟨rfl, R2, O2⟩; clear R1)
      | (go_at_call 75; refine (fixed_m W0 _ (w.heap.size + 1) _ 2 _ _ R2 (by omega) H3.out).mono ?_; rintro e w3 ⟨rfl, R3, O3⟩; clear R2)
      | ((with_reducible show wpList _ _ _ (⟨none, Op.store 32 _ _, _, _, _, _⟩ :: _) _ _); clear tok; have lt := R3.lt; refine wpl_store_box rfl _ _ _ rfl _ [.int .u16 (x % 65536), .int .u16 (y % 65536)] rfl rfl (BoxF.new _ _ _) rfl (by kernel_rfl) (by rfl) ?_; intro w4 B4 O4; have R4 := R3.grow (((Ext.refl _).alloc _).on O4 (Nat.le_refl _)); clear R3)
      | (go_at_call 78; refine (over_m W0 _ (w.heap.size + 1) _ _ R4 H4.out).mono ?_; rintro e w5 ⟨rfl, R5, O5⟩; have B5 := B4.on O5 (by omega); clear B4; clear R4; have c1 := R5.c1)
      | ((with_reducible show wpList _ _ _ (⟨none, Op.store 32 _ _, _, _, _, _⟩ :: _) _ _); clear tok2; refine wpl_store_box rfl _ _ _ rfl _ [.int .u16 0, .int .u16 0] rfl rfl (B0.ext R5.ext) rfl (by kernel_rfl) (by rfl) ?_; intro w9 B9 O9)
      | fail)
    try simp only [Exit.inBlock, Exit.then]
    refine ret_box rfl rfl rfl rfl B9 Try.underlying32 rfl (by kernel_rfl) ?_
    exact ⟨rfl, (hx0.trans R5.ext).on O9 (Nat.le_refl _)⟩

set_option maxRecDepth 100000 in
set_option maxHeartbeats 2000000 in
theorem readEof_ref (w : World) (v : Value) (l : List UInt8) (hr : Rd w v l) :
    Calls Try.prog 57 #[v] w (RetEof w (eofS l)) := by
  obtain ⟨A0, cap0, hv, _, _, _, _⟩ := id hr
  have HR := Lib.hid hr
  clear hr
  subst hv
  have tok : True := trivial
  have tok2 : True := trivial
  obtain ⟨s1, h1⟩ : ∃ s, rMust [254] (l, 0) = s := ⟨_, rfl⟩
  obtain ⟨x, s2, h2⟩ : ∃ x s, rF 2 s1 = (x, s) := ⟨_, _, rfl⟩
  obtain ⟨y, s3, h3⟩ : ∃ x s, rF 2 s2 = (x, s) := ⟨_, _, rfl⟩
  obtain ⟨s4, h4⟩ : ∃ s, rO s3 = s := ⟨_, rfl⟩
  have hS : eofS l = if s4.2 = 0 then ((x % 65536, y % 65536), 0) else ((0, 0), s4.2) := by simp only [eofS, h1, h2, h3, h4]
  have H1 := Lib.hid h1
  have H2 := Lib.hid h2
  have H3 := Lib.hid h3
  have H4 := Lib.hid h4
  clear h1 h2 h3 h4
  obtain ⟨b, s0, hb1⟩ := rB_one (l, 0)
  have hmb := must_byte [254] hb1
  have hk : ((b.toNat : Int) != 254) = !(b == 254) := congrArg not (byte_eq b 254)
  rw [List.contains_cons, List.contains_nil, Bool.or_false] at hmb
  obtain ⟨q, hbq⟩ : ∃ q, (!(b == 254)) = q := ⟨_, rfl⟩
  rw [hbq] at hmb hk
  have HB := Lib.hid hb1
  rw [H1.out] at hmb
  have HQ := Lib.hid hmb.symm
  clear hmb hb1 hbq
  rw [hS]
  clear hS
  by_cases he : s4.2 = 0
  · rw [if_pos he]
    have hb : (s4.2 == 0) = true := by simp [he]
    go_enter Try.func57, Try.ntmps57
    go_wp2_with fail
    generalize hW0 : w.alloc _ = W0
    have B0 : BoxF W0 w.heap.size [.int .u16 0, .int .u16 0] := by rw [← hW0]; exact BoxF.new _ _ _
    have hx0 : Ext w W0 := by rw [← hW0]; exact (Ext.refl w).alloc _
    have hsz : W0.heap.size = w.heap.size + 1 := by rw [← hW0]; simp
    clear hW0
    have R0 := Rdr.at (HR.out.ext hx0) 0 102 (w.heap.size + 1) hsz.symm
    have tok3 : True := trivial
    go_wp2_with (first
      | (go_at_call 79; refine (byte_m W0 _ (w.heap.size + 1) _ _ _ R0 HB.out).mono ?_; rintro e w1 ⟨rfl, R1, O1⟩; clear R0)
      | (go_at_call 80; refine (wrong_m W0 _ (w.heap.size + 1) _ _ q R1 HQ.out).mono ?_; rintro e w2 ⟨rfl, R2, O2⟩; clear R1)
      | (go_at_call 82; refine (fixed_r W0 _ (w.heap.size + 1) _ 2 _ _ R2 (by omega) H2.out).mono ?_; rintro e w3 ⟨rfl, R3, O3⟩; clear R2)
      | ((with_reducible show wpList _ _ _ (⟨none, Op.store 32 _ _, _, _, _, _⟩ :: _) _ _); clear tok; have lt := R3.lt; refine wpl_store_box rfl _ _ _ rfl _ [.int .u16 (x % 65536), .int .u16 0] rfl rfl (BoxF.new _ _ _) rfl (by kernel_rfl) (by rfl) ?_; intro w4 B4 O4; have R4 := R3.grow (((Ext.refl _).alloc _).on O4 (Nat.le_refl _)); clear R3)
      | (go_at_call 82; refine (fixed_r W0 _ (w.heap.size + 1) _ 2 _ _ R4 (by omega) H3.out).mono ?_; rintro e w5 ⟨rfl, R5, O5⟩; have B5 := B4.on O5 (by omega); clear B4; clear R4)
      | ((with_reducible show wpList _ _ _ (⟨none, Op.store 26 _ _, _, _, _, _⟩ :: _) _ _); clear tok3; refine wpl_store_cell rfl _ _ _ rfl _ 1 (.int .u16 (y % 65536)) rfl rfl rfl rfl (by kernel_rfl) B5 (by simp) ?_; intro w6 B6' O6; have B6 := B6'; clear B5 B6'; have R6 := R5.on O6 (by omega) (by omega); clear R5)
      | (go_at_call 85; refine (done_r W0 _ (w.heap.size + 1) _ _ R6 H4.out).mono ?_; rintro e w7 ⟨rfl, R7, O7⟩; have B7 := B6.on O7 (by omega); clear B6; clear R6; have c1 := R7.c1)
      | ((with_reducible show wpList _ _ _ (⟨some 32, _, _, _, _, _⟩ :: _) _ _); refine wpl_load_box rfl _ _ rfl _ rfl B7 Try.underlying32 rfl (by kernel_rfl) ?_)
      | ((with_reducible show wpList _ _ _ (⟨none, Op.store 32 _ _, _, _, _, _⟩ :: _) _ _); clear tok2; refine wpl_store_box rfl _ _ _ rfl _ [.int .u16 (x % 65536), .int .u16 (y % 65536)] rfl rfl (B0.ext R7.ext) rfl (by kernel_rfl) (by rfl) ?_; intro w9 B9 O9)
      | fail)
    try simp only [Exit.inBlock, Exit.then]
    refine ret_box rfl rfl rfl rfl B9 Try.underlying32 rfl (by kernel_rfl) ?_
    exact ⟨rfl, (hx0.trans R7.ext).on O9 (Nat.le_refl _)⟩
  · rw [if_neg he]
    have hb : (s4.2 == 0) = false := by simpa using he
    go_enter Try.func57, Try.ntmps57
    go_wp2_with fail
    generalize hW0 : w.alloc _ = W0
    have B0 : BoxF W0 w.heap.size [.int .u16 0, .int .u16 0] := by rw [← hW0]; exact BoxF.new _ _ _
    have hx0 : Ext w W0 := by rw [← hW0]; exact (Ext.refl w).alloc _
    have hsz : W0.heap.size = w.heap.size + 1 := by rw [← hW0]; simp
    clear hW0
    have R0 := Rdr.at (HR.out.ext hx0) 0 102 (w.heap.size + 1) hsz.symm
    have tok3 : True := trivial
    go_wp2_with (first
      | (go_at_call 79; refine (byte_m W0 _ (w.heap.size + 1) _ _ _ R0 HB.out).mono ?_; rintro e w1 ⟨rfl, R1, O1⟩; clear R0)
      | (go_at_call 80; refine (wrong_m W0 _ (w.heap.size + 1) _ _ q R1 HQ.out).mono ?_; rintro e w2 ⟨rfl, R2, O2⟩; clear R1)
      | (go_at_call 82; refine (fixed_r W0 _ (w.heap.size + 1) _ 2 _ _ R2 (by omega) H2.out).mono ?_; rintro e w3 ⟨rfl, R3, O3⟩; clear R2)
      | ((with_reducible show wpList _ _ _ (⟨none, Op.store 32 _ _, _, _, _, _⟩ :: _) _ _); clear tok; have lt := R3.lt; refine wpl_store_box rfl _ _ _ rfl _ [.int .u16 (x % 65536), .int .u16 0] rfl rfl (BoxF.new _ _ _) rfl (by kernel_rfl) (by rfl) ?_; intro w4 B4 O4; have R4 := R3.grow (((Ext.refl _).alloc _).on O4 (Nat.le_refl _)); clear R3)
      | (go_at_call 82; refine (fixed_r W0 _ (w.heap.size + 1) _ 2 _ _ R4 (by omega) H3.out).mono ?_; rintro e w5 ⟨rfl, R5, O5⟩; have B5 := B4.on O5 (by omega); clear B4; clear R4)
      | ((with_reducible show wpList _ _ _ (⟨none, Op.store 26 _ _, _, _, _, _⟩ :: _) _ _); clear tok3; refine wpl_store_cell rfl _ _ _ rfl _ 1 (.int .u16 (y % 65536)) rfl rfl rfl rfl (by kernel_rfl) B5 (by simp) ?_; intro w6 B6' O6; have B6 := B6'; clear B5 B6'; have R6 := R5.on O6 (by omega) (by omega); clear R5)
      | (go_at_call 85; refine (done_r W0 _ (w.heap.size + 1) _ _ R6 H4.out).mono ?_; rintro e w7 ⟨rfl, R7, O7⟩; have B7 := B6.on O7 (by omega); clear B6; clear R6; have c1 := R7.c1)
      | fail)
    have z0 := (B0.ext R7.ext).at (j := 0) (by rfl)
    have y0 := (B0.ext R7.ext).free 0 (by simp)
    have z1 := (B0.ext R7.ext).at (j := 1) (by rfl)
    have y1 := (B0.ext R7.ext).free 1 (by simp)
    go_region_held3 (fun W' => W'.cell? ⟨(w.heap.size + 1), 1, none⟩ = some (.int .i64 s4.2)) ((first | exact c1 | exact (On.sets _ 0 [.int .u16 0, .int .u16 0]).cell c1 (by simp) | fail)) (fail)
    go_wp2_with fail
    have B9 := (B0.ext R7.ext.drew).sets (ds := [.int .u16 0, .int .u16 0]) rfl
    have O9 := On.sets (g := w.heap.size) (World.drew w7) 0 [.int .u16 0, .int .u16 0]
    try simp only [Exit.inBlock, Exit.then]
    refine ret_box rfl rfl rfl rfl B9 Try.underlying32 rfl (by kernel_rfl) ?_
    exact ⟨rfl, (hx0.trans R7.ext.drew).on O9 (Nat.le_refl _)⟩

/-- A prepared statement that is read. -/
def prepS (l : List UInt8) : (Int × Int × Int × Int) × Int :=
  let s1 := rMust [0] (l, 0)
  let s2 := (rF 4 s1).2
  let s3 := (rF 2 s2).2
  let s4 := (rF 2 s3).2
  let s5 := rMust [0] s4
  let s6 := (rF 2 s5).2
  if (rO s6).2 = 0 then (((rF 4 s1).1 % 4294967296, (rF 2 s2).1 % 65536, (rF 2 s3).1 % 65536, (rF 2 s5).1 % 65536), 0) else ((0, 0, 0, 0), (rO s6).2)
def RetPrep (w : World) (r : (Int × Int × Int × Int) × Int) (e : Ending) (w' : World) : Prop := e = .returned (.tuple #[.agg #[.int .u32 r.1.1, .int .u16 r.1.2.1, .int .u16 r.1.2.2.1, .int .u16 r.1.2.2.2], .int .i64 r.2]) ∧ Ext w w'
theorem rN_one (s : List UInt8 × Int) : rN 1 s = rMust [0] s := by
  obtain ⟨b, s1, h⟩ := rB_one s
  rw [must_byte [0] h, rN, h]
  have : ([b].any (· != 0)) = !([0] : List UInt8).contains b := by
    by_cases h0 : b = 0
    · subst h0; rfl
    · simp [h0]
  rw [this]

set_option maxRecDepth 100000 in
set_option maxHeartbeats 2000000 in
theorem readPrep_len (w : World) (v : Value) (l : List UInt8) (hr : Rd w v l) :
    Calls Try.prog 58 #[v] w (RetPrep w (prepS l)) := by
  obtain ⟨A0, cap0, hv, _, _, _, _⟩ := id hr
  have HR := Lib.hid hr
  clear hr
  subst hv
  have tok : True := trivial
  have tok2 : True := trivial
  obtain ⟨s1, h1⟩ : ∃ s, rMust [0] (l, 0) = s := ⟨_, rfl⟩
  obtain ⟨x, s2, h2⟩ : ∃ x s, rF 4 s1 = (x, s) := ⟨_, _, rfl⟩
  obtain ⟨y, s3, h3⟩ : ∃ x s, rF 2 s2 = (x, s) := ⟨_, _, rfl⟩
  obtain ⟨z, s4, h4⟩ : ∃ x s, rF 2 s3 = (x, s) := ⟨_, _, rfl⟩
  obtain ⟨s5, h5⟩ : ∃ s, rMust [0] s4 = s := ⟨_, rfl⟩
  obtain ⟨u, s6, h6⟩ : ∃ x s, rF 2 s5 = (x, s) := ⟨_, _, rfl⟩
  obtain ⟨s7, h7⟩ : ∃ s, rO s6 = s := ⟨_, rfl⟩
  have hS : prepS l = if s7.2 = 0 then ((x % 4294967296, y % 65536, z % 65536, u % 65536), 0) else ((0, 0, 0, 0), s7.2) := by simp only [prepS, h1, h2, h3, h4, h5, h6, h7]
  have H2 := Lib.hid h2
  have H3 := Lib.hid h3
  have H4 := Lib.hid h4
  have H6 := Lib.hid h6
  have H7 := Lib.hid h7
  have H1 := Lib.hid h1
  have H5 := Lib.hid h5
  clear h1 h2 h3 h4 h5 h6 h7
  rw [hS]
  clear hS
  have tok3 : True := trivial
  by_cases he : s7.2 = 0
  · rw [if_pos he]
    have hb : (s7.2 == 0) = true := by simp [he]
    go_enter Try.func58, Try.ntmps58
    go_wp2_with fail
    generalize hW0 : w.alloc _ = W0
    have B0 : BoxF W0 w.heap.size [.int .u32 0, .int .u16 0, .int .u16 0, .int .u16 0] := by rw [← hW0]; exact BoxF.new _ _ _
    have hx0 : Ext w W0 := by rw [← hW0]; exact (Ext.refl w).alloc _
    have hsz : W0.heap.size = w.heap.size + 1 := by rw [← hW0]; simp
    clear hW0
    have R0 := Rdr.at (HR.out.ext hx0) 0 93 (w.heap.size + 1) hsz.symm
    go_wp2_with (first
      | (go_at_call 73; refine (must_m W0 _ (w.heap.size + 1) _ _ [0] (R0.grow ((Ext.refl _).alloc _)) (rd_lit _ _ [0] (by rfl) (by simp) 1 _ (by rfl) (by simp [hsz])) (by simp [Value.ownBlock]) _ H1.out).mono ?_; rintro e w1 ⟨rfl, R1, O1⟩; clear R0)
      | (go_at_call 75; refine (fixed_m W0 _ (w.heap.size + 1) _ 4 _ _ R1 (by omega) H2.out).mono ?_; rintro e w2 ⟨rfl, R2, O2⟩; clear R1)
      | (go_at_call 75; refine (fixed_m W0 _ (w.heap.size + 1) _ 2 _ _ R2 (by omega) H3.out).mono ?_; rintro e w3 ⟨rfl, R3, O3⟩; clear R2)
      | (go_at_call 75; refine (fixed_m W0 _ (w.heap.size + 1) _ 2 _ _ R3 (by omega) H4.out).mono ?_; rintro e w4 ⟨rfl, R4, O4⟩; clear R3)
      | ((with_reducible show wpList _ _ _ (⟨none, Op.store 34 _ _, _, _, _, _⟩ :: _) _ _); clear tok; have lt := R4.lt; refine wpl_store_box rfl _ _ _ rfl _ [.int .u32 (x % 4294967296), .int .u16 (y % 65536), .int .u16 (z % 65536), .int .u16 0] rfl rfl (BoxF.new _ _ _) rfl (by kernel_rfl) (by rfl) ?_; intro w5 B5 O5; have R5 := R4.grow (((Ext.refl _).alloc _).on O5 (Nat.le_refl _)); clear R4)
      | (go_at_call 73; refine (must_m W0 _ (w.heap.size + 1) _ _ [0] (R5.grow ((Ext.refl _).alloc _)) (rd_lit _ _ [0] (by rfl) (by simp) 1 _ (by rfl) (by rfl)) (by simp [Value.ownBlock]; have := R5.lt; omega) _ H5.out).mono ?_; rintro e w6 ⟨rfl, R6, O6⟩; have B6 := (B5.ext ((Ext.refl _).alloc _)).on O6 (by omega); clear B5; clear R5)
      | (go_at_call 75; refine (fixed_m W0 _ (w.heap.size + 1) _ 2 _ _ R6 (by omega) H6.out).mono ?_; rintro e w7 ⟨rfl, R7, O7⟩; have B7 := B6.on O7 (by omega); clear B6; clear R6)
      | ((with_reducible show wpList _ _ _ (⟨none, Op.store 26 _ _, _, _, _, _⟩ :: _) _ _); clear tok3; refine wpl_store_cell rfl _ _ _ rfl _ 3 (.int .u16 (u % 65536)) rfl rfl rfl rfl (by kernel_rfl) B7 (by simp) ?_; intro w8 B8' O8; have B8 := B8'; clear B7 B8'; have R8 := R7.on O8 (by omega) (by omega); clear R7)
      | (go_at_call 78; refine (over_m W0 _ (w.heap.size + 1) _ _ R8 H7.out).mono ?_; rintro e w9 ⟨rfl, R9, O9⟩; have B9 := B8.on O9 (by omega); clear B8; clear R8; have c1 := R9.c1)
      | ((with_reducible show wpList _ _ _ (⟨some 36, _, _, _, _, _⟩ :: _) _ _); refine wpl_load_box rfl _ _ rfl _ rfl B9 Try.underlying34 rfl (by kernel_rfl) ?_)
      | ((with_reducible show wpList _ _ _ (⟨none, Op.store 34 _ _, _, _, _, _⟩ :: _) _ _); clear tok2; refine wpl_store_box rfl _ _ _ rfl _ [.int .u32 (x % 4294967296), .int .u16 (y % 65536), .int .u16 (z % 65536), .int .u16 (u % 65536)] rfl rfl (B0.ext R9.ext) rfl (by kernel_rfl) (by rfl) ?_; intro w9 B9 O9)
      | fail)
    try simp only [Exit.inBlock, Exit.then]
    refine ret_box rfl rfl rfl rfl B9 Try.underlying34 rfl (by kernel_rfl) ?_
    exact ⟨rfl, (hx0.trans R9.ext).on O9 (Nat.le_refl _)⟩
  · rw [if_neg he]
    have hb : (s7.2 == 0) = false := by simpa using he
    go_enter Try.func58, Try.ntmps58
    go_wp2_with fail
    generalize hW0 : w.alloc _ = W0
    have B0 : BoxF W0 w.heap.size [.int .u32 0, .int .u16 0, .int .u16 0, .int .u16 0] := by rw [← hW0]; exact BoxF.new _ _ _
    have hx0 : Ext w W0 := by rw [← hW0]; exact (Ext.refl w).alloc _
    have hsz : W0.heap.size = w.heap.size + 1 := by rw [← hW0]; simp
    clear hW0
    have R0 := Rdr.at (HR.out.ext hx0) 0 93 (w.heap.size + 1) hsz.symm
    go_wp2_with (first
      | (go_at_call 73; refine (must_m W0 _ (w.heap.size + 1) _ _ [0] (R0.grow ((Ext.refl _).alloc _)) (rd_lit _ _ [0] (by rfl) (by simp) 1 _ (by rfl) (by simp [hsz])) (by simp [Value.ownBlock]) _ H1.out).mono ?_; rintro e w1 ⟨rfl, R1, O1⟩; clear R0)
      | (go_at_call 75; refine (fixed_m W0 _ (w.heap.size + 1) _ 4 _ _ R1 (by omega) H2.out).mono ?_; rintro e w2 ⟨rfl, R2, O2⟩; clear R1)
      | (go_at_call 75; refine (fixed_m W0 _ (w.heap.size + 1) _ 2 _ _ R2 (by omega) H3.out).mono ?_; rintro e w3 ⟨rfl, R3, O3⟩; clear R2)
      | (go_at_call 75; refine (fixed_m W0 _ (w.heap.size + 1) _ 2 _ _ R3 (by omega) H4.out).mono ?_; rintro e w4 ⟨rfl, R4, O4⟩; clear R3)
      | ((with_reducible show wpList _ _ _ (⟨none, Op.store 34 _ _, _, _, _, _⟩ :: _) _ _); clear tok; have lt := R4.lt; refine wpl_store_box rfl _ _ _ rfl _ [.int .u32 (x % 4294967296), .int .u16 (y % 65536), .int .u16 (z % 65536), .int .u16 0] rfl rfl (BoxF.new _ _ _) rfl (by kernel_rfl) (by rfl) ?_; intro w5 B5 O5; have R5 := R4.grow (((Ext.refl _).alloc _).on O5 (Nat.le_refl _)); clear R4)
      | (go_at_call 73; refine (must_m W0 _ (w.heap.size + 1) _ _ [0] (R5.grow ((Ext.refl _).alloc _)) (rd_lit _ _ [0] (by rfl) (by simp) 1 _ (by rfl) (by rfl)) (by simp [Value.ownBlock]; have := R5.lt; omega) _ H5.out).mono ?_; rintro e w6 ⟨rfl, R6, O6⟩; have B6 := (B5.ext ((Ext.refl _).alloc _)).on O6 (by omega); clear B5; clear R5)
      | (go_at_call 75; refine (fixed_m W0 _ (w.heap.size + 1) _ 2 _ _ R6 (by omega) H6.out).mono ?_; rintro e w7 ⟨rfl, R7, O7⟩; have B7 := B6.on O7 (by omega); clear B6; clear R6)
      | ((with_reducible show wpList _ _ _ (⟨none, Op.store 26 _ _, _, _, _, _⟩ :: _) _ _); clear tok3; refine wpl_store_cell rfl _ _ _ rfl _ 3 (.int .u16 (u % 65536)) rfl rfl rfl rfl (by kernel_rfl) B7 (by simp) ?_; intro w8 B8' O8; have B8 := B8'; clear B7 B8'; have R8 := R7.on O8 (by omega) (by omega); clear R7)
      | (go_at_call 78; refine (over_m W0 _ (w.heap.size + 1) _ _ R8 H7.out).mono ?_; rintro e w9 ⟨rfl, R9, O9⟩; have B9 := B8.on O9 (by omega); clear B8; clear R8; have c1 := R9.c1)
      | ((with_reducible show wpList _ _ _ (⟨none, Op.store 34 _ _, _, _, _, _⟩ :: _) _ _); clear tok2; refine wpl_store_box rfl _ _ _ rfl _ [.int .u32 0, .int .u16 0, .int .u16 0, .int .u16 0] rfl rfl (B0.ext R9.ext) rfl (by kernel_rfl) (by rfl) ?_; intro w9 B9 O9)
      | fail)
    try simp only [Exit.inBlock, Exit.then]
    refine ret_box rfl rfl rfl rfl B9 Try.underlying34 rfl (by kernel_rfl) ?_
    exact ⟨rfl, (hx0.trans R9.ext).on O9 (Nat.le_refl _)⟩

set_option maxRecDepth 100000 in
set_option maxHeartbeats 2000000 in
theorem readPrep_ref (w : World) (v : Value) (l : List UInt8) (hr : Rd w v l) :
    Calls Try.prog 59 #[v] w (RetPrep w (prepS l)) := by
  obtain ⟨A0, cap0, hv, _, _, _, _⟩ := id hr
  have HR := Lib.hid hr
  clear hr
  subst hv
  have tok : True := trivial
  have tok2 : True := trivial
  obtain ⟨s1, h1⟩ : ∃ s, rMust [0] (l, 0) = s := ⟨_, rfl⟩
  obtain ⟨x, s2, h2⟩ : ∃ x s, rF 4 s1 = (x, s) := ⟨_, _, rfl⟩
  obtain ⟨y, s3, h3⟩ : ∃ x s, rF 2 s2 = (x, s) := ⟨_, _, rfl⟩
  obtain ⟨z, s4, h4⟩ : ∃ x s, rF 2 s3 = (x, s) := ⟨_, _, rfl⟩
  obtain ⟨s5, h5⟩ : ∃ s, rMust [0] s4 = s := ⟨_, rfl⟩
  obtain ⟨u, s6, h6⟩ : ∃ x s, rF 2 s5 = (x, s) := ⟨_, _, rfl⟩
  obtain ⟨s7, h7⟩ : ∃ s, rO s6 = s := ⟨_, rfl⟩
  have hS : prepS l = if s7.2 = 0 then ((x % 4294967296, y % 65536, z % 65536, u % 65536), 0) else ((0, 0, 0, 0), s7.2) := by simp only [prepS, h1, h2, h3, h4, h5, h6, h7]
  have H2 := Lib.hid h2
  have H3 := Lib.hid h3
  have H4 := Lib.hid h4
  have H6 := Lib.hid h6
  have H7 := Lib.hid h7
  have H1 := Lib.hid ((rN_one _).trans h1)
  have H5 := Lib.hid ((rN_one _).trans h5)
  clear h1 h2 h3 h4 h5 h6 h7
  rw [hS]
  clear hS
  have tok3 : True := trivial
  have tok4 : True := trivial
  have tok5 : True := trivial
  by_cases he : s7.2 = 0
  · rw [if_pos he]
    have hb : (s7.2 == 0) = true := by simp [he]
    go_enter Try.func59, Try.ntmps59
    go_wp2_with fail
    generalize hW0 : w.alloc _ = W0
    have B0 : BoxF W0 w.heap.size [.int .u32 0, .int .u16 0, .int .u16 0, .int .u16 0] := by rw [← hW0]; exact BoxF.new _ _ _
    have hx0 : Ext w W0 := by rw [← hW0]; exact (Ext.refl w).alloc _
    have hsz : W0.heap.size = w.heap.size + 1 := by rw [← hW0]; simp
    clear hW0
    have R0 := Rdr.at (HR.out.ext hx0) 0 102 (w.heap.size + 1) hsz.symm
    go_wp2_with (first
      | (go_at_call 87; refine (zeros_r W0 _ (w.heap.size + 1) _ 1 _ R0 (by omega) H1.out).mono ?_; rintro e w1 ⟨rfl, R1, O1⟩; clear R0)
      | (go_at_call 82; refine (fixed_r W0 _ (w.heap.size + 1) _ 4 _ _ R1 (by omega) H2.out).mono ?_; rintro e w2 ⟨rfl, R2, O2⟩; clear R1)
      | ((with_reducible show wpList _ _ _ (⟨none, Op.store 34 _ _, _, _, _, _⟩ :: _) _ _); clear tok; have lt := R2.lt; refine wpl_store_box rfl _ _ _ rfl _ [.int .u32 (x % 4294967296), .int .u16 0, .int .u16 0, .int .u16 0] rfl rfl (BoxF.new _ _ _) rfl (by kernel_rfl) (by rfl) ?_; intro w3 B3 O3; have R3 := R2.grow (((Ext.refl _).alloc _).on O3 (Nat.le_refl _)); clear R2)
      | (go_at_call 82; refine (fixed_r W0 _ (w.heap.size + 1) _ 2 _ _ R3 (by omega) H3.out).mono ?_; rintro e w4 ⟨rfl, R4, O4⟩; have B4 := B3.on O4 (by omega); clear B3; clear R3)
      | ((with_reducible show wpList _ _ _ (⟨none, Op.store 26 _ _, _, _, _, _⟩ :: _) _ _); clear tok3; refine wpl_store_cell rfl _ _ _ rfl _ 1 (.int .u16 (y % 65536)) rfl rfl rfl rfl (by kernel_rfl) B4 (by simp) ?_; intro w5 B5' O5; have B5 := B5'; clear B4 B5'; have R5 := R4.on O5 (by omega) (by omega); clear R4)
      | (go_at_call 82; refine (fixed_r W0 _ (w.heap.size + 1) _ 2 _ _ R5 (by omega) H4.out).mono ?_; rintro e w6 ⟨rfl, R6, O6⟩; have B6 := B5.on O6 (by omega); clear B5; clear R5)
      | ((with_reducible show wpList _ _ _ (⟨none, Op.store 26 _ _, _, _, _, _⟩ :: _) _ _); clear tok4; refine wpl_store_cell rfl _ _ _ rfl _ 2 (.int .u16 (z % 65536)) rfl rfl rfl rfl (by kernel_rfl) B6 (by simp) ?_; intro w7 B7' O7; have B7 := B7'; clear B6 B7'; have R7 := R6.on O7 (by omega) (by omega); clear R6)
      | (go_at_call 87; refine (zeros_r W0 _ (w.heap.size + 1) _ 1 _ R7 (by omega) H5.out).mono ?_; rintro e w8 ⟨rfl, R8, O8⟩; have B8 := B7.on O8 (by omega); clear B7; clear R7)
      | (go_at_call 82; refine (fixed_r W0 _ (w.heap.size + 1) _ 2 _ _ R8 (by omega) H6.out).mono ?_; rintro e w9 ⟨rfl, R9, O9⟩; have B9 := B8.on O9 (by omega); clear B8; clear R8)
      | ((with_reducible show wpList _ _ _ (⟨none, Op.store 26 _ _, _, _, _, _⟩ :: _) _ _); clear tok5; refine wpl_store_cell rfl _ _ _ rfl _ 3 (.int .u16 (u % 65536)) rfl rfl rfl rfl (by kernel_rfl) B9 (by simp) ?_; intro w10 B10' O10; have B10 := B10'; clear B9 B10'; have R10 := R9.on O10 (by omega) (by omega); clear R9)
      | (go_at_call 85; refine (done_r W0 _ (w.heap.size + 1) _ _ R10 H7.out).mono ?_; rintro e w11 ⟨rfl, R11, O11⟩; have B11 := B10.on O11 (by omega); clear B10; clear R10; have c1 := R11.c1)
      | ((with_reducible show wpList _ _ _ (⟨some 37, _, _, _, _, _⟩ :: _) _ _); refine wpl_load_box rfl _ _ rfl _ rfl B11 Try.underlying34 rfl (by kernel_rfl) ?_)
      | ((with_reducible show wpList _ _ _ (⟨none, Op.store 34 _ _, _, _, _, _⟩ :: _) _ _); clear tok2; refine wpl_store_box rfl _ _ _ rfl _ [.int .u32 (x % 4294967296), .int .u16 (y % 65536), .int .u16 (z % 65536), .int .u16 (u % 65536)] rfl rfl (B0.ext R11.ext) rfl (by kernel_rfl) (by rfl) ?_; intro w9 B9 O9)
      | fail)
    try simp only [Exit.inBlock, Exit.then]
    refine ret_box rfl rfl rfl rfl B9 Try.underlying34 rfl (by kernel_rfl) ?_
    exact ⟨rfl, (hx0.trans R11.ext).on O9 (Nat.le_refl _)⟩
  · rw [if_neg he]
    have hb : (s7.2 == 0) = false := by simpa using he
    go_enter Try.func59, Try.ntmps59
    go_wp2_with fail
    generalize hW0 : w.alloc _ = W0
    have B0 : BoxF W0 w.heap.size [.int .u32 0, .int .u16 0, .int .u16 0, .int .u16 0] := by rw [← hW0]; exact BoxF.new _ _ _
    have hx0 : Ext w W0 := by rw [← hW0]; exact (Ext.refl w).alloc _
    have hsz : W0.heap.size = w.heap.size + 1 := by rw [← hW0]; simp
    clear hW0
    have R0 := Rdr.at (HR.out.ext hx0) 0 102 (w.heap.size + 1) hsz.symm
    go_wp2_with (first
      | (go_at_call 87; refine (zeros_r W0 _ (w.heap.size + 1) _ 1 _ R0 (by omega) H1.out).mono ?_; rintro e w1 ⟨rfl, R1, O1⟩; clear R0)
      | (go_at_call 82; refine (fixed_r W0 _ (w.heap.size + 1) _ 4 _ _ R1 (by omega) H2.out).mono ?_; rintro e w2 ⟨rfl, R2, O2⟩; clear R1)
      | ((with_reducible show wpList _ _ _ (⟨none, Op.store 34 _ _, _, _, _, _⟩ :: _) _ _); clear tok; have lt := R2.lt; refine wpl_store_box rfl _ _ _ rfl _ [.int .u32 (x % 4294967296), .int .u16 0, .int .u16 0, .int .u16 0] rfl rfl (BoxF.new _ _ _) rfl (by kernel_rfl) (by rfl) ?_; intro w3 B3 O3; have R3 := R2.grow (((Ext.refl _).alloc _).on O3 (Nat.le_refl _)); clear R2)
      | (go_at_call 82; refine (fixed_r W0 _ (w.heap.size + 1) _ 2 _ _ R3 (by omega) H3.out).mono ?_; rintro e w4 ⟨rfl, R4, O4⟩; have B4 := B3.on O4 (by omega); clear B3; clear R3)
      | ((with_reducible show wpList _ _ _ (⟨none, Op.store 26 _ _, _, _, _, _⟩ :: _) _ _); clear tok3; refine wpl_store_cell rfl _ _ _ rfl _ 1 (.int .u16 (y % 65536)) rfl rfl rfl rfl (by kernel_rfl) B4 (by simp) ?_; intro w5 B5' O5; have B5 := B5'; clear B4 B5'; have R5 := R4.on O5 (by omega) (by omega); clear R4)
      | (go_at_call 82; refine (fixed_r W0 _ (w.heap.size + 1) _ 2 _ _ R5 (by omega) H4.out).mono ?_; rintro e w6 ⟨rfl, R6, O6⟩; have B6 := B5.on O6 (by omega); clear B5; clear R5)
      | ((with_reducible show wpList _ _ _ (⟨none, Op.store 26 _ _, _, _, _, _⟩ :: _) _ _); clear tok4; refine wpl_store_cell rfl _ _ _ rfl _ 2 (.int .u16 (z % 65536)) rfl rfl rfl rfl (by kernel_rfl) B6 (by simp) ?_; intro w7 B7' O7; have B7 := B7'; clear B6 B7'; have R7 := R6.on O7 (by omega) (by omega); clear R6)
      | (go_at_call 87; refine (zeros_r W0 _ (w.heap.size + 1) _ 1 _ R7 (by omega) H5.out).mono ?_; rintro e w8 ⟨rfl, R8, O8⟩; have B8 := B7.on O8 (by omega); clear B7; clear R7)
      | (go_at_call 82; refine (fixed_r W0 _ (w.heap.size + 1) _ 2 _ _ R8 (by omega) H6.out).mono ?_; rintro e w9 ⟨rfl, R9, O9⟩; have B9 := B8.on O9 (by omega); clear B8; clear R8)
      | ((with_reducible show wpList _ _ _ (⟨none, Op.store 26 _ _, _, _, _, _⟩ :: _) _ _); clear tok5; refine wpl_store_cell rfl _ _ _ rfl _ 3 (.int .u16 (u % 65536)) rfl rfl rfl rfl (by kernel_rfl) B9 (by simp) ?_; intro w10 B10' O10; have B10 := B10'; clear B9 B10'; have R10 := R9.on O10 (by omega) (by omega); clear R9)
      | (go_at_call 85; refine (done_r W0 _ (w.heap.size + 1) _ _ R10 H7.out).mono ?_; rintro e w11 ⟨rfl, R11, O11⟩; have B11 := B10.on O11 (by omega); clear B10; clear R10; have c1 := R11.c1)
      | fail)
    have z0 := (B0.ext R11.ext).at (j := 0) (by rfl)
    have y0 := (B0.ext R11.ext).free 0 (by simp)
    have z1 := (B0.ext R11.ext).at (j := 1) (by rfl)
    have y1 := (B0.ext R11.ext).free 1 (by simp)
    have z2 := (B0.ext R11.ext).at (j := 2) (by rfl)
    have y2 := (B0.ext R11.ext).free 2 (by simp)
    have z3 := (B0.ext R11.ext).at (j := 3) (by rfl)
    have y3 := (B0.ext R11.ext).free 3 (by simp)
    go_region_held3 (fun W' => W'.cell? ⟨(w.heap.size + 1), 1, none⟩ = some (.int .i64 s7.2)) ((first | exact c1 | exact (On.sets _ 0 [.int .u32 0, .int .u16 0, .int .u16 0, .int .u16 0]).cell c1 (by simp) | fail)) (fail)
    go_wp2_with fail
    have B9 := (B0.ext R11.ext.drew).sets (ds := [.int .u32 0, .int .u16 0, .int .u16 0, .int .u16 0]) rfl
    have O9 := On.sets (g := w.heap.size) (World.drew w11) 0 [.int .u32 0, .int .u16 0, .int .u16 0, .int .u16 0]
    try simp only [Exit.inBlock, Exit.then]
    refine ret_box rfl rfl rfl rfl B9 Try.underlying34 rfl (by kernel_rfl) ?_
    exact ⟨rfl, (hx0.trans R11.ext.drew).on O9 (Nat.le_refl _)⟩

end Go.Proofs.Ytnlfcknpmemhfaa
