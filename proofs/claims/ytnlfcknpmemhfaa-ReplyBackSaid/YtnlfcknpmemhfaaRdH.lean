/- What reads an ERR, both sides. (Printed by gen_rdH.py.) -/
import Derived.Test.YtnlfcknpmemhfaaRdG
namespace Go.Proofs.Ytnlfcknpmemhfaa
open Go.RowKit

theorem Rd.head {w : World} {b o n cap : Nat} {l : List UInt8} (h : Rd w (.slice (some ⟨b, o, none⟩) l.length cap) l) (hn : n ≤ l.length) : Rd w (.slice (some ⟨b, o, none⟩) n cap) (l.take n) := by
  obtain ⟨A, c, hv, h1, h2, h3, h4⟩ := h
  simp only [Value.slice.injEq] at hv
  obtain ⟨rfl, _, rfl⟩ := hv
  have hl : (l.take n).length = n := by rw [List.length_take]; omega
  refine ⟨_, cap, by rw [hl], by rw [hl]; omega, h2, (fun h => by cases h), fun hne => ⟨b, o, rfl, fun j hj => ?_⟩⟩
  rw [hl] at hj
  obtain ⟨b', o', hA, hc⟩ := h4 (by intro e; subst e; simp at hn; omega)
  simp only [Option.some.injEq, Addr.mk.injEq] at hA
  obtain ⟨rfl, rfl, _⟩ := hA
  rw [hc j (by omega), List.getD_eq_getElem?_getD, List.getD_eq_getElem?_getD, List.getElem?_take, if_pos hj]
theorem Rd.tail {w : World} {b o n cap : Nat} {l : List UInt8} (h : Rd w (.slice (some ⟨b, o, none⟩) l.length cap) l) (hn : n ≤ l.length) : Rd w (.slice (some ⟨b, o + n, none⟩) (l.length - n) (cap - n)) (l.drop n) := by
  obtain ⟨A, c, hv, h1, h2, h3, h4⟩ := h
  simp only [Value.slice.injEq] at hv
  obtain ⟨rfl, _, rfl⟩ := hv
  refine ⟨_, cap - n, by rw [List.length_drop], by rw [List.length_drop]; omega, by omega, (fun h => by cases h), fun hne => ⟨b, o + n, rfl, fun j hj => ?_⟩⟩
  rw [List.length_drop] at hj
  obtain ⟨b', o', hA, hc⟩ := h4 (by intro e; subst e; simp at hj)
  simp only [Option.some.injEq, Addr.mk.injEq] at hA
  obtain ⟨rfl, rfl, _⟩ := hA
  rw [Nat.add_assoc, hc (n + j) (by omega), List.getD_eq_getElem?_getD, List.getD_eq_getElem?_getD, List.getElem?_drop]

theorem Rd.tail0 {w : World} {b o n : Nat} {l : List UInt8} (hn : l.length = n) : Rd w (.slice (some ⟨b, o, none⟩) 0 0) (l.drop n) := by
  have h : l.drop n = [] := List.drop_eq_nil_of_le (by omega)
  rw [h]
  exact ⟨_, 0, rfl, Nat.le_refl _, by unfold maxLen; omega, fun h => (by cases h), fun h => absurd rfl h⟩

/-- An ERR that is read. -/
def errS (l : List UInt8) : (Int × List UInt8 × List UInt8) × Int :=
  let s1 := rMust [255] (l, 0)
  let s2 := (rF 2 s1).2
  let s3 := rMust [35] s2
  if s3.2 = 0 then (if s3.1.length < 5 then ((0, [], []), 4) else (((rF 2 s1).1 % 65536, s3.1.take 5, s3.1.drop 5), 0)) else ((0, [], []), s3.2)
def RetErr (w : World) (r : (Int × List UInt8 × List UInt8) × Int) (e : Ending) (w' : World) : Prop := e = .returned (.tuple #[.agg #[.int .u16 r.1.1, .string (strL r.1.2.1), .string (strL r.1.2.2)], .int .i64 r.2]) ∧ Ext w w'

set_option maxRecDepth 100000 in
set_option maxHeartbeats 2000000 in
theorem readErr_len (w : World) (v : Value) (l : List UInt8) (hr : Rd w v l) :
    Calls Try.prog 51 #[v] w (RetErr w (errS l)) := by
  obtain ⟨A0, cap0, hv, _, _, _, _⟩ := id hr
  have HR := Lib.hid hr
  clear hr
  subst hv
  have tok : True := trivial
  have tok2 : True := trivial
  obtain ⟨s1, h1⟩ : ∃ s, rMust [255] (l, 0) = s := ⟨_, rfl⟩
  obtain ⟨x, s2, h2⟩ : ∃ x s, rF 2 s1 = (x, s) := ⟨_, _, rfl⟩
  obtain ⟨l3, e3, h3⟩ : ∃ l e, rMust [35] s2 = (l, e) := ⟨_, _, rfl⟩
  have hS : errS l = if e3 = 0 then (if l3.length < 5 then ((0, [], []), 4) else ((x % 65536, l3.take 5, l3.drop 5), 0)) else ((0, [], []), e3) := by simp only [errS, h1, h2, h3]
  have H1 := Lib.hid h1
  have H2 := Lib.hid h2
  have H3 := Lib.hid h3
  clear h1 h2 h3
  rw [hS]
  clear hS
  by_cases he : e3 = 0
  · subst he
    rw [if_pos rfl]
    by_cases hl : l3.length < 5
    · rw [if_pos hl]
      go_enter Try.func51, Try.ntmps51
      go_wp2_with fail
      generalize hW0 : w.alloc _ = W0
      have B0 : BoxF W0 w.heap.size [.int .u16 0, .string ⟨#[]⟩, .string ⟨#[]⟩] := by rw [← hW0]; exact BoxF.new _ _ _
      have hx0 : Ext w W0 := by rw [← hW0]; exact (Ext.refl w).alloc _
      have hsz : W0.heap.size = w.heap.size + 1 := by rw [← hW0]; simp
      clear hW0
      have R0 := Rdr.at (HR.out.ext hx0) 0 93 (w.heap.size + 1) hsz.symm
      go_wp2_with (first
        | (go_at_call 73; refine (must_m W0 _ (w.heap.size + 1) _ _ [255] (R0.grow ((Ext.refl _).alloc _)) (rd_lit _ _ [255] (by rfl) (by simp) 1 _ (by rfl) (by simp [hsz])) (by simp [Value.ownBlock]) _ H1.out).mono ?_; rintro e w1 ⟨rfl, R1, O1⟩; clear R0)
        | (go_at_call 75; refine (fixed_m W0 _ (w.heap.size + 1) _ 2 _ _ R1 (by omega) H2.out).mono ?_; rintro e w2 ⟨rfl, R2, O2⟩; clear R1)
        | ((with_reducible show wpList _ _ _ (⟨none, Op.store 30 _ _, _, _, _, _⟩ :: _) _ _); clear tok; have lt := R2.lt; refine wpl_store_box rfl _ _ _ rfl _ [.int .u16 (x % 65536), .string ⟨#[]⟩, .string ⟨#[]⟩] rfl rfl (BoxF.new _ _ _) rfl (by kernel_rfl) (by rfl) ?_; intro w3 B3 O3; have R3 := R2.grow (((Ext.refl _).alloc _).on O3 (Nat.le_refl _)); clear R2)
        | (go_at_call 73; refine (must_m W0 _ (w.heap.size + 1) _ _ [35] (R3.grow ((Ext.refl _).alloc _)) (rd_lit _ _ [35] (by rfl) (by simp) 1 _ (by rfl) (by rfl)) (by simp [Value.ownBlock]; have := R3.lt; omega) _ H3.out).mono ?_; rintro e w4 ⟨rfl, R4, O4⟩; have B4 := (B3.ext ((Ext.refl _).alloc _)).on O4 (by omega); clear B3; clear R3; have c1 := R4.c1; have f1 := R4.f1; obtain ⟨v3, c0, hr3⟩ := R4.c0; have HR3 := Lib.hid hr3; obtain ⟨A3, cap3, rfl, z1, z2, z3, z4⟩ := hr3; clear z3 z4; dsimp only at c0 c1; unfold maxLen at z2; have c1' := World.cell?_setCell_same _ ⟨w.heap.size + 1, 1, none⟩ (.int .i64 4) c1)
        | fail)
      have R5 := R4.set1 4
      generalize hw : World.setCell w4 ⟨w.heap.size + 1, 1, none⟩ (.int .i64 4) = w5 at *
      have z0 := (B0.ext R5.ext).at (j := 0) (by rfl)
      have y0 := (B0.ext R5.ext).free 0 (by simp)
      have z1 := (B0.ext R5.ext).at (j := 1) (by rfl)
      have y1 := (B0.ext R5.ext).free 1 (by simp)
      have z2 := (B0.ext R5.ext).at (j := 2) (by rfl)
      have y2 := (B0.ext R5.ext).free 2 (by simp)
      go_region_held3 (fun W' => W'.cell? ⟨(w.heap.size + 1), 1, none⟩ = some (.int .i64 4)) ((first | exact c1' | exact (On.sets _ 0 [.int .u16 0, .string ⟨#[]⟩, .string ⟨#[]⟩]).cell c1' (by simp) | fail)) (fail)
      go_wp2_with fail
      have B9 := (B0.ext R5.ext.drew).sets (ds := [.int .u16 0, .string ⟨#[]⟩, .string ⟨#[]⟩]) rfl
      have O9 := On.sets (g := w.heap.size) (World.drew w5) 0 [.int .u16 0, .string ⟨#[]⟩, .string ⟨#[]⟩]
      try simp only [Exit.inBlock, Exit.then]
      refine ret_box rfl rfl rfl rfl B9 Try.underlying30 rfl (by kernel_rfl) ?_
      exact ⟨rfl, (hx0.trans R5.ext.drew).on O9 (Nat.le_refl _)⟩
    · rw [if_neg hl]
      go_enter Try.func51, Try.ntmps51
      go_wp2_with fail
      generalize hW0 : w.alloc _ = W0
      have B0 : BoxF W0 w.heap.size [.int .u16 0, .string ⟨#[]⟩, .string ⟨#[]⟩] := by rw [← hW0]; exact BoxF.new _ _ _
      have hx0 : Ext w W0 := by rw [← hW0]; exact (Ext.refl w).alloc _
      have hsz : W0.heap.size = w.heap.size + 1 := by rw [← hW0]; simp
      clear hW0
      have R0 := Rdr.at (HR.out.ext hx0) 0 93 (w.heap.size + 1) hsz.symm
      go_wp2_with (first
        | (go_at_call 73; refine (must_m W0 _ (w.heap.size + 1) _ _ [255] (R0.grow ((Ext.refl _).alloc _)) (rd_lit _ _ [255] (by rfl) (by simp) 1 _ (by rfl) (by simp [hsz])) (by simp [Value.ownBlock]) _ H1.out).mono ?_; rintro e w1 ⟨rfl, R1, O1⟩; clear R0)
        | (go_at_call 75; refine (fixed_m W0 _ (w.heap.size + 1) _ 2 _ _ R1 (by omega) H2.out).mono ?_; rintro e w2 ⟨rfl, R2, O2⟩; clear R1)
        | ((with_reducible show wpList _ _ _ (⟨none, Op.store 30 _ _, _, _, _, _⟩ :: _) _ _); clear tok; have lt := R2.lt; refine wpl_store_box rfl _ _ _ rfl _ [.int .u16 (x % 65536), .string ⟨#[]⟩, .string ⟨#[]⟩] rfl rfl (BoxF.new _ _ _) rfl (by kernel_rfl) (by rfl) ?_; intro w3 B3 O3; have R3 := R2.grow (((Ext.refl _).alloc _).on O3 (Nat.le_refl _)); clear R2)
        | (go_at_call 73; refine (must_m W0 _ (w.heap.size + 1) _ _ [35] (R3.grow ((Ext.refl _).alloc _)) (rd_lit _ _ [35] (by rfl) (by simp) 1 _ (by rfl) (by rfl)) (by simp [Value.ownBlock]; have := R3.lt; omega) _ H3.out).mono ?_; rintro e w4 ⟨rfl, R4, O4⟩; have B4 := (B3.ext ((Ext.refl _).alloc _)).on O4 (by omega); clear B3; clear R3; have c1 := R4.c1; have f1 := R4.f1; obtain ⟨v3, c0, hr3⟩ := R4.c0; have HR3 := Lib.hid hr3; obtain ⟨A3, cap3, rfl, z1, z2, z3, z4⟩ := hr3; have zz := z4; clear z3 z4; dsimp only at c0 c1; unfold maxLen at z2)
        | fail)
      obtain ⟨b3, o3, rfl, hcs⟩ := zz (by intro h; subst h; simp at hl)
      clear hcs zz
      have g1 : (5 : Int) ≤ (l3.length : Int) := by omega
      have g2 : (5 : Int) ≤ (cap3 : Int) := by omega
      have p0 := B4.at (j := 0) (by rfl)
      have q0 := B4.free 0 (by simp)
      have p1 := B4.at (j := 1) (by rfl)
      have q1 := B4.free 1 (by simp)
      have p2 := B4.at (j := 2) (by rfl)
      have q2 := B4.free 2 (by simp)
      have BA : BoxF _ w2.heap.size [.int .u16 (x % 65536), .string (strL (l3.take 5)), .string (strL (l3.drop 5))] := ((B4.set 1 (.string (strL (l3.take 5)))).set 2 (.string (strL (l3.drop 5)))).ext (Ext.refl _).drew
      have BB : BoxF _ w2.heap.size [.int .u16 (x % 65536), .string (strL (l3.take 5)), .string (strL (l3.drop 5))] := ((B4.set 2 (.string (strL (l3.drop 5)))).set 1 (.string (strL (l3.take 5)))).ext (Ext.refl _).drew
      have hlt0 : W0.heap.size ≤ w2.heap.size := by omega
      have EA := ((R4.ext.setCell (p := ⟨w2.heap.size, 1, none⟩) hlt0 (.string (strL (l3.take 5)))).setCell (p := ⟨w2.heap.size, 2, none⟩) hlt0 (.string (strL (l3.drop 5)))).drew
      have EB := ((R4.ext.setCell (p := ⟨w2.heap.size, 2, none⟩) hlt0 (.string (strL (l3.drop 5)))).setCell (p := ⟨w2.heap.size, 1, none⟩) hlt0 (.string (strL (l3.take 5)))).drew
      have hlt0 : W0.heap.size ≤ w2.heap.size := by omega
      by_cases hc5 : cap3 = 5
      · subst hc5
        have hl5 : l3.length = 5 := by omega
        have HL5 := Lib.hid hl5
        clear hl5
        have t1 := fun (W' : World) (h : Ext W0 W') => run_str W' bt ((Rd.head HR3.out (n := 5) (by omega)).ext h)
        have t2 := fun (W' : World) (h : Ext W0 W') => run_str W' bt ((Rd.tail0 (w := W0) (b := b3) (o := o3) (n := 5) HL5.out).ext h)
        go_region_held3 (fun W' => W'.cell? ⟨w.heap.size + 1, 0, none⟩ = some (.slice (some ⟨b3, o3, none⟩) l3.length 5) ∧ Ext W0 W') ((first | exact ⟨c0, R4.ext.drew⟩ | exact ⟨((On.refl w2.heap.size _).set 1 _).cell c0 (by simp; omega), (R4.ext.setCell (p := ⟨w2.heap.size, 1, none⟩) hlt0 _).drew⟩ | exact ⟨((On.refl w2.heap.size _).set 2 _).cell c0 (by simp; omega), (R4.ext.setCell (p := ⟨w2.heap.size, 2, none⟩) hlt0 _).drew⟩ | exact ⟨(((On.refl w2.heap.size _).set 1 _).set 2 _).cell c0 (by simp; omega), ((R4.ext.setCell (p := ⟨w2.heap.size, 1, none⟩) hlt0 _).setCell (p := ⟨w2.heap.size, 2, none⟩) hlt0 _).drew⟩ | exact ⟨(((On.refl w2.heap.size _).set 2 _).set 1 _).cell c0 (by simp; omega), ((R4.ext.setCell (p := ⟨w2.heap.size, 2, none⟩) hlt0 _).setCell (p := ⟨w2.heap.size, 1, none⟩) hlt0 _).drew⟩ | fail))
          (fail)
        all_goals
          go_wp2_with (first
            | ((with_reducible show wpList _ _ _ (⟨some 59, _, _, _, _, _⟩ :: _) _ _); first | refine wpl_load_box rfl _ _ rfl _ rfl BA Try.underlying30 rfl (by kernel_rfl) ?_ | refine wpl_load_box rfl _ _ rfl _ rfl BB Try.underlying30 rfl (by kernel_rfl) ?_)
            | ((with_reducible show wpList _ _ _ (⟨none, Op.store 30 _ _, _, _, _, _⟩ :: _) _ _); clear tok2; first | (refine wpl_store_box rfl _ _ _ rfl _ [.int .u16 (x % 65536), .string (strL (l3.take 5)), .string (strL (l3.drop 5))] rfl rfl (B0.ext EA) rfl (by kernel_rfl) (by rfl) ?_; intro w9 B9 O9; have ok9 := (hx0.trans EA).on O9 (Nat.le_refl _)) | (refine wpl_store_box rfl _ _ _ rfl _ [.int .u16 (x % 65536), .string (strL (l3.take 5)), .string (strL (l3.drop 5))] rfl rfl (B0.ext EB) rfl (by kernel_rfl) (by rfl) ?_; intro w9 B9 O9; have ok9 := (hx0.trans EB).on O9 (Nat.le_refl _)))
            | fail)
          try simp only [Exit.inBlock, Exit.then]
          refine ret_box rfl rfl rfl rfl B9 Try.underlying30 rfl (by kernel_rfl) ?_
          exact ⟨rfl, ok9⟩
      · have t1 := fun (W' : World) (h : Ext W0 W') => run_str W' bt ((Rd.head HR3.out (n := 5) (by omega)).ext h)
        have t2 := fun (W' : World) (h : Ext W0 W') => run_str W' bt ((Rd.tail HR3.out (n := 5) (by omega)).ext h)
        go_region_held3 (fun W' => W'.cell? ⟨w.heap.size + 1, 0, none⟩ = some (.slice (some ⟨b3, o3, none⟩) l3.length cap3) ∧ Ext W0 W') ((first | exact ⟨c0, R4.ext.drew⟩ | exact ⟨((On.refl w2.heap.size _).set 1 _).cell c0 (by simp; omega), (R4.ext.setCell (p := ⟨w2.heap.size, 1, none⟩) hlt0 _).drew⟩ | exact ⟨((On.refl w2.heap.size _).set 2 _).cell c0 (by simp; omega), (R4.ext.setCell (p := ⟨w2.heap.size, 2, none⟩) hlt0 _).drew⟩ | exact ⟨(((On.refl w2.heap.size _).set 1 _).set 2 _).cell c0 (by simp; omega), ((R4.ext.setCell (p := ⟨w2.heap.size, 1, none⟩) hlt0 _).setCell (p := ⟨w2.heap.size, 2, none⟩) hlt0 _).drew⟩ | exact ⟨(((On.refl w2.heap.size _).set 2 _).set 1 _).cell c0 (by simp; omega), ((R4.ext.setCell (p := ⟨w2.heap.size, 2, none⟩) hlt0 _).setCell (p := ⟨w2.heap.size, 1, none⟩) hlt0 _).drew⟩ | fail))
          (fail)
        all_goals
          go_wp2_with (first
            | ((with_reducible show wpList _ _ _ (⟨some 59, _, _, _, _, _⟩ :: _) _ _); first | refine wpl_load_box rfl _ _ rfl _ rfl BA Try.underlying30 rfl (by kernel_rfl) ?_ | refine wpl_load_box rfl _ _ rfl _ rfl BB Try.underlying30 rfl (by kernel_rfl) ?_)
            | ((with_reducible show wpList _ _ _ (⟨none, Op.store 30 _ _, _, _, _, _⟩ :: _) _ _); clear tok2; first | (refine wpl_store_box rfl _ _ _ rfl _ [.int .u16 (x % 65536), .string (strL (l3.take 5)), .string (strL (l3.drop 5))] rfl rfl (B0.ext EA) rfl (by kernel_rfl) (by rfl) ?_; intro w9 B9 O9; have ok9 := (hx0.trans EA).on O9 (Nat.le_refl _)) | (refine wpl_store_box rfl _ _ _ rfl _ [.int .u16 (x % 65536), .string (strL (l3.take 5)), .string (strL (l3.drop 5))] rfl rfl (B0.ext EB) rfl (by kernel_rfl) (by rfl) ?_; intro w9 B9 O9; have ok9 := (hx0.trans EB).on O9 (Nat.le_refl _)))
            | fail)
          try simp only [Exit.inBlock, Exit.then]
          refine ret_box rfl rfl rfl rfl B9 Try.underlying30 rfl (by kernel_rfl) ?_
          exact ⟨rfl, ok9⟩
  · rw [if_neg he]
    have hb : (e3 == 0) = false := by simpa using he
    go_enter Try.func51, Try.ntmps51
    go_wp2_with fail
    generalize hW0 : w.alloc _ = W0
    have B0 : BoxF W0 w.heap.size [.int .u16 0, .string ⟨#[]⟩, .string ⟨#[]⟩] := by rw [← hW0]; exact BoxF.new _ _ _
    have hx0 : Ext w W0 := by rw [← hW0]; exact (Ext.refl w).alloc _
    have hsz : W0.heap.size = w.heap.size + 1 := by rw [← hW0]; simp
    clear hW0
    have R0 := Rdr.at (HR.out.ext hx0) 0 93 (w.heap.size + 1) hsz.symm
    go_wp2_with (first
      | (go_at_call 73; refine (must_m W0 _ (w.heap.size + 1) _ _ [255] (R0.grow ((Ext.refl _).alloc _)) (rd_lit _ _ [255] (by rfl) (by simp) 1 _ (by rfl) (by simp [hsz])) (by simp [Value.ownBlock]) _ H1.out).mono ?_; rintro e w1 ⟨rfl, R1, O1⟩; clear R0)
      | (go_at_call 75; refine (fixed_m W0 _ (w.heap.size + 1) _ 2 _ _ R1 (by omega) H2.out).mono ?_; rintro e w2 ⟨rfl, R2, O2⟩; clear R1)
      | ((with_reducible show wpList _ _ _ (⟨none, Op.store 30 _ _, _, _, _, _⟩ :: _) _ _); clear tok; have lt := R2.lt; refine wpl_store_box rfl _ _ _ rfl _ [.int .u16 (x % 65536), .string ⟨#[]⟩, .string ⟨#[]⟩] rfl rfl (BoxF.new _ _ _) rfl (by kernel_rfl) (by rfl) ?_; intro w3 B3 O3; have R3 := R2.grow (((Ext.refl _).alloc _).on O3 (Nat.le_refl _)); clear R2)
      | (go_at_call 73; refine (must_m W0 _ (w.heap.size + 1) _ _ [35] (R3.grow ((Ext.refl _).alloc _)) (rd_lit _ _ [35] (by rfl) (by simp) 1 _ (by rfl) (by rfl)) (by simp [Value.ownBlock]; have := R3.lt; omega) _ H3.out).mono ?_; rintro e w4 ⟨rfl, R4, O4⟩; have B4 := (B3.ext ((Ext.refl _).alloc _)).on O4 (by omega); clear B3; clear R3; have c1 := R4.c1; have f1 := R4.f1; obtain ⟨v3, c0, hr3⟩ := R4.c0; have HR3 := Lib.hid hr3; obtain ⟨A3, cap3, rfl, z1, z2, z3, z4⟩ := hr3; clear z3 z4; dsimp only at c0 c1; unfold maxLen at z2)
      | fail)
    have z0 := (B0.ext R4.ext).at (j := 0) (by rfl)
    have y0 := (B0.ext R4.ext).free 0 (by simp)
    have z1 := (B0.ext R4.ext).at (j := 1) (by rfl)
    have y1 := (B0.ext R4.ext).free 1 (by simp)
    have z2 := (B0.ext R4.ext).at (j := 2) (by rfl)
    have y2 := (B0.ext R4.ext).free 2 (by simp)
    go_region_held3 (fun W' => W'.cell? ⟨(w.heap.size + 1), 1, none⟩ = some (.int .i64 e3)) ((first | exact c1 | exact (On.sets _ 0 [.int .u16 0, .string ⟨#[]⟩, .string ⟨#[]⟩]).cell c1 (by simp) | fail)) (fail)
    go_wp2_with fail
    have B9 := (B0.ext R4.ext.drew).sets (ds := [.int .u16 0, .string ⟨#[]⟩, .string ⟨#[]⟩]) rfl
    have O9 := On.sets (g := w.heap.size) (World.drew w4) 0 [.int .u16 0, .string ⟨#[]⟩, .string ⟨#[]⟩]
    try simp only [Exit.inBlock, Exit.then]
    refine ret_box rfl rfl rfl rfl B9 Try.underlying30 rfl (by kernel_rfl) ?_
    exact ⟨rfl, (hx0.trans R4.ext.drew).on O9 (Nat.le_refl _)⟩

end Go.Proofs.Ytnlfcknpmemhfaa
