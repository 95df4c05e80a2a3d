/- The worked examples of the chapter on logins' responses. -/
import Derived.Test.YtimelnihiocngaaScrL
import Derived.Deep.QuietTactic
import Derived.BigQuiet
namespace Go.Proofs.Ytimelnihiocngaa
open Go.RowKit

def drawsL : List UInt8 := [0, 35, 253, 254, 0, 35, 253, 254, 0, 35, 253, 254, 0, 35, 253, 254, 0, 35, 253, 254]
theorem drawsL_take : ∀ k, k < 5 → drawsL.take (4 * (k + 1)) = drawsL.take (4 * k) ++ [0, 35, 253, 254] := by decide
theorem drawsL_nonce : ∀ k, k < 20 → (nonceP drawsL).getD k 0 = ([1, 37, 255, 1] : List UInt8).getD (k % 4) 0 := by decide
theorem right_n2 : rightP 2 [] nonceL [] = (true, 0) := by decide +kernel
theorem right_n1 : rightP 1 [] nonceL [7] = (false, 0) := by decide +kernel
theorem right_n3 : rightP 3 [] nonceL [] = (false, 2) := by decide +kernel
theorem right_n4 : rightP 1 (List.replicate 19 0) nonceL [] = (false, 5) := by decide +kernel
theorem check_bad : checkE (nonceL.set 3 36) = 2 := by decide
theorem check_short : checkE (nonceL.take 19) = 2 := by decide

theorem right_e (w : World) (kind : Int) (vs vn vr : Value) (s n r : List UInt8) (b : Bool) (er : Int) (hx : rightP kind s n r = (b, er)) (hs : Rd w vs s) (hn : Rd w vn n) (hr : Rd w vr r) :
    Calls Try.prog 29 #[.int .i64 kind, vs, vn, vr] w fun e w' => e = .returned (.tuple #[.bool b, .int .i64 er]) ∧ Ext w w' := right_c w kind vs vn vr s n r b er hs hn hr hx

/-- The nonce, its length known, its cells the call's own. -/
theorem nonce08_20 (w : World) : Calls Try.prog 27 #[] w fun e w' => ∃ g c, e = .returned (.slice (some ⟨g, 0, none⟩) 20 c) ∧ 20 ≤ c ∧ c ≤ maxLen ∧ w.heap.size ≤ g ∧ BoxF w' g (bc nonceL) ∧ Ext w w' := by
  refine (nonce08_c w).mono ?_
  rintro e w' ⟨v', rfl, h2, h3⟩
  obtain ⟨g, c, rfl, h4, h5, h6, h7⟩ := h2.cellsF (by decide)
  exact ⟨g, c, rfl, h4, h5, h6, h7, h3⟩

theorem nonceP_20 (w : World) (v : Value) (l : List UInt8) (hl : l.length = 20) (hr : Rd w v l) :
    Calls Try.prog 30 #[v] w fun e w' => ∃ A c, e = .returned (.tuple #[.slice A 20 c, .int .i64 0]) ∧ Rd w' (.slice A 20 c) (nonceP l) ∧ Ext w w' := by
  refine (nonce_c w v l hr).mono ?_
  rintro e w' ⟨v', rfl, h2, h3⟩
  obtain ⟨A, c, rfl⟩ := h2.rd.shape_n 20 (by unfold nonceP; rw [if_pos hl, List.length_map, hl])
  rw [show nonceE l = 0 by unfold nonceE; rw [if_pos hl]]
  exact ⟨A, c, rfl, h2.rd, h3⟩

section
variable {P : Program} {ops : Array Oper} {rest : List Oper} {o : Oper} {a : Act} {w : World} {Q : Exit → Act → World → Prop}
/-- An operation that yields a value, guarded or not. -/
theorem wpl_val_w (hw : Region.wanted o (yielded ops a.tmps) = true) {v : Value} {w' : World} (hrun : (execOp a.eval o).run P w = .ok (.value v) w') (h : wpList P ops Q rest (a.put o.dst v) w') : wpList P ops Q (o :: rest) a w :=
  wpList_step fun K hK => by
    rw [if_pos hw]
    unfold Oper.wp
    rw [hrun]
    exact hK _ _ h
/-- 's[:j]' of a slice at the head of a block. -/
theorem wpl_cut0 (hT : BT P) (g n cap j : Nat) (hj : j ≤ cap) (hw : Region.wanted o (yielded ops a.tmps) = true) (x hi : Operand) (k : IntKind) (ho : o.op = .slice 28 x none (some hi) none) (hx : a.eval x = .slice (some ⟨g, 0, none⟩) n cap) (J : Int) (hhi : a.eval hi = .int k J) (hJ : J = (j : Int))
    (h : wpList P ops Q rest (a.put o.dst (.slice (some ⟨g, 0, none⟩) j cap)) w) : wpList P ops Q (o :: rest) a w := by
  subst hJ
  refine wpl_val_w hw (v := .slice (some ⟨g, 0, none⟩) j cap) (w' := w) ?_ h
  unfold execOp
  have hb : (j : Int) ≤ (cap : Int) := by omega
  have h1 : (0 : Int) ≤ (j : Int) := by omega
  simp [ho, hx, hhi, Instr.sliceAt, Instr.slice, run_underlying hT.sl, Instr.sliceBounds, run_sliceBound, hb, h1, sizeOf_u8 hT, Addr.add]
end

set_option maxRecDepth 100000 in
set_option maxHeartbeats 4000000 in
theorem scrambleNames_c (w : World) : Calls Try.prog 7 #[] w fun e w' => e = .returned (.bool true) ∧ Ext w w' := by
  have hmk : ∀ w : World, (Instr.makeSlice 28 (.int .i64 19) (.int .i64 19)).run Try.prog w = .ok (.slice (some ⟨w.heap.size, 0, none⟩) 19 19) (w.alloc (.cells #[.int .u8 0, .int .u8 0, .int .u8 0, .int .u8 0, .int .u8 0, .int .u8 0, .int .u8 0, .int .u8 0, .int .u8 0, .int .u8 0, .int .u8 0, .int .u8 0, .int .u8 0, .int .u8 0, .int .u8 0, .int .u8 0, .int .u8 0, .int .u8 0, .int .u8 0] 5)) := fun _ => by kernel_rfl
  have HMK := Lib.hid hmk
  clear hmk
  have hy : Ext w w := Ext.refl w
  go_enter Try.func7, Try.ntmps7
  go_wp2_with (first
    | (go_at_call 27; have _t := tokB; refine (nonce08_20 _).mono ?_; rintro e wb ⟨gb, cb, rfl, hb1, hb2, hgb, Bb, hxb⟩; have hgw : w.heap.size ≤ gb := Nat.le_trans (Ext.size hy) hgb; have hyb := hy.trans hxb; clear tokB hy)
    | ((with_reducible show wpList _ _ _ (⟨none, Op.store _ _ _, _, _, _, _⟩ :: _) _ _); refine wpl_store_cell rfl _ _ _ rfl gb 3 (.int .u8 36) rfl rfl rfl rfl (by kernel_rfl) Bb (by decide) ?_; intro wc Bc Oc; rw [bc_set nonceL 3 36 36 rfl] at Bc; have hy := hyb.on Oc hgw; have tokC : True := trivial)
    | (go_at_call 27; have _t := tokC; refine (nonce08_20 _).mono ?_; rintro e wd ⟨gd, cd, rfl, hd1, hd2, _, Bd, hxd⟩; clear tokC)
    | (go_at_call 27; refine (nonce08_20 _).mono ?_; rintro e wn ⟨gn, cn, rfl, hn1, hn2, _, Bn, hxn⟩; have hy' := hy.trans hxn; clear hy; have hy := hy'; clear hy' hxn)
    | (go_at_call 26; refine (ntv_0 _ _ nonceL (Bn.rd rfl hn1 hn2) checkE_nonceL).mono ?_; rintro e wm ⟨Am, cm, rfl, hxm⟩; have hy' := hy.trans hxm; clear hy Bn; have hy := hy'; clear hy' hxm)
    | (go_at_call 28; refine (stored_0 _).mono ?_; rintro e wm ⟨As, cs, rfl, hxm⟩; have hy' := hy.trans hxm; clear hy; have hy := hy'; clear hy' hxm)
    | (go_at_call 29; (with_reducible show Calls _ _ #[Value.int .i64 2, _, _, _] _ _); refine (right_e _ 2 _ _ _ [] nonceL [] true 0 right_n2 (Rd.nil _) (Bn.rd rfl hn1 hn2) (Rd.nil _)).mono ?_; rintro e wm ⟨rfl, hxm⟩; have hy' := hy.trans hxm; clear hy Bn; have hy := hy'; clear hy' hxm)
    | (go_at_call 29; (with_reducible show Calls _ _ #[Value.int .i64 1, _, _, _] _ _); refine (right_e _ 1 _ _ _ [] nonceL [7] false 0 right_n1 (Rd.nil _) ((Bn.rd rfl hn1 hn2).ext ((Ext.refl _).alloc _)) (rd_lit wn _ [7] (by rfl) (by simp) 1 _ (by rfl) (by rfl))).mono ?_; rintro e wm ⟨rfl, hxm⟩; have hy' := (hy.alloc _).trans hxm; clear hy Bn; have hy := hy'; clear hy' hxm; have tokB : True := trivial)
    | (go_at_call 29; (with_reducible show Calls _ _ #[Value.int .i64 3, _, _, _] _ _); refine (right_e _ 3 _ _ _ [] nonceL [] false 2 right_n3 (Rd.nil _) (Bd.rd rfl hd1 hd2) (Rd.nil _)).mono ?_; rintro e we ⟨rfl, hxe⟩; have hye := hy.trans (hxd.trans hxe); have Be := Bc.ext (hxd.trans hxe); clear hy Bd Bc hxd hxe)
    | fail)
  have HBe := Lib.hid Be
  have HYE := Lib.hid hye
  clear Be hye hyb hxb
  generalize hq : we = w9
  have hmk := HMK.out
  subst hq
  go_region_held3 (fun W' => Ext we W')
    ((first | exact (Ext.refl _).drew | exact ((Ext.refl _).alloc _).drew | exact hyf | exact hyf.alloc _ | exact hyr | fail))
    (first
      | (go_at_call 27; go_must (refine (nonce08_20 _).mono ?_; rintro e wf ⟨gf, cf, rfl, hf1, hf2, _, Bf, hxf⟩; have hyf : Ext we wf := Ext.trans (by assumption) hxf))
      | (go_at_call 29; go_must (refine (right_e _ 1 _ _ _ (List.replicate 19 0) nonceL [] false 5 right_n4 ?_ ?_ (Rd.nil _)).mono ?_; (first | exact ((rd_lit we _ (List.replicate 19 0) (by rfl) (by simp) 19 _ (by rfl) (by rfl)).ext (Ext.refl _).drew).ext hxf | exact rd_lit wf _ (List.replicate 19 0) (by rfl) (by simp) 19 _ (by rfl) (by rfl)); (first | exact Bf.rd rfl hf1 hf2 | exact (Bf.rd rfl hf1 hf2).ext ((Ext.refl _).alloc _)); rintro e wr9 ⟨rfl, hxr⟩; have hyr : Ext we wr9 := Ext.trans (by assumption) hxr))
      | fail)
  all_goals
    have HYR := Lib.hid (HYE.out.trans hyr)
    have HB9 := Lib.hid (HBe.out.ext hyr)
    clear hmk HYE HBe HMK
    go_wp2_with fail
    have OW0 : Own wr9 wr9.heap.size (.slice none 0 0) (drawsL.take (4 * 0)) := Own.nil _ _
    go_loopw [11, 12] (fun v i W => ∃ k : Nat, k ≤ 5 ∧ i = .int .i64 k ∧ Own W wr9.heap.size v (drawsL.take (4 * k)) ∧ Ext wr9 W) (fun _ i _ => 5 - (intOf i).toNat)
    case atStart => exact ⟨0, Nat.zero_le _, rfl, OW0, Ext.refl _⟩
    case round =>
      clear OW0
      obtain ⟨k, hk, rfl, OW, hx⟩ := hrel
      by_cases hkN : k < 5
      · have hb : (k : Int) < 5 := by omega
        have ht := drawsL_take k hkN
        have hl : (drawsL.take (4 * k)).length + ([0, 35, 253, 254] : List UInt8).length ≤ 100000000 := by rw [List.length_take]; simp; omega
        have HT := Lib.hid ht
        have HL := Lib.hid hl
        clear ht hl
        go_wp2_with ((with_reducible show wpList _ _ _ (⟨some 87, _, _, _, _, _⟩ :: _) _ _); refine wpl_append_rd bt (OW.ext ((Ext.refl _).alloc _)) (rd_lit wr _ [0, 35, 253, 254] (by rfl) (by simp) 4 _ (by rfl) (by rfl)) rfl _ _ rfl rfl rfl HL.out (Ext.size (hx.alloc _)) ?_; intro v1 w1 ho hb1)
        rw [← HT.out] at ho
        go_roundw
        case rel => exact ⟨k + 1, by omega, by go_num, ho, (hx.alloc _).below hb1 (Nat.le_refl _)⟩
        case measure => simp [intOf]; omega
      · obtain rfl : k = 5 := by omega
        simp only [Int.cast_ofNat_Int]
        have hro := OW.rd
        rw [show drawsL.take (4 * 5) = drawsL from rfl] at hro
        go_wp2_with (go_at_call 30; refine (nonceP_20 _ _ drawsL rfl hro).mono ?_; rintro e wx ⟨Ax, cx, rfl, hrx, hxx⟩)
        have hwant := rd_lit wx #[.int .u8 1, .int .u8 37, .int .u8 255, .int .u8 1] [1, 37, 255, 1] (by rfl) (by simp) 4 _ (by rfl) (by rfl)
        have hrn := hrx.ext ((Ext.refl wx).alloc (.cells #[.int .u8 1, .int .u8 37, .int .u8 255, .int .u8 1] 5))
        have hxw := (hx.trans hxx).alloc (.cells #[.int .u8 1, .int .u8 37, .int .u8 255, .int .u8 1] 5)
        generalize hg : wx.heap.size = gx at hwant ⊢
        generalize hW0 : wx.alloc _ = W0 at hwant hrn hxw ⊢
        have HXW := Lib.hid hxw
        have HWN := Lib.hid hwant
        have HRN := Lib.hid hrn
        clear hW0 hg hxw hwant hrn hrx hxx hro OW hx
        go_loopw [9, 15] (fun f i W => ∃ k : Nat, k ≤ 20 ∧ i = .int .i64 k ∧ f = .bool true ∧ Ext W0 W) (fun _ i _ => 20 - (intOf i).toNat)
        case atStart => exact ⟨0, Nat.zero_le _, rfl, rfl, Ext.refl _⟩
        case round =>
          obtain ⟨k, hk, rfl, rfl, hx⟩ := hrel
          by_cases hkN : k < 20
          · have hb : (k : Int) < 20 := by omega
            obtain ⟨b0, o0, rfl, hn0, hc0⟩ := (HRN.out.ext hx).at_ (by omega)
            obtain ⟨b1, o1, hA1, hn1, hc1⟩ := (HWN.out.ext hx).at_ (by omega)
            cases hA1
            obtain ⟨j, hj⟩ : ∃ j, k % 4 = j := ⟨_, rfl⟩
            have hj4 : j < 4 := by omega
            have p := hc0 k hkN
            have q := hc1 j hj4
            rw [drawsL_nonce k hkN, hj] at p
            rw [Nat.zero_add] at q
            generalize ((([1, 37, 255, 1] : List UInt8).getD j 0).toNat : Int) = x at p q
            have hj1 : (k : Int).tmod 4 = (j : Int) := by rw [Int.tmod_eq_emod_of_nonneg (by omega)]; omega
            have hj2 : (k : Int) % 4 = (j : Int) := by omega
            have hj3 : (j : Int) < 4 := by omega
            clear hn0 hn1 hc0 hc1 hj
            go_wp2_with fail
            go_quiet (fail)
            go_wp2_with fail
            go_roundw
            case rel => exact ⟨k + 1, by omega, by go_num, rfl, by first | exact hx.drew | exact hx.drewN _ | exact hx⟩
            case measure => simp [intOf]; omega
          · obtain rfl : k = 20 := by omega
            simp only [Int.cast_ofNat_Int]
            go_wp2_with (first
              | (go_at_call 31; refine (lives08_c _).mono ?_; rintro e wl ⟨rfl, hxl⟩; have hyl := HYR.out.trans (HXW.out.trans (hx.trans hxl)); have hzl := HXW.out.trans (hx.trans hxl))
              | (go_at_call 27; refine (nonce08_20 _).mono ?_; rintro e wn ⟨gz, cz, rfl, hz1, hz2, _, Bz, hxz⟩; have hzi : (19 : Nat) ≤ cz := by omega)
              | ((with_reducible show wpList _ _ _ (⟨some 124, _, _, _, _, _⟩ :: _) _ _); refine wpl_cut0 bt gz 20 cz 19 hzi (by rfl) _ _ _ rfl rfl 19 rfl rfl ?_)
              | (go_at_call 32; (with_reducible show Calls _ _ #[Value.slice _ 19 _] _ _); refine (check_c _ _ (nonceL.take 19) 2 (by have := (Bz.rd rfl hz1 hz2).cut 0 19 (by omega) (by decide); rw [List.drop_zero, if_neg (by omega)] at this; simpa [Addr.add] using this) check_short).mono ?_; rintro e wk ⟨rfl, rfl⟩)
              | (go_at_call 32; refine (check_c _ _ (nonceL.set 3 36) 2 (((HB9.out.ext hzl).ext hxz).rd rfl hb1 hb2) check_bad).mono ?_; rintro e wk ⟨rfl, rfl⟩)
              | fail)
            go_ret
            exact ⟨rfl, hyl.trans hxz⟩
end Go.Proofs.Ytimelnihiocngaa
