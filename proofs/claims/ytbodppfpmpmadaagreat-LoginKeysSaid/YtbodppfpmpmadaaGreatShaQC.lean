import Derived.Test.YtbodppfpmpmadaaGreatShaPC
namespace Go.Proofs.YtbodppfpmpmadaaGreat
open Go.RowKit

theorem cell_ds {W : World} {g t a : Nat} {V u : Value} (h : a ≠ t) (c : W.cell? ⟨g, a, none⟩ = some u) : (World.drew (World.drew (W.setCell ⟨g, t, none⟩ V))).cell? ⟨g, a, none⟩ = some u :=
  (World.cell?_setCell_other _ _ _ _ (by simp <;> omega)).trans c
theorem rf2_length (p : List UInt8) : ∀ n, (rf 2 (start 2) p n).length = 8 := rf_length 2 (start 2) p (start_length 2)

set_option maxRecDepth 100000 in
set_option maxHeartbeats 1000000 in
theorem constants_r (w : World) : Calls Tryz.prog 216 #[] w fun e w' => ∃ g, e = .returned (.slice (some ⟨g, 0, none⟩) 64 64) ∧ w.heap.size ≤ g ∧ BoxF w' g (wc K2) ∧ Ext w w' := by
  go_enter Tryz.func216, Tryz.ntmps216
  go_wp2_with fail
  go_ret
  exact ⟨_, rfl, Nat.le_refl _, BoxF.new w (wc K2) _, (Ext.refl _).alloc _⟩

set_option maxRecDepth 100000 in
set_option maxHeartbeats 4000000 in
theorem sum256_r (w : World) (v : Value) (l : List UInt8) (hr : Rd w v l) (hl : l.length ≤ 1000000) :
    Calls Tryz.prog 206 #[v] w fun e w' => ∃ v', e = .returned v' ∧ Own w' w.heap.size v' (sumP 2 l) ∧ Ext w w' := by
  have HR := Lib.hid hr
  clear hr
  obtain ⟨M, hM⟩ := padL_length l
  rw [sumP_2 l M hM]
  have hPl : (padL l).length ≤ 1000100 := by
    have h : (padL l).length = l.length + 1 + leftN ((l.length + 1) % 64) + 8 := by simp [padL, tailH]; omega
    have : leftN ((l.length + 1) % 64) < 64 := by unfold leftN; omega
    omega
  generalize hP : padL l = P at hM hPl ⊢
  have HPP := Lib.hid hP
  clear hP
  have hmk : ∀ w : World, (Instr.makeSlice 189 (.int .i64 64) (.int .i64 64)).run Tryz.prog w = .ok (.slice (some ⟨w.heap.size, 0, none⟩) 64 64) (w.alloc (.cells (arrC [] 64).toArray 25)) := fun _ => by kernel_rfl
  go_enter Tryz.func206, Tryz.ntmps206
  go_wp2_with (first
    | (go_at_call 216; refine (constants_r _).mono ?_; rintro e w0 ⟨gk, rfl, hgk, Bk0, hx0⟩)
    | (go_at_call 211; refine (padded_r _ _ l ((HR.out.ext ((Ext.refl w).alloc _)).ext hx0) hl).mono ?_; rintro e w1 ⟨vp, rfl, ho1, hx1⟩)
    | fail)
  rw [HPP.out] at ho1
  have Bh1 : BoxF w1 w.heap.size (wc (rf 2 (start 2) P 0)) := ((BoxF.new w (wc (start 2)) 25).ext hx0).ext hx1
  have hxw1 := (((Ext.refl w).alloc _).trans hx0).trans hx1
  have Bk1 := Bk0.ext hx1
  have hgk2 : gk ≠ w.heap.size := by simp at hgk; omega
  have HGK := Lib.hid hgk2
  have hw0 : w.heap.size + 1 ≤ w0.heap.size := by have := Ext.size hx0; simp at this; omega
  clear hgk hgk2 Bk0
  obtain ⟨Ap, cp, rfl, hlep, hmp, hzp⟩ := ho1.rd
  clear hzp
  have hnp : (Value.slice Ap P.length cp).ownBlock ≠ some w.heap.size := fun e => by
    have := (World.ownsRow.lt ho1 _ e).1
    omega
  have hRp1 := ho1.rd
  have HNP := Lib.hid hnp
  have HM := Lib.hid hM
  clear hnp ho1 hx1 hM hx0 hw0
  go_loopw [6, 7, 8, 9, 10, 11, 12, 13, 14, 15] (fun at_ _ _ _ _ _ _ _ _ _ W => ∃ k : Nat, k ≤ M ∧ at_ = .int .i64 ((64 * k : Nat) : Int) ∧ BoxF W w.heap.size (wc (rf 2 (start 2) P k)) ∧ Rd W (.slice Ap P.length cp) P ∧ Ext w W ∧ BoxF W gk (wc K2)) (fun at_ _ _ _ _ _ _ _ _ _ _ => P.length - (intOf at_).toNat)
  case atStart => exact ⟨0, Nat.zero_le _, rfl, Bh1, hRp1, hxw1, Bk1⟩
  case round =>
    clear Bh1 hRp1 hxw1 Bk1
    obtain ⟨k, hk, rfl, Bh, Rp, hx, Bk⟩ := hrel
    have HBk := Lib.hid Bk
    clear Bk
    obtain ⟨q, hq⟩ : ∃ q, q = 64 * k := ⟨_, rfl⟩
    rw [← hq]
    have HQ := Lib.hid hq
    have HBh := Lib.hid Bh
    have HRp := Lib.hid Rp
    have HX := Lib.hid hx
    have hgl : w.heap.size < wr.heap.size := Bh.lt
    have HGL := Lib.hid hgl
    clear Bh Rp hx hgl
    by_cases hkM : k < M
    · have hqi : (q : Int) < (P.length : Int) := by have := HM.out; omega
      have hq64 : q + 64 ≤ P.length := by have := HM.out; omega
      clear hq
      go_wp2_with fail
      have Bw0 : BoxF (wr.alloc (.cells (arrC [] 64).toArray 25)) wr.heap.size (arrC [] 64) := BoxF.new wr _ _
      have hxw0 : Ext wr (wr.alloc (.cells (arrC [] 64).toArray 25)) := (Ext.refl wr).alloc _
      generalize wr.alloc (.cells (arrC [] 64).toArray 25) = W2 at Bw0 hxw0 ⊢
      obtain ⟨gw, hgw⟩ : ∃ g, g = wr.heap.size := ⟨_, rfl⟩
      rw [← hgw] at Bw0 ⊢
      have HGW := Lib.hid hgw
      clear hgw
      obtain ⟨blk, hblk⟩ : ∃ b, b = P.drop q := ⟨_, rfl⟩
      have hblen : 64 ≤ blk.length := by rw [hblk, List.length_drop]; omega
      have HBLK := Lib.hid hblk
      clear hblk
      go_loopw [8, 9, 10] (fun i _ _ W => ∃ t : Nat, t ≤ 64 ∧ i = .int .i64 t ∧ BoxF W gw (arrC (sch2 blk t) 64) ∧ Ext wr W) (fun i _ _ _ => 64 - (intOf i).toNat)
      case atStart => exact ⟨0, Nat.zero_le _, rfl, Bw0, hxw0⟩
      case round =>
        clear Bw0 hxw0
        obtain ⟨t, ht, rfl, B, hx2⟩ := hrel
        have HX2 := Lib.hid hx2
        have HB := Lib.hid B
        clear hx2
        by_cases h16 : t < 16
        · as_aux_lemma =>
            have hlen := sch2_length blk t
            have hti : (t : Int) < 16 := by omega
            go_wp2_with (first
              | ((with_reducible show AtS 37); refine wpl_slice_lo bt (HRp.out.ext HX2.out) (q : Int) (by omega) (by omega) rfl _ _ _ rfl rfl rfl ?_; intro v3 hr3; rw [Int.toNat_natCast, ← HBLK.out] at hr3)
              | (go_at_call 212; refine (word_r _ _ blk t (4 * t) hr3 rfl (by omega)).mono ?_; rintro e w4 ⟨rfl, hx4⟩; have B4 := HB.out.ext hx4)
              | ((with_reducible show wpList _ _ _ (⟨none, Op.store _ _ _, _, _, _, _⟩ :: _) _ _); refine wpl_store_cell rfl _ _ _ rfl gw t (.int .u32 (wordS (blk.getD (4 * t) 0) (blk.getD (4 * t + 1) 0) (blk.getD (4 * t + 2) 0) (blk.getD (4 * t + 3) 0))) rfl rfl rfl rfl (by kernel_rfl) B4 (by rw [arrC_length _ _ (by omega)]; omega) ?_; intro w5 B5 O5)
              | fail)
            have e := arrC_set (sch2 blk t) 64 (wordS (blk.getD (4 * t) 0) (blk.getD (4 * t + 1) 0) (blk.getD (4 * t + 2) 0) (blk.getD (4 * t + 3) 0)) (by omega)
            rw [hlen] at e
            rw [e] at B5
            have e2 : sch2 blk (t + 1) = sch2 blk t ++ [wordS (blk.getD (4 * t) 0) (blk.getD (4 * t + 1) 0) (blk.getD (4 * t + 2) 0) (blk.getD (4 * t + 3) 0)] := by rw [sch2, if_pos h16]
            go_roundw
            case rel => exact ⟨t + 1, by omega, by go_num, by rw [e2]; exact B5, (HX2.out.trans hx4).on O5 (by rw [HGW.out]; exact Nat.le_refl _)⟩
            case measure => simp [intOf]; omega
        · by_cases h64 : t < 64
          · as_aux_lemma =>
              have hlen := sch2_length blk t
              obtain ⟨a2, ha2⟩ : ∃ a2, a2 = t - 2 := ⟨_, rfl⟩
              obtain ⟨a7, ha7⟩ : ∃ a7, a7 = t - 7 := ⟨_, rfl⟩
              obtain ⟨a15, ha15⟩ : ∃ a15, a15 = t - 15 := ⟨_, rfl⟩
              obtain ⟨a16, ha16⟩ : ∃ a16, a16 = t - 16 := ⟨_, rfl⟩
              have m2 : IntKind.i64.wrap ((t : Int) - 2) = (a2 : Int) := by rw [IntKind.wrap_i64]; omega
              have m7 : IntKind.i64.wrap ((t : Int) - 7) = (a7 : Int) := by rw [IntKind.wrap_i64]; omega
              have m15 : IntKind.i64.wrap ((t : Int) - 15) = (a15 : Int) := by rw [IntKind.wrap_i64]; omega
              have m16 : IntKind.i64.wrap ((t : Int) - 16) = (a16 : Int) := by rw [IntKind.wrap_i64]; omega
              have b2 : (a2 : Int) < 64 := by omega
              have b7 : (a7 : Int) < 64 := by omega
              have b15 : (a15 : Int) < 64 := by omega
              have b16 : (a16 : Int) < 64 := by omega
              have n2 : a2 < 64 := by omega
              have n7 : a7 < 64 := by omega
              have n15 : a15 < 64 := by omega
              have n16 : a16 < 64 := by omega
              have e2 : sch2 blk (t + 1) = sch2 blk t ++ [add32 (add32 (add32 (sg1 ((sch2 blk t).getD a2 0)) ((sch2 blk t).getD a7 0)) (sg0 ((sch2 blk t).getD a15 0))) ((sch2 blk t).getD a16 0)] := by
                rw [sch2, if_neg h16, ha2, ha7, ha15, ha16]
              have c2 := B.at (arrC_get (sch2 blk t) 64 a2 (by omega))
              have c7 := B.at (arrC_get (sch2 blk t) 64 a7 (by omega))
              have c15 := B.at (arrC_get (sch2 blk t) 64 a15 (by omega))
              have c16 := B.at (arrC_get (sch2 blk t) 64 a16 (by omega))
              generalize (sch2 blk t).getD a2 0 = x2 at c2 e2
              generalize (sch2 blk t).getD a7 0 = x7 at c7 e2
              generalize (sch2 blk t).getD a15 0 = x15 at c15 e2
              generalize (sch2 blk t).getD a16 0 = x16 at c16 e2
              have hz : wr.cell? ⟨gw, t, none⟩ = some (.int .u32 0) := by
                refine B.at ?_
                rw [arrC, List.getElem?_map, List.getElem?_append_right (by omega), hlen, Nat.sub_self]
                obtain ⟨q, hq⟩ : ∃ q, 64 - t = q + 1 := ⟨64 - t - 1, by omega⟩
                rw [hq]
                rfl
              have hf := B.free t (by rw [arrC_length _ _ (by omega)]; omega)
              have d2 : (World.drew wr).cell? ⟨gw, a2, none⟩ = some (.int .u32 x2) := c2
              have d15 : (World.drew wr).cell? ⟨gw, a15, none⟩ = some (.int .u32 x15) := c15
              have d7 : (World.drew (World.drew wr)).cell? ⟨gw, a7, none⟩ = some (.int .u32 x7) := c7
              have d16 : (World.drew (World.drew wr)).cell? ⟨gw, a16, none⟩ = some (.int .u32 x16) := c16
              have l7 : a7 ≠ t := by omega
              have l16 : a16 ≠ t := by omega
              have hti : (16 : Int) ≤ (t : Int) := by omega
              have htj : (t : Int) < 64 := by omega
              clear ha2 ha7 ha15 ha16
              go_wp2_with fail
              go_region_held3 (fun W' => W'.cell? ⟨gw, a2, none⟩ = some (.int .u32 x2) ∧ W'.cell? ⟨gw, a15, none⟩ = some (.int .u32 x15))
                ((first | (with_reducible exact ⟨d2, d15⟩) | fail)) (fail)
              go_wp2_with fail
              go_region_held3 (fun W' => W'.cell? ⟨gw, a7, none⟩ = some (.int .u32 x7) ∧ W'.cell? ⟨gw, a16, none⟩ = some (.int .u32 x16))
                ((first | (with_reducible exact ⟨d7, d16⟩) | exact ⟨cell_ds l7 c7, cell_ds l16 c16⟩ | fail))
                (first
                  | (go_at_call 213; (with_reducible show Calls _ _ #[_, Value.int .u64 15] _ _); refine (rol_15 _ _).mono ?_; rintro e w2 ⟨rfl, rfl⟩)
                  | (go_at_call 213; (with_reducible show Calls _ _ #[_, Value.int .u64 13] _ _); refine (rol_13 _ _).mono ?_; rintro e w2 ⟨rfl, rfl⟩)
                  | (go_at_call 213; (with_reducible show Calls _ _ #[_, Value.int .u64 25] _ _); refine (rol_25 _ _).mono ?_; rintro e w2 ⟨rfl, rfl⟩)
                  | (go_at_call 213; refine (rol_14 _ _).mono ?_; rintro e w2 ⟨rfl, rfl⟩)
                  | fail)
              all_goals
                go_wp2_with fail
                have B3 := (B.set t (.int .u32 (add32 (add32 (add32 (sg1 x2) x7) (sg0 x15)) x16))).ext (Ext.refl _).drew.drew
                have e := arrC_set (sch2 blk t) 64 (add32 (add32 (add32 (sg1 x2) x7) (sg0 x15)) x16) (by omega)
                rw [hlen] at e
                rw [e] at B3
                go_roundw
                case rel => exact ⟨t + 1, by omega, by go_num, by rw [e2]; exact B3, (HX2.out.on ((On.refl _ wr).set t (.int .u32 _)) (by rw [HGW.out]; exact Nat.le_refl _)).drew.drew⟩
                case measure => simp [intOf]; omega
          · obtain rfl : t = 64 := by omega
            simp only [Int.cast_ofNat_Int]
            have Bhx := HBh.out.ext HX2.out
            have hwl := rf2_length P k
            have hwc : (wc (rf 2 (start 2) P k)).length = 8 := by rw [wc_length]; exact hwl
            go_wp2_with (first
              | ((with_reducible show AtS 85); refine wpl_clone_w Bhx.box (by rw [hwl]) (by decide) (by decide) rfl _ _ rfl rfl rfl ?_; intro gv0 cv0 w6 Bv6 hx6 hgv6)
              | fail)
            clear hwc
            have Bw6 := B.ext hx6
            have Bh6 := Bhx.ext hx6
            have hgne : gv0 ≠ w.heap.size ∧ gw ≠ w.heap.size := by
              have h1 := Bhx.lt
              have h2 := HGW.out
              have h3 := HGL.out
              omega
            have HX6 := Lib.hid (HX2.out.trans hx6)
            clear B Bhx hx6 hgv6
            obtain ⟨sp, hsp⟩ : ∃ sp, sp = sch2 blk 64 := ⟨_, rfl⟩
            have hspl : sp.length = 64 := by rw [hsp]; exact sch2_length blk 64
            rw [← hsp] at Bw6
            have HSP := Lib.hid hsp
            have HSPL := Lib.hid hspl
            clear hsp hspl
            obtain ⟨z0, z1, z2, z3, z4, z5, z6, z7, hzz⟩ : ∃ a b c d e f g i, rf 2 (start 2) P k = [a, b, c, d, e, f, g, i] := by
              match rf 2 (start 2) P k, hwl with
              | [a, b, c, d, e, f, g, i], _ => exact ⟨a, b, c, d, e, f, g, i, rfl⟩
            have HZZ := Lib.hid hzz
            rw [hzz] at Bv6 Bh6
            clear hzz hwl
            have HGNE := Lib.hid hgne
            have HBw6 := Lib.hid Bw6
            have HBh6 := Lib.hid Bh6
            clear hgne Bw6 Bh6
            go_loopw [11, 12, 13, 14] (fun vv i _ _ W => ∃ t gv cv : Nat, ∃ xa xb xc xd xe xf xg xi : Int, t ≤ 64 ∧ i = .int .i64 t ∧ vv = .slice (some ⟨gv, 0, none⟩) 8 cv ∧ gv ≠ w.heap.size ∧ BoxF W gv (wc [xa, xb, xc, xd, xe, xf, xg, xi]) ∧ Ext w6 W ∧ rnds2 sp [z0, z1, z2, z3, z4, z5, z6, z7] t = [xa, xb, xc, xd, xe, xf, xg, xi]) (fun _ i _ _ _ => 64 - (intOf i).toNat)
            case atStart => exact ⟨0, gv0, cv0, _, _, _, _, _, _, _, _, Nat.zero_le _, rfl, rfl, HGNE.out.1, Bv6, Ext.refl _, rfl⟩
            case round =>
              clear Bv6
              obtain ⟨t, gv, cv, xa, xb, xc, xd, xe, xf, xg, xi, ht2, rfl, rfl, hgv, V, hx7, hs⟩ := hrel
              have HS := Lib.hid hs
              have HV := Lib.hid V
              have HX7 := Lib.hid hx7
              have HGV := Lib.hid hgv
              clear hs V hx7 hgv
              by_cases h64 : t < 64
              · have tb : (t : Int) < 64 := by omega
                have v0 : wr.cell? ⟨gv, 0, none⟩ = some (.int .u32 xa) := HV.out.at (j := 0) rfl
                have v1 : wr.cell? ⟨gv, 1, none⟩ = some (.int .u32 xb) := HV.out.at (j := 1) rfl
                have v2 : wr.cell? ⟨gv, 2, none⟩ = some (.int .u32 xc) := HV.out.at (j := 2) rfl
                have v3 : wr.cell? ⟨gv, 3, none⟩ = some (.int .u32 xd) := HV.out.at (j := 3) rfl
                have v4 : wr.cell? ⟨gv, 4, none⟩ = some (.int .u32 xe) := HV.out.at (j := 4) rfl
                have v5 : wr.cell? ⟨gv, 5, none⟩ = some (.int .u32 xf) := HV.out.at (j := 5) rfl
                have v6 : wr.cell? ⟨gv, 6, none⟩ = some (.int .u32 xg) := HV.out.at (j := 6) rfl
                have v7 : wr.cell? ⟨gv, 7, none⟩ = some (.int .u32 xi) := HV.out.at (j := 7) rfl
                obtain ⟨pt, hpt⟩ : ∃ k, k = sp.getD t 0 := ⟨_, rfl⟩
                obtain ⟨kt, hkt⟩ : ∃ k, k = K2.getD t 0 := ⟨_, rfl⟩
                have cp2 : wr.cell? ⟨gw, t, none⟩ = some (.int .u32 pt) := by rw [hpt]; exact (HBw6.out.ext HX7.out).at (arrC_get sp 64 t (by have := HSPL.out; omega))
                have ck2 : wr.cell? ⟨gk, t, none⟩ = some (.int .u32 kt) := by rw [hkt]; exact ((HBk.out.ext HX6.out).ext HX7.out).at (wc_get K2 t h64)
                have HPT := Lib.hid hpt
                have HKT := Lib.hid hkt
                have a1 : (World.drew wr).cell? ⟨gv, 7, none⟩ = some (.int .u32 xi) ∧ (World.drew wr).cell? ⟨gv, 4, none⟩ = some (.int .u32 xe) ∧ (World.drew wr).cell? ⟨gv, 5, none⟩ = some (.int .u32 xf) ∧ (World.drew wr).cell? ⟨gv, 6, none⟩ = some (.int .u32 xg) ∧ (World.drew wr).cell? ⟨gk, t, none⟩ = some (.int .u32 kt) ∧ (World.drew wr).cell? ⟨gw, t, none⟩ = some (.int .u32 pt) := ⟨v7, v4, v5, v6, ck2, cp2⟩
                have a2 : (World.drew (World.drew wr)).cell? ⟨gv, 0, none⟩ = some (.int .u32 xa) ∧ (World.drew (World.drew wr)).cell? ⟨gv, 1, none⟩ = some (.int .u32 xb) ∧ (World.drew (World.drew wr)).cell? ⟨gv, 2, none⟩ = some (.int .u32 xc) := ⟨v0, v1, v2⟩
                have HA1 := Lib.hid a1
                have HA2 := Lib.hid a2
                have HV0 := Lib.hid v0
                have HV1 := Lib.hid v1
                have HV2 := Lib.hid v2
                have HV3 := Lib.hid v3
                have HV4 := Lib.hid v4
                have HV5 := Lib.hid v5
                have HV6 := Lib.hid v6
                clear hpt hkt a1 a2 v0 v1 v2 v3 v4 v5 v6 v7 cp2 ck2
                go_wp2_with fail
                go_region_held3 (fun W' => W'.cell? ⟨gv, 7, none⟩ = some (.int .u32 xi) ∧ W'.cell? ⟨gv, 4, none⟩ = some (.int .u32 xe) ∧ W'.cell? ⟨gv, 5, none⟩ = some (.int .u32 xf) ∧ W'.cell? ⟨gv, 6, none⟩ = some (.int .u32 xg) ∧ W'.cell? ⟨gk, t, none⟩ = some (.int .u32 kt) ∧ W'.cell? ⟨gw, t, none⟩ = some (.int .u32 pt))
                  ((first | (with_reducible exact HA1.out) | fail))
                  (first | (go_at_call 213; (with_reducible show Calls _ _ #[_, Value.int .u64 26] _ _); refine (rol_26 _ _).mono ?_; rintro e w7 ⟨rfl, rfl⟩) | (go_at_call 213; (with_reducible show Calls _ _ #[_, Value.int .u64 21] _ _); refine (rol_21 _ _).mono ?_; rintro e w7 ⟨rfl, rfl⟩) | (go_at_call 213; (with_reducible show Calls _ _ #[_, Value.int .u64 7] _ _); refine (rol_7 _ _).mono ?_; rintro e w7 ⟨rfl, rfl⟩) | fail)
                go_wp2_with fail
                go_region_held3 (fun W' => W'.cell? ⟨gv, 0, none⟩ = some (.int .u32 xa) ∧ W'.cell? ⟨gv, 1, none⟩ = some (.int .u32 xb) ∧ W'.cell? ⟨gv, 2, none⟩ = some (.int .u32 xc))
                  ((first | (with_reducible exact HA2.out) | fail))
                  (first | (go_at_call 213; (with_reducible show Calls _ _ #[_, Value.int .u64 30] _ _); refine (rol_30 _ _).mono ?_; rintro e w7 ⟨rfl, rfl⟩) | (go_at_call 213; (with_reducible show Calls _ _ #[_, Value.int .u64 19] _ _); refine (rol_19 _ _).mono ?_; rintro e w7 ⟨rfl, rfl⟩) | (go_at_call 213; (with_reducible show Calls _ _ #[_, Value.int .u64 10] _ _); refine (rol_10 _ _).mono ?_; rintro e w7 ⟨rfl, rfl⟩) | fail)
                go_wp2_with fail
                go_region_held3 (fun W' => (W'.cell? ⟨gv, 0, none⟩ = some (.int .u32 xa) ∧ W'.cell? ⟨gv, 1, none⟩ = some (.int .u32 xb) ∧ W'.cell? ⟨gv, 2, none⟩ = some (.int .u32 xc) ∧ W'.cell? ⟨gv, 3, none⟩ = some (.int .u32 xd) ∧ W'.cell? ⟨gv, 4, none⟩ = some (.int .u32 xe) ∧ W'.cell? ⟨gv, 5, none⟩ = some (.int .u32 xf) ∧ W'.cell? ⟨gv, 6, none⟩ = some (.int .u32 xg)) ∧ Ext wr W')
                  ((refine (fun h => ⟨⟨h.cell HV0.out, h.cell HV1.out, h.cell HV2.out, h.cell HV3.out, h.cell HV4.out, h.cell HV5.out, h.cell HV6.out⟩, h⟩) ?_; first | exact (Ext.refl _).drew.drew.drew | exact ((Ext.refl _).alloc _).drew.drew.drew | fail))
                  (fail)
                all_goals
                  go_wp2_with fail
                  have BN := (BoxF.new wr (wc [add32 (xx2 xe xf xg xi kt pt) (yy2 xa xb xc), xa, xb, xc, add32 xd (xx2 xe xf xg xi kt pt), xe, xf, xg]) 25).ext (Ext.refl _).drew.drew.drew
                  have hxn : Ext wr _ := ((Ext.refl wr).alloc (.cells (wc [add32 (xx2 xe xf xg xi kt pt) (yy2 xa xb xc), xa, xb, xc, add32 xd (xx2 xe xf xg xi kt pt), xe, xf, xg]).toArray 25)).drew.drew.drew
                  have hsn := rnds2_succ HS.out
                  rw [← HPT.out, ← HKT.out] at hsn
                  have hgn : wr.heap.size ≠ w.heap.size := by
                    have h1 := Ext.size HX7.out
                    have h2 := HBw6.out.lt
                    have h3 := HBh6.out.lt
                    omega
                  go_roundw
                  case rel => exact ⟨t + 1, _, _, _, _, _, _, _, _, _, _, by omega, by go_num, rfl, hgn, BN, HX7.out.trans hxn, hsn⟩
                  case measure => simp [intOf]; omega
              · obtain rfl : t = 64 := by omega
                simp only [Int.cast_ofNat_Int]
                go_wp2_with fail
                have BH0 : BoxF wr w.heap.size (wc (addW [z0, z1, z2, z3, z4, z5, z6, z7] [xa, xb, xc, xd, xe, xf, xg, xi] 0)) := HBh6.out.ext HX7.out
                have O40 := On.refl w.heap.size wr
                go_loopw [15] (fun i W => ∃ j : Nat, j ≤ 8 ∧ i = .int .i64 j ∧ BoxF W w.heap.size (wc (addW [z0, z1, z2, z3, z4, z5, z6, z7] [xa, xb, xc, xd, xe, xf, xg, xi] j)) ∧ On w.heap.size wr W) (fun i _ => 8 - (intOf i).toNat)
                case atStart => exact ⟨0, Nat.zero_le _, rfl, BH0, O40⟩
                case round =>
                  clear BH0 O40
                  obtain ⟨j, hj, rfl, BH, O4⟩ := hrel
                  have HO4 := Lib.hid O4
                  have HBH := Lib.hid BH
                  by_cases hj8 : j < 8
                  · as_aux_lemma =>
                      have hji : (j : Int) < 8 := by omega
                      have p := BH.at (addW_get [z0, z1, z2, z3, z4, z5, z6, z7] [xa, xb, xc, xd, xe, xf, xg, xi] j (by simp; omega) (by simp; omega))
                      have pv := (HV.out.on O4 HGV.out).at (wc_get [xa, xb, xc, xd, xe, xf, xg, xi] j (by simp; omega))
                      have hset := addW_set [z0, z1, z2, z3, z4, z5, z6, z7] [xa, xb, xc, xd, xe, xf, xg, xi] j (by simp; omega) (by simp; omega)
                      have hal : (addW [z0, z1, z2, z3, z4, z5, z6, z7] [xa, xb, xc, xd, xe, xf, xg, xi] j).length = 8 := by rw [addW_length _ _ _ (by simp; omega) (by simp; omega)]; rfl
                      have f := BH.free j (by rw [wc_length, hal]; omega)
                      generalize List.getD [z0, z1, z2, z3, z4, z5, z6, z7] j 0 = x at p hset
                      generalize List.getD [xa, xb, xc, xd, xe, xf, xg, xi] j 0 = y at pv hset
                      have HSET := Lib.hid hset
                      clear hset hal BH O4
                      go_wp2_with fail
                      go_region
                      all_goals
                        go_wp2_with fail
                        have B5 := (HBH.out.set j (.int .u32 (add32 x y))).ext (Ext.refl _).drew
                        rw [wc_set, HSET.out] at B5
                        go_roundw
                        case rel => exact ⟨j + 1, by omega, by go_num, B5, (HO4.out.set j _).ext (Ext.refl _).drew⟩
                        case measure => simp [intOf]; omega
                  · as_aux_lemma =>
                      obtain rfl : j = 8 := by omega
                      simp only [Int.cast_ofNat_Int]
                      go_wp2_with fail
                      have hrf : rf 2 (start 2) P (k + 1) = addW [z0, z1, z2, z3, z4, z5, z6, z7] [xa, xb, xc, xd, xe, xf, xg, xi] 8 := by
                        show comp2 (rf 2 (start 2) P k) (P.drop (64 * k)) = _
                        have hs := HS.out
                        rw [HSP.out, HBLK.out, HQ.out] at hs
                        rw [HZZ.out]
                        unfold comp2
                        rw [hs]
                      have hxf := (HX.out.trans (HX6.out.trans HX7.out)).on HO4.out (Nat.le_refl _)
                      have hRf := ((HRp.out.ext HX6.out).ext HX7.out).onB HO4.out HNP.out
                      have hKf := ((HBk.out.ext HX6.out).ext HX7.out).on HO4.out HGK.out
                      go_roundw
                      case rel => exact ⟨k + 1, by omega, by rw [HQ.out]; go_num, by rw [hrf]; exact HBH.out, hRf, hxf, hKf⟩
                      case measure => simp [intOf]; omega
    · have hqi : (P.length : Int) ≤ (q : Int) := by have := HM.out; omega
      obtain rfl : k = M := by have := HM.out; omega
      clear hq
      go_wp2_with (go_at_call 215; refine (bytes_r _ w.heap.size 8 8 _ (rf2_length P k).symm (by decide) HBh.out.box).mono ?_; rintro e w9 ⟨v9, rfl, ho9, hx9⟩)
      go_ret
      exact ⟨_, rfl, ho9.more (Ext.size HX.out), HX.out.trans hx9⟩
end Go.Proofs.YtbodppfpmpmadaaGreat

