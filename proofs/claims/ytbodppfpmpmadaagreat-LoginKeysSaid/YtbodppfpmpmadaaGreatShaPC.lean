import Derived.Test.YtbodppfpmpmadaaGreatL12C
import Derived.Outline
namespace Go.Proofs.YtbodppfpmpmadaaGreat
open Go.RowKit

theorem wc_set (l : List Int) (j : Nat) (x : Int) : (wc l).set j (.int .u32 x) = wc (l.set j x) := by simp [wc, List.map_set]
theorem addW_set (ws vs : List Int) (j : Nat) (h1 : j < ws.length) (h2 : j < vs.length) : (addW ws vs j).set j (add32 (ws.getD j 0) (vs.getD j 0)) = addW ws vs (j + 1) := by
  have hl : ((List.zipWith add32 ws vs).take j).length = j := by simp; omega
  rw [addW, addW, List.set_append_right _ _ (by omega), hl, Nat.sub_self, List.drop_eq_getElem_cons h1, List.set_cons_zero, List.take_add_one, List.getElem?_eq_getElem (by simp; omega)]
  simp [List.getD_eq_getElem?_getD, List.getElem?_eq_getElem h1, List.getElem?_eq_getElem h2]
theorem addW_get (ws vs : List Int) (j : Nat) (h1 : j < ws.length) (h2 : j < vs.length) : (wc (addW ws vs j))[j]? = some (.int .u32 (ws.getD j 0)) := by
  have hl : ((List.zipWith add32 ws vs).take j).length = j := by simp; omega
  rw [wc, List.getElem?_map, addW, List.getElem?_append_right (by omega), hl, Nat.sub_self, List.getElem?_drop, Nat.add_zero, List.getElem?_eq_getElem h1, List.getD_eq_getElem?_getD, List.getElem?_eq_getElem h1]
  rfl
def S1 : List Int := [1732584193, 4023233417, 2562383102, 271733878, 3285377520]
theorem rf1_length (p : List UInt8) : ∀ n, (rf 1 S1 p n).length = 5
  | 0 => rfl
  | n + 1 => by
    show (comp1 (rf 1 S1 p n) _).length = 5
    unfold comp1
    rw [addW_length _ _ _ (by rw [rf1_length p n]; omega) (by simp), rf1_length p n]

set_option maxRecDepth 100000 in
set_option maxHeartbeats 4000000 in
theorem sum1_r (w : World) (v : Value) (l : List UInt8) (hr : Rd w v l) (hl : l.length ≤ 1000000) :
    Calls Tryz.prog 205 #[v] w fun e w' => ∃ v', e = .returned v' ∧ Own w' w.heap.size v' (sumP 1 l) ∧ Ext w w' := by
  have HR := Lib.hid hr
  clear hr
  obtain ⟨M, hM⟩ := padL_length l
  rw [sumP_1 l M hM]
  have hPl : (padL l).length ≤ 1000100 := by
    have h : (padL l).length = l.length + 1 + leftN ((l.length + 1) % 64) + 8 := by simp [padL, tailH]; omega
    have : leftN ((l.length + 1) % 64) < 64 := by unfold leftN; omega
    omega
  generalize hP : padL l = P at hM hPl ⊢
  have HPP := Lib.hid hP
  clear hP
  have hmk : ∀ w : World, (Instr.makeSlice 189 (.int .i64 80) (.int .i64 80)).run Tryz.prog w = .ok (.slice (some ⟨w.heap.size, 0, none⟩) 80 80) (w.alloc (.cells (arrC [] 80).toArray 25)) := fun _ => by kernel_rfl
  go_enter Tryz.func205, Tryz.ntmps205
  go_wp2_with (first
    | (go_at_call 211; refine (padded_r _ _ l (HR.out.ext ((Ext.refl w).alloc _)) hl).mono ?_; rintro e w1 ⟨vp, rfl, ho1, hx1⟩)
    | fail)
  rw [HPP.out] at ho1
  have Bh1 : BoxF w1 w.heap.size (wc (rf 1 S1 P 0)) := (BoxF.new w (wc S1) 25).ext hx1
  have hxw1 := ((Ext.refl w).alloc _).trans hx1
  obtain ⟨Ap, cp, rfl, hlep, hmp, hzp⟩ := ho1.rd
  clear hzp
  have hnp : (Value.slice Ap P.length cp).ownBlock ≠ some w.heap.size := fun e => by
    have := (World.ownsRow.lt ho1 _ e).1
    simp at this
    omega
  have hRp1 := ho1.rd
  have HNP := Lib.hid hnp
  have HM := Lib.hid hM
  clear hnp ho1 hx1 hM
  go_loopw [5, 6, 7, 8, 9, 10, 11, 12, 13] (fun at_ _ _ _ _ _ _ _ _ W => ∃ k : Nat, k ≤ M ∧ at_ = .int .i64 ((64 * k : Nat) : Int) ∧ BoxF W w.heap.size (wc (rf 1 S1 P k)) ∧ Rd W (.slice Ap P.length cp) P ∧ Ext w W) (fun at_ _ _ _ _ _ _ _ _ _ => P.length - (intOf at_).toNat)
  case atStart => exact ⟨0, Nat.zero_le _, rfl, Bh1, hRp1, hxw1⟩
  case round =>
    clear Bh1 hRp1 hxw1
    obtain ⟨k, hk, rfl, Bh, Rp, hx⟩ := hrel
    obtain ⟨q, hq⟩ : ∃ q, q = 64 * k := ⟨_, rfl⟩
    rw [← hq]
    have HQ := Lib.hid hq
    have HBh := Lib.hid Bh
    have HRp := Lib.hid Rp
    have HX := Lib.hid hx
    have hgl : w.heap.size < wr.heap.size := Bh.lt
    have HGL := Lib.hid hgl
    clear Bh Rp hx hgl
    by_cases hkM : k < M
    · have hqi : (q : Int) < (P.length : Int) := by have := HM.out; omega
      have hq64 : q + 64 ≤ P.length := by have := HM.out; omega
      clear hq
      go_wp2_with fail
      have Bw0 : BoxF (wr.alloc (.cells (arrC [] 80).toArray 25)) wr.heap.size (arrC [] 80) := BoxF.new wr _ _
      have hxw0 : Ext wr (wr.alloc (.cells (arrC [] 80).toArray 25)) := (Ext.refl wr).alloc _
      generalize wr.alloc (.cells (arrC [] 80).toArray 25) = W2 at Bw0 hxw0 ⊢
      obtain ⟨gw, hgw⟩ : ∃ g, g = wr.heap.size := ⟨_, rfl⟩
      rw [← hgw] at Bw0 ⊢
      have HGW := Lib.hid hgw
      clear hgw
      obtain ⟨blk, hblk⟩ : ∃ b, b = P.drop q := ⟨_, rfl⟩
      have hblen : 64 ≤ blk.length := by rw [hblk, List.length_drop]; omega
      have HBLK := Lib.hid hblk
      clear hblk
      go_loopw [7] (fun i W => ∃ t : Nat, t ≤ 80 ∧ i = .int .i64 t ∧ BoxF W gw (arrC (sch1 blk t) 80) ∧ Ext wr W) (fun i _ => 80 - (intOf i).toNat)
      case atStart => exact ⟨0, Nat.zero_le _, rfl, Bw0, hxw0⟩
      case round =>
        clear Bw0 hxw0
        obtain ⟨t, ht, rfl, B, hx2⟩ := hrel
        have HX2 := Lib.hid hx2
        have HB := Lib.hid B
        clear hx2
        by_cases h16 : t < 16
        · have hlen := sch1_length blk t
          have hti : (t : Int) < 16 := by omega
          go_wp2_with (first
            | ((with_reducible show AtS 34); refine wpl_slice_lo bt (HRp.out.ext HX2.out) (q : Int) (by omega) (by omega) rfl _ _ _ rfl rfl rfl ?_; intro v3 hr3; rw [Int.toNat_natCast, ← HBLK.out] at hr3)
            | (go_at_call 212; refine (word_r _ _ blk t (4 * t) hr3 rfl (by omega)).mono ?_; rintro e w4 ⟨rfl, hx4⟩; have B4 := HB.out.ext hx4)
            | ((with_reducible show wpList _ _ _ (⟨none, Op.store _ _ _, _, _, _, _⟩ :: _) _ _); refine wpl_store_cell rfl _ _ _ rfl gw t (.int .u32 (wordS (blk.getD (4 * t) 0) (blk.getD (4 * t + 1) 0) (blk.getD (4 * t + 2) 0) (blk.getD (4 * t + 3) 0))) rfl rfl rfl rfl (by kernel_rfl) B4 (by rw [arrC_length _ _ (by omega)]; omega) ?_; intro w5 B5 O5)
            | fail)
          have e := arrC_set (sch1 blk t) 80 (wordS (blk.getD (4 * t) 0) (blk.getD (4 * t + 1) 0) (blk.getD (4 * t + 2) 0) (blk.getD (4 * t + 3) 0)) (by omega)
          rw [hlen] at e
          rw [e] at B5
          have e2 : sch1 blk (t + 1) = sch1 blk t ++ [wordS (blk.getD (4 * t) 0) (blk.getD (4 * t + 1) 0) (blk.getD (4 * t + 2) 0) (blk.getD (4 * t + 3) 0)] := by rw [sch1, if_pos h16]
          go_roundw
          case rel => exact ⟨t + 1, by omega, by go_num, by rw [e2]; exact B5, (HX2.out.trans hx4).on O5 (by rw [HGW.out]; exact Nat.le_refl _)⟩
          case measure => simp [intOf]; omega
        · by_cases h80 : t < 80
          · have hlen := sch1_length blk t
            obtain ⟨a3, ha3⟩ : ∃ a3, a3 = t - 3 := ⟨_, rfl⟩
            obtain ⟨a8, ha8⟩ : ∃ a8, a8 = t - 8 := ⟨_, rfl⟩
            obtain ⟨a14, ha14⟩ : ∃ a14, a14 = t - 14 := ⟨_, rfl⟩
            obtain ⟨a16, ha16⟩ : ∃ a16, a16 = t - 16 := ⟨_, rfl⟩
            have m3 : IntKind.i64.wrap ((t : Int) - 3) = (a3 : Int) := by rw [IntKind.wrap_i64]; omega
            have m8 : IntKind.i64.wrap ((t : Int) - 8) = (a8 : Int) := by rw [IntKind.wrap_i64]; omega
            have m14 : IntKind.i64.wrap ((t : Int) - 14) = (a14 : Int) := by rw [IntKind.wrap_i64]; omega
            have m16 : IntKind.i64.wrap ((t : Int) - 16) = (a16 : Int) := by rw [IntKind.wrap_i64]; omega
            have b3 : (a3 : Int) < 80 := by omega
            have b8 : (a8 : Int) < 80 := by omega
            have b14 : (a14 : Int) < 80 := by omega
            have b16 : (a16 : Int) < 80 := by omega
            have n3 : a3 < 80 := by omega
            have n8 : a8 < 80 := by omega
            have n14 : a14 < 80 := by omega
            have n16 : a16 < 80 := by omega
            have e2 : sch1 blk (t + 1) = sch1 blk t ++ [rolS (bits .xor .u32 (bits .xor .u32 (bits .xor .u32 ((sch1 blk t).getD a3 0) ((sch1 blk t).getD a8 0)) ((sch1 blk t).getD a14 0)) ((sch1 blk t).getD a16 0)) 1] := by
              rw [sch1, if_neg h16, ha3, ha8, ha14, ha16]
            have c3 := B.at (arrC_get (sch1 blk t) 80 a3 (by omega))
            have c8 := B.at (arrC_get (sch1 blk t) 80 a8 (by omega))
            have c14 := B.at (arrC_get (sch1 blk t) 80 a14 (by omega))
            have c16 := B.at (arrC_get (sch1 blk t) 80 a16 (by omega))
            generalize (sch1 blk t).getD a3 0 = x3 at c3 e2
            generalize (sch1 blk t).getD a8 0 = x8 at c8 e2
            generalize (sch1 blk t).getD a14 0 = x14 at c14 e2
            generalize (sch1 blk t).getD a16 0 = x16 at c16 e2
            have hz : wr.cell? ⟨gw, t, none⟩ = some (.int .u32 0) := by
              refine B.at ?_
              rw [arrC, List.getElem?_map, List.getElem?_append_right (by omega), hlen, Nat.sub_self]
              obtain ⟨q, hq⟩ : ∃ q, 80 - t = q + 1 := ⟨80 - t - 1, by omega⟩
              rw [hq]
              rfl
            have hf := B.free t (by rw [arrC_length _ _ (by omega)]; omega)
            obtain ⟨X, hX⟩ : ∃ X, X = rolS (bits .xor .u32 (bits .xor .u32 (bits .xor .u32 x3 x8) x14) x16) 1 := ⟨_, rfl⟩
            have d3 : (World.drew wr).cell? ⟨gw, a3, none⟩ = some (.int .u32 x3) := c3
            have d8 : (World.drew wr).cell? ⟨gw, a8, none⟩ = some (.int .u32 x8) := c8
            have d14 : (World.drew wr).cell? ⟨gw, a14, none⟩ = some (.int .u32 x14) := c14
            have d16 : (World.drew wr).cell? ⟨gw, a16, none⟩ = some (.int .u32 x16) := c16
            have f3 : (World.drew (wr.setCell ⟨gw, t, none⟩ (.int .u32 X))).cell? ⟨gw, a3, none⟩ = some (.int .u32 x3) := (World.cell?_setCell_other _ _ _ _ (by simp <;> omega)).trans c3
            have f8 : (World.drew (wr.setCell ⟨gw, t, none⟩ (.int .u32 X))).cell? ⟨gw, a8, none⟩ = some (.int .u32 x8) := (World.cell?_setCell_other _ _ _ _ (by simp <;> omega)).trans c8
            have f14 : (World.drew (wr.setCell ⟨gw, t, none⟩ (.int .u32 X))).cell? ⟨gw, a14, none⟩ = some (.int .u32 x14) := (World.cell?_setCell_other _ _ _ _ (by simp <;> omega)).trans c14
            have f16 : (World.drew (wr.setCell ⟨gw, t, none⟩ (.int .u32 X))).cell? ⟨gw, a16, none⟩ = some (.int .u32 x16) := (World.cell?_setCell_other _ _ _ _ (by simp <;> omega)).trans c16
            clear ha3 ha8 ha14 ha16
            have hti : (16 : Int) ≤ (t : Int) := by omega
            have htj : (t : Int) < 80 := by omega
            have HXX := Lib.hid hX
            clear hX
            go_wp2_with fail
            go_region_held3 (fun W' => W'.cell? ⟨gw, a3, none⟩ = some (.int .u32 x3) ∧ W'.cell? ⟨gw, a8, none⟩ = some (.int .u32 x8) ∧ W'.cell? ⟨gw, a14, none⟩ = some (.int .u32 x14) ∧ W'.cell? ⟨gw, a16, none⟩ = some (.int .u32 x16))
              ((first | (with_reducible exact ⟨d3, d8, d14, d16⟩) | (with_reducible exact ⟨f3, f8, f14, f16⟩) | fail))
              (first | (go_at_call 213; refine (rol_1 _ _).mono ?_; rintro e w2 ⟨rfl, rfl⟩; rw [← HXX.out]) | fail)
            go_wp2_with fail
            have B3 := (B.set t (.int .u32 X)).ext (Ext.refl _).drew
            have e := arrC_set (sch1 blk t) 80 X (by omega)
            rw [hlen] at e
            rw [e] at B3
            rw [← HXX.out] at e2
            go_roundw
            case rel => exact ⟨t + 1, by omega, by go_num, by rw [e2]; exact B3, (HX2.out.on ((On.refl _ wr).set t (.int .u32 X)) (by rw [HGW.out]; exact Nat.le_refl _)).drew⟩
            case measure => simp [intOf]; omega
          · obtain rfl : t = 80 := by omega
            simp only [Int.cast_ofNat_Int]
            have Bhx := HBh.out.ext HX2.out
            have hwl := rf1_length P k
            have hwc : (wc (rf 1 S1 P k)).length = 5 := by rw [wc_length]; exact hwl
            go_wp2_with (first
              | ((with_reducible show AtS 67); refine wpl_clone_w Bhx.box (by rw [hwl]) (by decide) (by decide) rfl _ _ rfl rfl rfl ?_; intro gv0 cv0 w6 Bv6 hx6 hgv6)
              | fail)
            clear hwc
            have Bw6 := B.ext hx6
            have Bh6 := Bhx.ext hx6
            have hgne : gv0 ≠ w.heap.size ∧ gw ≠ w.heap.size := by
              have h1 := Bhx.lt
              have h2 := HGW.out
              have h3 := HGL.out
              omega
            have HX6 := Lib.hid (HX2.out.trans hx6)
            clear B Bhx hx6 hgv6
            obtain ⟨sp, hsp⟩ : ∃ sp, sp = sch1 blk 80 := ⟨_, rfl⟩
            have hspl : sp.length = 80 := by rw [hsp]; exact sch1_length blk 80
            rw [← hsp] at Bw6
            have HSP := Lib.hid hsp
            have HSPL := Lib.hid hspl
            clear hsp hspl
            obtain ⟨z0, z1, z2, z3, z4, hzz⟩ : ∃ a b c d e, rf 1 S1 P k = [a, b, c, d, e] := by
              match rf 1 S1 P k, hwl with
              | [a, b, c, d, e], _ => exact ⟨a, b, c, d, e, rfl⟩
            have HZZ := Lib.hid hzz
            rw [hzz] at Bv6 Bh6
            clear hzz hwl
            have HGNE := Lib.hid hgne
            have HBw6 := Lib.hid Bw6
            have HBh6 := Lib.hid Bh6
            clear hgne Bw6 Bh6
            go_loopw [8, 9, 10, 11, 12] (fun vv i _ _ _ W => ∃ t gv cv : Nat, ∃ xa xb xc xd xe : Int, t ≤ 80 ∧ i = .int .i64 t ∧ vv = .slice (some ⟨gv, 0, none⟩) 5 cv ∧ gv ≠ w.heap.size ∧ BoxF W gv (wc [xa, xb, xc, xd, xe]) ∧ Ext w6 W ∧ rnds1 sp (z0, z1, z2, z3, z4) t = (xa, xb, xc, xd, xe)) (fun _ i _ _ _ _ => 80 - (intOf i).toNat)
            case atStart => exact ⟨0, gv0, cv0, _, _, _, _, _, Nat.zero_le _, rfl, rfl, HGNE.out.1, Bv6, Ext.refl _, rfl⟩
            case round =>
              clear Bv6
              obtain ⟨t, gv, cv, xa, xb, xc, xd, xe, ht2, rfl, rfl, hgv, V, hx7, hs⟩ := hrel
              have HS := Lib.hid hs
              have HV := Lib.hid V
              have HX7 := Lib.hid hx7
              have HGV := Lib.hid hgv
              clear hs V hx7 hgv
              by_cases h80 : t < 80
              · have tb : (t : Int) < 80 := by omega
                have v0 : wr.cell? ⟨gv, 0, none⟩ = some (.int .u32 xa) := HV.out.at (j := 0) rfl
                have v1 : wr.cell? ⟨gv, 1, none⟩ = some (.int .u32 xb) := HV.out.at (j := 1) rfl
                have v2 : wr.cell? ⟨gv, 2, none⟩ = some (.int .u32 xc) := HV.out.at (j := 2) rfl
                have v3 : wr.cell? ⟨gv, 3, none⟩ = some (.int .u32 xd) := HV.out.at (j := 3) rfl
                have v4 : wr.cell? ⟨gv, 4, none⟩ = some (.int .u32 xe) := HV.out.at (j := 4) rfl
                obtain ⟨pt, hpt⟩ : ∃ k, k = sp.getD t 0 := ⟨_, rfl⟩
                have cp2 : wr.cell? ⟨gw, t, none⟩ = some (.int .u32 pt) := by rw [hpt]; exact (HBw6.out.ext HX7.out).at (arrC_get sp 80 t (by have := HSPL.out; omega))
                have HPT := Lib.hid hpt
                have a1 : (World.drew wr).cell? ⟨gv, 1, none⟩ = some (.int .u32 xb) ∧ (World.drew wr).cell? ⟨gv, 2, none⟩ = some (.int .u32 xc) ∧ (World.drew wr).cell? ⟨gv, 3, none⟩ = some (.int .u32 xd) := ⟨v1, v2, v3⟩
                have a2 : (World.drew (World.drew wr)).cell? ⟨gv, 0, none⟩ = some (.int .u32 xa) ∧ (World.drew (World.drew wr)).cell? ⟨gv, 4, none⟩ = some (.int .u32 xe) ∧ (World.drew (World.drew wr)).cell? ⟨gw, t, none⟩ = some (.int .u32 pt) := ⟨v0, v4, cp2⟩
                have HA1 := Lib.hid a1
                have HA2 := Lib.hid a2
                have HV0 := Lib.hid v0
                have HV1 := Lib.hid v1
                have HV2 := Lib.hid v2
                have HV3 := Lib.hid v3
                clear hpt a1 a2 v0 v1 v2 v3 v4 cp2
                go_wp2_with fail
                go_region_held3 (fun W' => W'.cell? ⟨gv, 1, none⟩ = some (.int .u32 xb) ∧ W'.cell? ⟨gv, 2, none⟩ = some (.int .u32 xc) ∧ W'.cell? ⟨gv, 3, none⟩ = some (.int .u32 xd))
                  ((first | (with_reducible exact HA1.out) | fail))
                  (first | (go_at_call 214; refine (round_r _ t _ _ _ h80).mono ?_; rintro e w7 ⟨rfl, rfl⟩) | fail)
                go_wp2_with fail
                go_region_held3 (fun W' => W'.cell? ⟨gv, 0, none⟩ = some (.int .u32 xa) ∧ W'.cell? ⟨gv, 4, none⟩ = some (.int .u32 xe) ∧ W'.cell? ⟨gw, t, none⟩ = some (.int .u32 pt))
                  ((first | (with_reducible exact HA2.out) | fail))
                  (first | (go_at_call 213; refine (rol_5 _ _).mono ?_; rintro e w7 ⟨rfl, rfl⟩) | fail)
                go_wp2_with fail
                go_region_held3 (fun W' => (W'.cell? ⟨gv, 0, none⟩ = some (.int .u32 xa) ∧ W'.cell? ⟨gv, 1, none⟩ = some (.int .u32 xb) ∧ W'.cell? ⟨gv, 2, none⟩ = some (.int .u32 xc) ∧ W'.cell? ⟨gv, 3, none⟩ = some (.int .u32 xd)) ∧ Ext wr W')
                  ((refine (fun h => ⟨⟨h.cell HV0.out, h.cell HV1.out, h.cell HV2.out, h.cell HV3.out⟩, h⟩) ?_; first | exact (Ext.refl _).drew.drew.drew | exact ((Ext.refl _).alloc _).drew.drew.drew | fail))
                  (first | (go_at_call 213; refine (rol_30 _ _).mono ?_; rintro e w7 ⟨rfl, rfl⟩) | fail)
                all_goals
                  go_wp2_with fail
                  have BN := (BoxF.new wr (wc [add32 (add32 (add32 (add32 (rolS xa 5) (f1 t xb xc xd)) xe) (k1 t)) pt, xa, rolS xb 30, xc, xd]) 25).ext (Ext.refl _).drew.drew.drew
                  have hxn : Ext wr _ := ((Ext.refl wr).alloc (.cells (wc [add32 (add32 (add32 (add32 (rolS xa 5) (f1 t xb xc xd)) xe) (k1 t)) pt, xa, rolS xb 30, xc, xd]).toArray 25)).drew.drew.drew
                  have hsn := rnds1_succ HS.out (f := f1 t xb xc xd) (k := k1 t) ⟨rfl, rfl⟩
                  rw [← HPT.out] at hsn
                  have hgn : wr.heap.size ≠ w.heap.size := by
                    have h1 := Ext.size HX7.out
                    have h2 := HBw6.out.lt
                    have h3 := HBh6.out.lt
                    omega
                  go_roundw
                  case rel => exact ⟨t + 1, _, _, _, _, _, _, _, by omega, by go_num, rfl, hgn, BN, HX7.out.trans hxn, hsn⟩
                  case measure => simp [intOf]; omega
              · obtain rfl : t = 80 := by omega
                simp only [Int.cast_ofNat_Int]
                go_wp2_with fail
                have BH0 : BoxF wr w.heap.size (wc (addW [z0, z1, z2, z3, z4] [xa, xb, xc, xd, xe] 0)) := HBh6.out.ext HX7.out
                have O40 := On.refl w.heap.size wr
                go_loopw [13] (fun i W => ∃ j : Nat, j ≤ 5 ∧ i = .int .i64 j ∧ BoxF W w.heap.size (wc (addW [z0, z1, z2, z3, z4] [xa, xb, xc, xd, xe] j)) ∧ On w.heap.size wr W) (fun i _ => 5 - (intOf i).toNat)
                case atStart => exact ⟨0, Nat.zero_le _, rfl, BH0, O40⟩
                case round =>
                  clear BH0 O40
                  obtain ⟨j, hj, rfl, BH, O4⟩ := hrel
                  have HO4 := Lib.hid O4
                  have HBH := Lib.hid BH
                  by_cases hj5 : j < 5
                  · have hji : (j : Int) < 5 := by omega
                    have p := BH.at (addW_get [z0, z1, z2, z3, z4] [xa, xb, xc, xd, xe] j (by simp; omega) (by simp; omega))
                    have pv := (HV.out.on O4 HGV.out).at (wc_get [xa, xb, xc, xd, xe] j (by simp; omega))
                    have hset := addW_set [z0, z1, z2, z3, z4] [xa, xb, xc, xd, xe] j (by simp; omega) (by simp; omega)
                    have hal : (addW [z0, z1, z2, z3, z4] [xa, xb, xc, xd, xe] j).length = 5 := by rw [addW_length _ _ _ (by simp; omega) (by simp; omega)]; rfl
                    have f := BH.free j (by rw [wc_length, hal]; omega)
                    generalize List.getD [z0, z1, z2, z3, z4] j 0 = x at p hset
                    generalize List.getD [xa, xb, xc, xd, xe] j 0 = y at pv hset
                    have HSET := Lib.hid hset
                    clear hset hal BH O4
                    go_wp2_with fail
                    go_region
                    all_goals
                      go_wp2_with fail
                      have B5 := (HBH.out.set j (.int .u32 (add32 x y))).ext (Ext.refl _).drew
                      rw [wc_set, HSET.out] at B5
                      go_roundw
                      case rel => exact ⟨j + 1, by omega, by go_num, B5, (HO4.out.set j _).ext (Ext.refl _).drew⟩
                      case measure => simp [intOf]; omega
                  · obtain rfl : j = 5 := by omega
                    simp only [Int.cast_ofNat_Int]
                    go_wp2_with fail
                    have hrf : rf 1 S1 P (k + 1) = addW [z0, z1, z2, z3, z4] [xa, xb, xc, xd, xe] 5 := by
                      show comp1 (rf 1 S1 P k) (P.drop (64 * k)) = _
                      have hs := HS.out
                      rw [HSP.out, HBLK.out, HQ.out] at hs
                      rw [HZZ.out]
                      have hs' : rnds1 (sch1 (P.drop (64 * k)) 80) (List.getD [z0, z1, z2, z3, z4] 0 0, List.getD [z0, z1, z2, z3, z4] 1 0, List.getD [z0, z1, z2, z3, z4] 2 0, List.getD [z0, z1, z2, z3, z4] 3 0, List.getD [z0, z1, z2, z3, z4] 4 0) 80 = (xa, xb, xc, xd, xe) := hs
                      unfold comp1
                      rw [hs']
                    have hxf := (HX.out.trans (HX6.out.trans HX7.out)).on HO4.out (Nat.le_refl _)
                    have hRf := ((HRp.out.ext HX6.out).ext HX7.out).onB HO4.out HNP.out
                    go_roundw
                    case rel => exact ⟨k + 1, by omega, by rw [HQ.out]; go_num, by rw [hrf]; exact HBH.out, hRf, hxf⟩
                    case measure => simp [intOf]; omega
    · have hqi : (P.length : Int) ≤ (q : Int) := by have := HM.out; omega
      obtain rfl : k = M := by have := HM.out; omega
      clear hq
      go_wp2_with (go_at_call 215; refine (bytes_r _ w.heap.size 5 5 _ (rf1_length P k).symm (by decide) HBh.out.box).mono ?_; rintro e w9 ⟨v9, rfl, ho9, hx9⟩)
      go_ret
      exact ⟨_, rfl, ho9.more (Ext.size HX.out), HX.out.trans hx9⟩
end Go.Proofs.YtbodppfpmpmadaaGreat

