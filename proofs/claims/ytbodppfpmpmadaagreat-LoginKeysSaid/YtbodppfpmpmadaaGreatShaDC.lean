import Derived.Test.YtbodppfpmpmadaaGreatL3C
namespace Go.Proofs.YtbodppfpmpmadaaGreat
open Go.RowKit

theorem drop4 {l : List UInt8} {j : Nat} (h : j + 3 < l.length) : l.drop j = l.getD j 0 :: l.getD (j + 1) 0 :: l.getD (j + 2) 0 :: l.getD (j + 3) 0 :: l.drop (j + 4) := by
  have g : ∀ i (hi : i < l.length), l.getD i 0 = l[i] := fun i hi => by rw [List.getD_eq_getElem?_getD, List.getElem?_eq_getElem hi]; rfl
  rw [g j (by omega), g (j + 1) (by omega), g (j + 2) (by omega), g (j + 3) (by omega)]
  rw [List.drop_eq_getElem_cons (by omega), List.drop_eq_getElem_cons (i := j + 1) (by omega), List.drop_eq_getElem_cons (i := j + 1 + 1) (by omega), List.drop_eq_getElem_cons (i := j + 1 + 1 + 1) (by omega)]

set_option maxRecDepth 100000 in
set_option maxHeartbeats 2000000 in
theorem block1_c (w : World) (h : Nat) (kind : Int) (ws : List Int) (rest : List UInt8) (n all : Int) (H : BoxF w h (hashC kind ws rest n all)) (hw : ws.length = 8) (hr : rest.length = 64) :
    Calls Tryz.prog 209 #[.pointer (some ⟨h, 0, none⟩)] w fun e w' => e = .returned (.tuple #[]) ∧ On h w w' ∧ BoxF w' h (hashC kind (comp1 ws rest) rest n all) := by
  obtain ⟨y0, y1, y2, y3, y4, y5, y6, y7, rfl⟩ : ∃ a b c d e f g i, ws = [a, b, c, d, e, f, g, i] := by
    match ws, hw with
    | [a, b, c, d, e, f, g, i], _ => exact ⟨a, b, c, d, e, f, g, i, rfl⟩
  have H0 := Lib.hid H
  clear H
  go_enter Tryz.func209, Tryz.ntmps209
  go_wp2_with ((with_reducible show wpList _ _ _ (⟨some 2, Op.alloc _, _, _, _, _⟩ :: _) _ _); refine wpl_alloc rfl _ rfl (arrC [] 80) (by kernel_rfl) ?_; intro w1 B1 hx1)
  go_loopw [3, 15] (fun _ i W => ∃ t : Nat, t ≤ 80 ∧ i = .int .i64 t ∧ BoxF W w.heap.size (arrC (sch1 rest t) 80) ∧ Ext w W) (fun _ i _ => 80 - (intOf i).toNat)
  case atStart => exact ⟨0, Nat.zero_le _, rfl, B1, hx1⟩
  case round =>
    obtain ⟨t, ht, rfl, B, hx⟩ := hrel
    have HB := Lib.hid B
    by_cases h16 : t < 16
    · have m0 : IntKind.i64.wrap (4 * (t : Int)) = ((4 * t : Nat) : Int) := by rw [IntKind.wrap_i64]; omega
      have hlen := sch1_length rest t
      have hd := drop4 (l := rest) (j := 4 * t) (by omega)
      have hR := hash_rest (H0.out.ext hx) hw hr (4 * t) (64 - 4 * t) (by omega) rfl
      rw [hd] at hR
      go_wp2_with (first
        | ((with_reducible show AtS 26); refine wpl_slice_arr rfl _ _ 64 Tryz.underlying185 (sizeOf_u8 bt) _ _ _ rfl h 9 (4 * t) rfl _ rfl (by omega) (by omega) ?_)
        | (go_at_call 217; refine (word_c _ _ _ _ _ _ _ hR).mono ?_; rintro e w2 ⟨rfl, hx2⟩; have B2 := B.ext hx2)
        | ((with_reducible show wpList _ _ _ (⟨none, Op.store _ _ _, _, _, _, _⟩ :: _) _ _); refine wpl_store_cell rfl _ _ _ rfl _ t (.int .u32 (wordS (rest.getD (4 * t) 0) (rest.getD (4 * t + 1) 0) (rest.getD (4 * t + 2) 0) (rest.getD (4 * t + 3) 0))) rfl rfl rfl rfl (by kernel_rfl) B2 (by rw [arrC_length _ _ (by omega)]; omega) ?_; intro w3 B3 O3)
        | fail)
      have e := arrC_set (sch1 rest t) 80 (wordS (rest.getD (4 * t) 0) (rest.getD (4 * t + 1) 0) (rest.getD (4 * t + 2) 0) (rest.getD (4 * t + 3) 0)) (by omega)
      rw [hlen] at e
      rw [e] at B3
      have e2 : sch1 rest (t + 1) = sch1 rest t ++ [wordS (rest.getD (4 * t) 0) (rest.getD (4 * t + 1) 0) (rest.getD (4 * t + 2) 0) (rest.getD (4 * t + 3) 0)] := by rw [sch1, if_pos h16]
      go_roundw
      case rel => exact ⟨t + 1, by omega, by go_num, by rw [e2]; exact B3, (hx.trans hx2).on O3 (Nat.le_refl _)⟩
      case measure => simp [intOf]; omega
    · by_cases h80 : t < 80
      · have hlen := sch1_length rest t
        obtain ⟨a3, ha3⟩ : ∃ a3, a3 = t - 3 := ⟨_, rfl⟩
        obtain ⟨a8, ha8⟩ : ∃ a8, a8 = t - 8 := ⟨_, rfl⟩
        obtain ⟨a14, ha14⟩ : ∃ a14, a14 = t - 14 := ⟨_, rfl⟩
        obtain ⟨a16, ha16⟩ : ∃ a16, a16 = t - 16 := ⟨_, rfl⟩
        have m3 : IntKind.i64.wrap ((t : Int) - 3) = (a3 : Int) := by rw [IntKind.wrap_i64]; omega
        have m8 : IntKind.i64.wrap ((t : Int) - 8) = (a8 : Int) := by rw [IntKind.wrap_i64]; omega
        have m14 : IntKind.i64.wrap ((t : Int) - 14) = (a14 : Int) := by rw [IntKind.wrap_i64]; omega
        have m16 : IntKind.i64.wrap ((t : Int) - 16) = (a16 : Int) := by rw [IntKind.wrap_i64]; omega
        have b3 : (a3 : Int) < 80 := by omega
        have b8 : (a8 : Int) < 80 := by omega
        have b14 : (a14 : Int) < 80 := by omega
        have b16 : (a16 : Int) < 80 := by omega
        have n3 : a3 < 80 := by omega
        have n8 : a8 < 80 := by omega
        have n14 : a14 < 80 := by omega
        have n16 : a16 < 80 := by omega
        have e2 : sch1 rest (t + 1) = sch1 rest t ++ [rolS (bits .xor .u32 (bits .xor .u32 (bits .xor .u32 ((sch1 rest t).getD a3 0) ((sch1 rest t).getD a8 0)) ((sch1 rest t).getD a14 0)) ((sch1 rest t).getD a16 0)) 1] := by
          rw [sch1, if_neg h16, ha3, ha8, ha14, ha16]
        have c3 := B.at (arrC_get (sch1 rest t) 80 a3 (by omega))
        have c8 := B.at (arrC_get (sch1 rest t) 80 a8 (by omega))
        have c14 := B.at (arrC_get (sch1 rest t) 80 a14 (by omega))
        have c16 := B.at (arrC_get (sch1 rest t) 80 a16 (by omega))
        generalize (sch1 rest t).getD a3 0 = x3 at c3 e2
        generalize (sch1 rest t).getD a8 0 = x8 at c8 e2
        generalize (sch1 rest t).getD a14 0 = x14 at c14 e2
        generalize (sch1 rest t).getD a16 0 = x16 at c16 e2
        have hz : wr.cell? ⟨w.heap.size, t, none⟩ = some (.int .u32 0) := by
          refine B.at ?_
          rw [arrC, List.getElem?_map, List.getElem?_append_right (by omega), hlen, Nat.sub_self]
          obtain ⟨q, hq⟩ : ∃ q, 80 - t = q + 1 := ⟨80 - t - 1, by omega⟩
          rw [hq]
          rfl
        have hf := B.free t (by rw [arrC_length _ _ (by omega)]; omega)
        obtain ⟨X, hX⟩ : ∃ X, X = rolS (bits .xor .u32 (bits .xor .u32 (bits .xor .u32 x3 x8) x14) x16) 1 := ⟨_, rfl⟩
        have d3 : (World.drew wr).cell? ⟨w.heap.size, a3, none⟩ = some (.int .u32 x3) := c3
        have d8 : (World.drew wr).cell? ⟨w.heap.size, a8, none⟩ = some (.int .u32 x8) := c8
        have d14 : (World.drew wr).cell? ⟨w.heap.size, a14, none⟩ = some (.int .u32 x14) := c14
        have d16 : (World.drew wr).cell? ⟨w.heap.size, a16, none⟩ = some (.int .u32 x16) := c16
        have f3 : (World.drew (wr.setCell ⟨w.heap.size, t, none⟩ (.int .u32 X))).cell? ⟨w.heap.size, a3, none⟩ = some (.int .u32 x3) := (World.cell?_setCell_other _ _ _ _ (by simp <;> omega)).trans c3
        have f8 : (World.drew (wr.setCell ⟨w.heap.size, t, none⟩ (.int .u32 X))).cell? ⟨w.heap.size, a8, none⟩ = some (.int .u32 x8) := (World.cell?_setCell_other _ _ _ _ (by simp <;> omega)).trans c8
        have f14 : (World.drew (wr.setCell ⟨w.heap.size, t, none⟩ (.int .u32 X))).cell? ⟨w.heap.size, a14, none⟩ = some (.int .u32 x14) := (World.cell?_setCell_other _ _ _ _ (by simp <;> omega)).trans c14
        have f16 : (World.drew (wr.setCell ⟨w.heap.size, t, none⟩ (.int .u32 X))).cell? ⟨w.heap.size, a16, none⟩ = some (.int .u32 x16) := (World.cell?_setCell_other _ _ _ _ (by simp <;> omega)).trans c16
        clear ha3 ha8 ha14 ha16
        have HX := Lib.hid hX
        clear hX
        go_wp2_with fail
        go_region_held3 (fun W' => W'.cell? ⟨w.heap.size, a3, none⟩ = some (.int .u32 x3) ∧ W'.cell? ⟨w.heap.size, a8, none⟩ = some (.int .u32 x8) ∧ W'.cell? ⟨w.heap.size, a14, none⟩ = some (.int .u32 x14) ∧ W'.cell? ⟨w.heap.size, a16, none⟩ = some (.int .u32 x16))
          ((first | (with_reducible exact ⟨d3, d8, d14, d16⟩) | (with_reducible exact ⟨f3, f8, f14, f16⟩) | fail))
          (first | (go_at_call 218; refine (rotl_1 _ _).mono ?_; rintro e w2 ⟨rfl, rfl⟩; rw [← HX.out]) | fail)
        go_wp2_with fail
        have B3 := (B.set t (.int .u32 X)).ext (Ext.refl _).drew
        have e := arrC_set (sch1 rest t) 80 X (by omega)
        rw [hlen] at e
        rw [e] at B3
        rw [← HX.out] at e2
        go_roundw
        case rel => exact ⟨t + 1, by omega, by go_num, by rw [e2]; exact B3, (hx.on ((On.refl _ wr).set t (.int .u32 X)) (Nat.le_refl _)).drew⟩
        case measure => simp [intOf]; omega
      · obtain rfl : t = 80 := by omega
        simp only [Int.cast_ofNat_Int]
        have HW := Lib.hid (H0.out.ext hx)
        have q1 : wr.cell? ⟨h, 1, none⟩ = some (.int .u32 y0) := HW.out.at (j := 1) rfl
        have q2 : wr.cell? ⟨h, 2, none⟩ = some (.int .u32 y1) := HW.out.at (j := 2) rfl
        have q3 : wr.cell? ⟨h, 3, none⟩ = some (.int .u32 y2) := HW.out.at (j := 3) rfl
        have q4 : wr.cell? ⟨h, 4, none⟩ = some (.int .u32 y3) := HW.out.at (j := 4) rfl
        have q5 : wr.cell? ⟨h, 5, none⟩ = some (.int .u32 y4) := HW.out.at (j := 5) rfl
        have qd : (World.drew wr).cell? ⟨h, 1, none⟩ = some (.int .u32 y0) ∧ (World.drew wr).cell? ⟨h, 2, none⟩ = some (.int .u32 y1) ∧ (World.drew wr).cell? ⟨h, 3, none⟩ = some (.int .u32 y2) ∧ (World.drew wr).cell? ⟨h, 4, none⟩ = some (.int .u32 y3) ∧ (World.drew wr).cell? ⟨h, 5, none⟩ = some (.int .u32 y4) := ⟨q1, q2, q3, q4, q5⟩
        go_wp2_with fail
        go_region_held3 (fun W' => W'.cell? ⟨h, 1, none⟩ = some (.int .u32 y0) ∧ W'.cell? ⟨h, 2, none⟩ = some (.int .u32 y1) ∧ W'.cell? ⟨h, 3, none⟩ = some (.int .u32 y2) ∧ W'.cell? ⟨h, 4, none⟩ = some (.int .u32 y3) ∧ W'.cell? ⟨h, 5, none⟩ = some (.int .u32 y4)) ((first | (with_reducible exact qd) | fail)) (fail)
        clear q1 q2 q3 q4 q5 qd HB
        go_wp2_with fail
        have hlp0 := sch1_length rest 80
        obtain ⟨p, hpe⟩ : ∃ p, p = sch1 rest 80 := ⟨_, rfl⟩
        rw [← hpe] at B hlp0
        have HPE := Lib.hid hpe
        clear hpe
        have HLP := Lib.hid hlp0
        clear hlp0
        generalize hwd : World.drew wr = wd
        have Bd := B.ext (Ext.refl _).drew
        have hxd := hx.drew
        rw [hwd] at Bd hxd
        go_loopw [4, 5, 6, 7, 8, 9, 10, 11, 12, 77] (fun a b c d e _ _ _ _ i W => ∃ t : Nat, ∃ A B' C D E : Int, t ≤ 80 ∧ i = .int .i64 t ∧ a = .int .u32 A ∧ b = .int .u32 B' ∧ c = .int .u32 C ∧ d = .int .u32 D ∧ e = .int .u32 E ∧ BoxF W w.heap.size (arrC p 80) ∧ Ext w W ∧ rnds1 p (y0, y1, y2, y3, y4) t = (A, B', C, D, E)) (fun _ _ _ _ _ _ _ _ _ i _ => 80 - (intOf i).toNat)
        case atStart => exact ⟨0, _, _, _, _, _, Nat.zero_le _, rfl, rfl, rfl, rfl, rfl, rfl, Bd, hxd, rfl⟩
        case round =>
          obtain ⟨t, xa, xb, xc, xd, xe, ht2, rfl, rfl, rfl, rfl, rfl, rfl, B2, hx2, hs⟩ := hrel
          have HS := Lib.hid hs
          clear hs
          by_cases h20 : t < 20
          · have j0 : (t : Int).tdiv 20 = 0 := by rw [Int.tdiv_eq_ediv_of_nonneg (by omega)]; omega
            have hlp : p.length = 80 := HLP.out
            have ct := B2.at (arrC_get p 80 t (by omega))
            have ctd : (World.drew wr).cell? ⟨w.heap.size, t, none⟩ = some (.int .u32 (p.getD t 0)) := ct
            have tb : (t : Int) < 80 := by omega
            have tn : t < 80 := by omega
            clear hlp
            go_wp2_with fail
            go_region_held3 (fun W' => W'.cell? ⟨w.heap.size, t, none⟩ = some (.int .u32 (p.getD t 0))) ((first | (with_reducible exact ctd) | fail))
              (first | (go_at_call 218; refine (rotl_5 _ _).mono ?_; rintro e w2 ⟨rfl, rfl⟩) | fail)
            go_wp2_with (first | (go_at_call 218; refine (rotl_30 _ _).mono ?_; rintro e w2 ⟨rfl, rfl⟩) | fail)
            go_roundw
            case rel => exact ⟨t + 1, _, _, _, _, _, by omega, by go_num, rfl, rfl, rfl, rfl, rfl, B2.ext (Ext.refl _).drew, hx2.drew, rnds1_succ HS.out (f1_a t _ _ _ h20)⟩
            case measure => simp [intOf]; omega
          by_cases h40 : t < 40
          · have j0 : (t : Int).tdiv 20 = 1 := by rw [Int.tdiv_eq_ediv_of_nonneg (by omega)]; omega
            have hlp : p.length = 80 := HLP.out
            have ct := B2.at (arrC_get p 80 t (by omega))
            have ctd : (World.drew wr).cell? ⟨w.heap.size, t, none⟩ = some (.int .u32 (p.getD t 0)) := ct
            have tb : (t : Int) < 80 := by omega
            have tn : t < 80 := by omega
            clear hlp
            go_wp2_with fail
            go_region_held3 (fun W' => W'.cell? ⟨w.heap.size, t, none⟩ = some (.int .u32 (p.getD t 0))) ((first | (with_reducible exact ctd) | fail))
              (first | (go_at_call 218; refine (rotl_5 _ _).mono ?_; rintro e w2 ⟨rfl, rfl⟩) | fail)
            go_wp2_with (first | (go_at_call 218; refine (rotl_30 _ _).mono ?_; rintro e w2 ⟨rfl, rfl⟩) | fail)
            go_roundw
            case rel => exact ⟨t + 1, _, _, _, _, _, by omega, by go_num, rfl, rfl, rfl, rfl, rfl, B2.ext (Ext.refl _).drew, hx2.drew, rnds1_succ HS.out (f1_b t _ _ _ h20 h40)⟩
            case measure => simp [intOf]; omega
          by_cases h60 : t < 60
          · have j0 : (t : Int).tdiv 20 = 2 := by rw [Int.tdiv_eq_ediv_of_nonneg (by omega)]; omega
            have hlp : p.length = 80 := HLP.out
            have ct := B2.at (arrC_get p 80 t (by omega))
            have ctd : (World.drew wr).cell? ⟨w.heap.size, t, none⟩ = some (.int .u32 (p.getD t 0)) := ct
            have tb : (t : Int) < 80 := by omega
            have tn : t < 80 := by omega
            clear hlp
            go_wp2_with fail
            go_region_held3 (fun W' => W'.cell? ⟨w.heap.size, t, none⟩ = some (.int .u32 (p.getD t 0))) ((first | (with_reducible exact ctd) | fail))
              (first | (go_at_call 218; refine (rotl_5 _ _).mono ?_; rintro e w2 ⟨rfl, rfl⟩) | fail)
            go_wp2_with (first | (go_at_call 218; refine (rotl_30 _ _).mono ?_; rintro e w2 ⟨rfl, rfl⟩) | fail)
            go_roundw
            case rel => exact ⟨t + 1, _, _, _, _, _, by omega, by go_num, rfl, rfl, rfl, rfl, rfl, B2.ext (Ext.refl _).drew, hx2.drew, rnds1_succ HS.out (f1_c t _ _ _ h20 h40 h60)⟩
            case measure => simp [intOf]; omega
          by_cases h80 : t < 80
          · have j0 : (t : Int).tdiv 20 = 3 := by rw [Int.tdiv_eq_ediv_of_nonneg (by omega)]; omega
            have hlp : p.length = 80 := HLP.out
            have ct := B2.at (arrC_get p 80 t (by omega))
            have ctd : (World.drew wr).cell? ⟨w.heap.size, t, none⟩ = some (.int .u32 (p.getD t 0)) := ct
            have tb : (t : Int) < 80 := by omega
            have tn : t < 80 := by omega
            clear hlp
            go_wp2_with fail
            go_region_held3 (fun W' => W'.cell? ⟨w.heap.size, t, none⟩ = some (.int .u32 (p.getD t 0))) ((first | (with_reducible exact ctd) | fail))
              (first | (go_at_call 218; refine (rotl_5 _ _).mono ?_; rintro e w2 ⟨rfl, rfl⟩) | fail)
            go_wp2_with (first | (go_at_call 218; refine (rotl_30 _ _).mono ?_; rintro e w2 ⟨rfl, rfl⟩) | fail)
            go_roundw
            case rel => exact ⟨t + 1, _, _, _, _, _, by omega, by go_num, rfl, rfl, rfl, rfl, rfl, B2.ext (Ext.refl _).drew, hx2.drew, rnds1_succ HS.out (f1_d t _ _ _ h20 h40 h60)⟩
            case measure => simp [intOf]; omega
          obtain rfl : t = 80 := by omega
          simp only [Int.cast_ofNat_Int]
          go_wp2_with fail
          have BH0 : BoxF wr h (hashC kind (addW [y0, y1, y2, y3, y4, y5, y6, y7] [xa, xb, xc, xd, xe] 0) rest n all) := H0.out.ext hx2
          have O40 := On.of (g := h) hx2
          go_loopw [13, 14, 142] (fun _ _ i W => ∃ j : Nat, j ≤ 5 ∧ i = .int .i64 j ∧ BoxF W h (hashC kind (addW [y0, y1, y2, y3, y4, y5, y6, y7] [xa, xb, xc, xd, xe] j) rest n all) ∧ On h w W) (fun _ _ i _ => 5 - (intOf i).toNat)
          case atStart => exact ⟨0, Nat.zero_le _, rfl, BH0, O40⟩
          case round =>
            clear BH0 O40
            obtain ⟨j, hj, rfl, BH, O4⟩ := hrel
            have i0 : ∀ w : World, (Instr.index 202 (.agg #[.int .u32 xa, .int .u32 xb, .int .u32 xc, .int .u32 xd, .int .u32 xe]) (.int .i64 0)).run Tryz.prog w = .ok (.int .u32 xa) w := fun _ => by kernel_rfl
            have i1 : ∀ w : World, (Instr.index 202 (.agg #[.int .u32 xa, .int .u32 xb, .int .u32 xc, .int .u32 xd, .int .u32 xe]) (.int .i64 1)).run Tryz.prog w = .ok (.int .u32 xb) w := fun _ => by kernel_rfl
            have i2 : ∀ w : World, (Instr.index 202 (.agg #[.int .u32 xa, .int .u32 xb, .int .u32 xc, .int .u32 xd, .int .u32 xe]) (.int .i64 2)).run Tryz.prog w = .ok (.int .u32 xc) w := fun _ => by kernel_rfl
            have i3 : ∀ w : World, (Instr.index 202 (.agg #[.int .u32 xa, .int .u32 xb, .int .u32 xc, .int .u32 xd, .int .u32 xe]) (.int .i64 3)).run Tryz.prog w = .ok (.int .u32 xd) w := fun _ => by kernel_rfl
            have i4 : ∀ w : World, (Instr.index 202 (.agg #[.int .u32 xa, .int .u32 xb, .int .u32 xc, .int .u32 xd, .int .u32 xe]) (.int .i64 4)).run Tryz.prog w = .ok (.int .u32 xe) w := fun _ => by kernel_rfl
            have hj5 : j = 0 ∨ j = 1 ∨ j = 2 ∨ j = 3 ∨ j = 4 ∨ j = 5 := by omega
            rcases hj5 with rfl | rfl | rfl | rfl | rfl | rfl
            all_goals simp only [Int.cast_ofNat_Int]
            · have p := BH.at (j := 1) (v := .int .u32 y0) rfl
              have f := BH.free 1 (by rw [hashC_length, hr]; omega)
              go_wp2_with fail
              go_region
              all_goals
                go_wp2_with fail
                go_roundw
                case rel => exact ⟨1, by omega, rfl, (BH.set 1 (.int .u32 (add32 y0 xa))).ext (Ext.refl _).drew, (O4.set 1 _).ext (Ext.refl _).drew⟩
                case measure => simp [intOf]
            · have p := BH.at (j := 2) (v := .int .u32 y1) rfl
              have f := BH.free 2 (by rw [hashC_length, hr]; omega)
              go_wp2_with fail
              go_region
              all_goals
                go_wp2_with fail
                go_roundw
                case rel => exact ⟨2, by omega, rfl, (BH.set 2 (.int .u32 (add32 y1 xb))).ext (Ext.refl _).drew, (O4.set 2 _).ext (Ext.refl _).drew⟩
                case measure => simp [intOf]
            · have p := BH.at (j := 3) (v := .int .u32 y2) rfl
              have f := BH.free 3 (by rw [hashC_length, hr]; omega)
              go_wp2_with fail
              go_region
              all_goals
                go_wp2_with fail
                go_roundw
                case rel => exact ⟨3, by omega, rfl, (BH.set 3 (.int .u32 (add32 y2 xc))).ext (Ext.refl _).drew, (O4.set 3 _).ext (Ext.refl _).drew⟩
                case measure => simp [intOf]
            · have p := BH.at (j := 4) (v := .int .u32 y3) rfl
              have f := BH.free 4 (by rw [hashC_length, hr]; omega)
              go_wp2_with fail
              go_region
              all_goals
                go_wp2_with fail
                go_roundw
                case rel => exact ⟨4, by omega, rfl, (BH.set 4 (.int .u32 (add32 y3 xd))).ext (Ext.refl _).drew, (O4.set 4 _).ext (Ext.refl _).drew⟩
                case measure => simp [intOf]
            · have p := BH.at (j := 5) (v := .int .u32 y4) rfl
              have f := BH.free 5 (by rw [hashC_length, hr]; omega)
              go_wp2_with fail
              go_region
              all_goals
                go_wp2_with fail
                go_roundw
                case rel => exact ⟨5, by omega, rfl, (BH.set 5 (.int .u32 (add32 y4 xe))).ext (Ext.refl _).drew, (O4.set 5 _).ext (Ext.refl _).drew⟩
                case measure => simp [intOf]
            · go_wp2_with fail
              refine bodyPost_end (results_none rfl _ _ _) rfl ?_
              refine ⟨rfl, O4, ?_⟩
              have e : comp1 [y0, y1, y2, y3, y4, y5, y6, y7] rest = addW [y0, y1, y2, y3, y4, y5, y6, y7] [xa, xb, xc, xd, xe] 5 := by
                have hs := HS.out
                rw [HPE.out] at hs
                have hs' : rnds1 (sch1 rest 80) (List.getD [y0, y1, y2, y3, y4, y5, y6, y7] 0 0, List.getD [y0, y1, y2, y3, y4, y5, y6, y7] 1 0, List.getD [y0, y1, y2, y3, y4, y5, y6, y7] 2 0, List.getD [y0, y1, y2, y3, y4, y5, y6, y7] 3 0, List.getD [y0, y1, y2, y3, y4, y5, y6, y7] 4 0) 80 = (xa, xb, xc, xd, xe) := hs
                unfold comp1
                rw [hs']
              rw [e]
              exact BH
end Go.Proofs.YtbodppfpmpmadaaGreat

