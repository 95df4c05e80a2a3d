import Derived.Test.YtbodppfpmpmadaaGreatL8C
namespace Go.Proofs.YtbodppfpmpmadaaGreat
open Go.RowKit

set_option maxRecDepth 100000 in
set_option maxHeartbeats 4000000 in
theorem appendOkR_good (w : World) (v vt : Value) (l trk : List UInt8) (c a i st wn : Int) (info : ByteArray) (k : Bool) (hr : Rd w v l) (ht : Rd w vt trk) (hl : l.length ≤ 1000000) (hi : info.size ≤ 100000) (htl : trk.length ≤ 100000)
    (ha : 0 ≤ a ∧ a < 18446744073709551616) (hii : 0 ≤ i ∧ i < 18446744073709551616) (hst : 0 ≤ st ∧ st < 65536) (hwn : 0 ≤ wn ∧ wn < 65536) (h : trk = [] ∨ trackB c st = true) :
    Calls Tryz.prog 120 #[v, .int .u32 c, .agg #[.int .u64 a, .int .u64 i, .int .u16 st, .int .u16 wn, .string info, vt], .bool k] w (RetBE w (l ++ (okHead k a i st wn ++ okTail c st info.data.toList trk)) 0) := by
  obtain ⟨q, hq⟩ : ∃ q, hasB c 8388608 = q := ⟨_, rfl⟩
  obtain ⟨t, htr⟩ : ∃ t, trackB c st = t := ⟨_, rfl⟩
  have hcase : (¬ 0 < trk.length ∧ q = false ∧ t = false) ∨ (¬ 0 < trk.length ∧ q = true ∧ t = false) ∨ (¬ 0 < trk.length ∧ q = true ∧ t = true) ∨ (0 < trk.length ∧ q = true ∧ t = true) := by
    have h1 : q = false → t = false := by intro hh; rw [← htr, trackB, hq, hh]; rfl
    rcases h with rfl | h
    · cases q <;> cases t <;> simp_all
    · have h2 : t = true := htr.symm.trans h
      have h3 : q = true := by cases q <;> simp_all
      rcases Nat.eq_zero_or_pos trk.length with h4 | h4
      · exact .inr (.inr (.inl ⟨by omega, h3, h2⟩))
      · exact .inr (.inr (.inr ⟨h4, h3, h2⟩))
  have hia := intB_length a
  have hib := sizeI_le a
  rw [← hia] at hib
  have hja := intB_length i
  have hjb := sizeI_le i
  rw [← hja] at hjb
  clear hia hja h
  have htx : (textB info.data.toList).length ≤ info.size + 9 := textB_le info
  have hf1 : (fixB st 2).length = 2 := fixB_length st 2
  have hf2 : (fixB wn 2).length = 2 := fixB_length wn 2
  have HR := Lib.hid hr
  have HV := Lib.hid ht
  have HQ := Lib.hid hq
  have HT := Lib.hid htr
  have HW1 := Lib.hid (show IntKind.u64.wrap st = st from IntWalk.u64_in st (by omega))
  have HW2 := Lib.hid (show IntKind.u64.wrap wn = wn from IntWalk.u64_in wn (by omega))
  have HK1 := Lib.hid (show fixOk st 2 = true by simp [fixOk]; omega)
  have HK2 := Lib.hid (show fixOk wn 2 = true by simp [fixOk]; omega)
  obtain ⟨A, cap, hvt, h1, h2, h3, h4⟩ := ht
  clear h3 h4 hr hq htr
  subst hvt
  cases k
  · rcases hcase with ⟨hpos, rfl, rfl⟩ | ⟨hpos, rfl, rfl⟩ | ⟨hpos, rfl, rfl⟩ | ⟨hpos, rfl, rfl⟩
    all_goals
      go_enter Tryz.func120, Tryz.ntmps120
      go_wp2_with (go_at_call 132; refine (trackR_c _ _ _ _ HT.out).mono ?_; rintro e wx ⟨rfl, rfl⟩)
      generalize hW0 : w.alloc _ = W0
      have hbox : Box W0 w.heap.size [.int .u64 a, .int .u64 i, .int .u16 st, .int .u16 wn, .string info, .slice A trk.length cap] := by rw [← hW0]; exact Box.new w _ _
      have hx0 : Ext w W0 := by rw [← hW0]; exact (Ext.refl w).alloc _
      clear hW0
      have hE := Ext.refl W0
      have hlt : w.heap.size < W0.heap.size := World.block_lt_of_cell? W0 _ (hbox 0 (by simp))
      go_region_held3 (fun W' => W'.cell? ⟨w.heap.size, 0, none⟩ = some (.int .u64 a) ∧ Ext W0 W') ((refine Box.held1 hbox (j := 0) (by simp) ?_; first | exact hE.drew | exact (hE.alloc _).drew | exact ((hE.alloc _).alloc _).drew | exact hE | exact hE.alloc _))
        (first
          | ((with_reducible show (if Region.wanted (⟨some 26, _, _, _, _, _⟩ : Oper) _ = true then _ else _)); refine step_append_rdg bt ((own_nil W0 W0.heap.size W0.heap.size rfl hE.size).ext (Ext.refl _).drew) (HR.out.ext (hx0.trans ((hE.alloc _).drew))) (by rfl) _ _ (by rfl) (by rfl) (by rfl) (by simp; omega) (by first | (simp; done) | (simp; omega)) ?_; intro v1 w1 ho1 hb1 hg1; replace hE := ((hE.alloc _).drew).below hb1 (Nat.le_refl _))
          | ((with_reducible show (if Region.wanted (⟨some 26, _, _, _, _, _⟩ : Oper) _ = true then _ else _)); refine step_append_rdg bt ((own_nil W0 W0.heap.size W0.heap.size rfl hE.size).ext ((Ext.refl _).alloc _).drew) (HR.out.ext (hx0.trans (((hE.alloc _).alloc _).drew))) (by rfl) _ _ (by rfl) (by rfl) (by rfl) (by simp; omega) (by first | (simp; done) | (simp; omega)) ?_; intro v1 w1 ho1 hb1 hg1; replace hE := (((hE.alloc _).alloc _).drew).below hb1 (Nat.le_refl _))
          | ((with_reducible show (if Region.wanted (⟨some 26, _, _, _, _, _⟩ : Oper) _ = true then _ else _)); refine step_append_rdg bt ((own_nil (W0.alloc _) (W0.heap.size + 1) W0.heap.size (by simp) (hE.alloc _).size).ext (Ext.refl _).drew) (HR.out.ext (hx0.trans (((hE.alloc _).alloc _).drew))) (by rfl) _ _ (by rfl) (by rfl) (by rfl) (by simp; omega) (by first | (simp; done) | (simp; omega)) ?_; intro v1 w1 ho1 hb1 hg1; replace hE := (((hE.alloc _).alloc _).drew).below hb1 (Nat.le_refl _))
          | ((with_reducible show (if Region.wanted (⟨some 29, _, _, _, _, _⟩ : Oper) _ = true then _ else _)); refine step_append_rd bt (ho1.ext ((Ext.refl _).alloc _)) (rd_lit w1 _ [0] (by rfl) (by simp) 1 _ (by rfl) (by rfl)) (by rfl) _ _ (by rfl) (by rfl) (by rfl) (by simp; omega) (hE.alloc _).size ?_; intro v2 w2 ho2 hb2; replace hE := (hE.alloc _).below hb2 (Nat.le_refl _))
          | ((with_reducible show (if Region.wanted (⟨some 29, _, _, _, _, _⟩ : Oper) _ = true then _ else _)); refine step_append_rd bt ho1 (rd_far ((rd_lit (W0.alloc _) _ [0] (by rfl) (by simp) 1 (W0.heap.size + 1) (by rfl) (by simp)).ext (Ext.refl _).drew) hg1 (by simp [Value.ownBlock])) (by rfl) _ _ (by rfl) (by rfl) (by rfl) (by simp; omega) hE.size ?_; intro v2 w2 ho2 hb2; replace hE := hE.below hb2 (Nat.le_refl _))
          | ((with_reducible show (if Region.wanted (⟨some 29, _, _, _, _, _⟩ : Oper) _ = true then _ else _)); refine step_append_rd bt ho1 (rd_far ((rd_lit W0 _ [0] (by rfl) (by simp) 1 _ (by rfl) (by rfl)).ext ((Ext.refl _).alloc _).drew) hg1 (by simp [Value.ownBlock])) (by rfl) _ _ (by rfl) (by rfl) (by rfl) (by simp; omega) hE.size ?_; intro v2 w2 ho2 hb2; replace hE := hE.below hb2 (Nat.le_refl _))
          | ((with_reducible show Calls _ _ #[v2, _] _ _); go_at_call 164; refine (appendInt_ref _ _ _ a (ho2).rd (by omega) (by omega) (by simp; omega)).mono ?_; rintro e w3 ⟨v3, rfl, ho', hx3⟩; have ho3 := ho'.more (base' := W0.heap.size) (hE).size; clear ho'; replace hE := (hE).trans hx3))
      all_goals
        clear ho1 ho2 hg1 hb1 hb2 hx3
        go_wp2_with fail
        go_region_held3 (fun W' => W'.cell? ⟨w.heap.size, 1, none⟩ = some (.int .u64 i) ∧ W'.cell? ⟨w.heap.size, 2, none⟩ = some (.int .u16 st) ∧ W'.cell? ⟨w.heap.size, 3, none⟩ = some (.int .u16 wn) ∧ Ext W0 W') ((refine Box.held3 hbox (j := 1) (k := 2) (m := 3) (by simp) (by simp) (by simp) ?_; first | exact hE.drew | exact (hE.alloc _).drew | exact ((hE.alloc _).alloc _).drew | exact hE | exact hE.alloc _))
          (first
            | ((with_reducible show Calls _ _ #[v3, _] _ _); go_at_call 164; refine (appendInt_ref _ _ _ i (ho3.ext (Ext.refl _).drew).rd (by omega) (by omega) (by simp; omega)).mono ?_; rintro e w5 ⟨v5, rfl, ho', hx5⟩; have ho5 := ho'.more (base' := W0.heap.size) (hE.drew).size; clear ho'; replace hE := (hE.drew).trans hx5)
            | ((with_reducible show Calls _ _ #[v5, _, _] _ _); go_at_call 165; rw [HW1.out]; refine (fixedR_c _ _ _ st 2 (ho5).rd (by simp; omega) HK1.out).mono ?_; rintro e w6 ⟨v6, rfl, ho', hx6⟩; have ho6 := ho'.more (base' := W0.heap.size) (hE).size; clear ho'; replace hE := (hE).trans hx6)
            | ((with_reducible show Calls _ _ #[v6, _, _] _ _); go_at_call 165; rw [HW2.out]; refine (fixedR_c _ _ _ wn 2 (ho6).rd (by simp; omega) HK2.out).mono ?_; rintro e w7 ⟨v7, rfl, ho', hx7⟩; have ho7 := ho'.more (base' := W0.heap.size) (hE).size; clear ho'; replace hE := (hE).trans hx7))
        clear ho3 ho5 ho6 hx5 hx6 hx7
        have ho := ho7
        clear ho7
        obtain ⟨c0, c1, c2, c3, c4, c5⟩ := hbox.six hE
        go_wp2_with (first
          | (go_at_call 104; refine (hasR_at _ _ _ _ HQ.out).mono ?_; rintro e wx ⟨rfl, rfl⟩)
          | (at_builtin; refine wpl_append_st bt info ho rfl _ _ rfl rfl rfl (by simp; omega) hE.size ?_; intro v8 w8 ho8 hb8; replace hE := hE.below hb8 (Nat.le_refl _); replace ho := ho8; clear ho8 hb8)
          | ((with_reducible show Calls _ _ #[_, .string info] _ _); go_at_call 166; refine (appendText_ref _ _ _ info ho.rd (by omega) (by simp; omega)).mono ?_; rintro e w9 ⟨v9, rfl, ho', hx9⟩; replace ho := ho'.more (base' := W0.heap.size) hE.size; clear ho'; replace hE := hE.trans hx9; clear c0 c1 c2 c3 c4 c5; obtain ⟨c0, c1, c2, c3, c4, c5⟩ := hbox.six hE)
          | (go_at_call 132; refine (trackR_c _ _ _ _ HT.out).mono ?_; rintro e wx ⟨rfl, rfl⟩)
          | ((with_reducible show AtS 63); refine wpl_str bt (HV.out.ext (hx0.trans hE)) rfl _ rfl rfl ?_)
          | (go_at_call 166; refine (appendText_ref _ _ _ (strL trk) ho.rd (by rw [strL_size]; omega) (by simp; omega)).mono ?_; rintro e w11 ⟨v11, rfl, ho', hx11⟩; replace ho := ho'.more (base' := W0.heap.size) hE.size; clear ho'; replace hE := hE.trans hx11))
        go_ret2
        refine ⟨_, rfl, ?_, hx0.trans hE⟩
        have := ho.more (base' := w.heap.size) (by omega)
        simpa [okHead, okTail, HQ.out, HT.out, strL_toList] using this
  · rcases hcase with ⟨hpos, rfl, rfl⟩ | ⟨hpos, rfl, rfl⟩ | ⟨hpos, rfl, rfl⟩ | ⟨hpos, rfl, rfl⟩
    all_goals
      go_enter Tryz.func120, Tryz.ntmps120
      go_wp2_with (go_at_call 132; refine (trackR_c _ _ _ _ HT.out).mono ?_; rintro e wx ⟨rfl, rfl⟩)
      generalize hW0 : w.alloc _ = W0
      have hbox : Box W0 w.heap.size [.int .u64 a, .int .u64 i, .int .u16 st, .int .u16 wn, .string info, .slice A trk.length cap] := by rw [← hW0]; exact Box.new w _ _
      have hx0 : Ext w W0 := by rw [← hW0]; exact (Ext.refl w).alloc _
      clear hW0
      have hE := Ext.refl W0
      have hlt : w.heap.size < W0.heap.size := World.block_lt_of_cell? W0 _ (hbox 0 (by simp))
      go_region_held3 (fun W' => W'.cell? ⟨w.heap.size, 0, none⟩ = some (.int .u64 a) ∧ Ext W0 W') ((refine Box.held1 hbox (j := 0) (by simp) ?_; first | exact hE.drew | exact (hE.alloc _).drew | exact ((hE.alloc _).alloc _).drew | exact hE | exact hE.alloc _))
        (first
          | ((with_reducible show (if Region.wanted (⟨some 26, _, _, _, _, _⟩ : Oper) _ = true then _ else _)); refine step_append_rdg bt ((own_nil W0 W0.heap.size W0.heap.size rfl hE.size).ext (Ext.refl _).drew) (HR.out.ext (hx0.trans ((hE.alloc _).drew))) (by rfl) _ _ (by rfl) (by rfl) (by rfl) (by simp; omega) (by first | (simp; done) | (simp; omega)) ?_; intro v1 w1 ho1 hb1 hg1; replace hE := ((hE.alloc _).drew).below hb1 (Nat.le_refl _))
          | ((with_reducible show (if Region.wanted (⟨some 26, _, _, _, _, _⟩ : Oper) _ = true then _ else _)); refine step_append_rdg bt ((own_nil W0 W0.heap.size W0.heap.size rfl hE.size).ext ((Ext.refl _).alloc _).drew) (HR.out.ext (hx0.trans (((hE.alloc _).alloc _).drew))) (by rfl) _ _ (by rfl) (by rfl) (by rfl) (by simp; omega) (by first | (simp; done) | (simp; omega)) ?_; intro v1 w1 ho1 hb1 hg1; replace hE := (((hE.alloc _).alloc _).drew).below hb1 (Nat.le_refl _))
          | ((with_reducible show (if Region.wanted (⟨some 26, _, _, _, _, _⟩ : Oper) _ = true then _ else _)); refine step_append_rdg bt ((own_nil (W0.alloc _) (W0.heap.size + 1) W0.heap.size (by simp) (hE.alloc _).size).ext (Ext.refl _).drew) (HR.out.ext (hx0.trans (((hE.alloc _).alloc _).drew))) (by rfl) _ _ (by rfl) (by rfl) (by rfl) (by simp; omega) (by first | (simp; done) | (simp; omega)) ?_; intro v1 w1 ho1 hb1 hg1; replace hE := (((hE.alloc _).alloc _).drew).below hb1 (Nat.le_refl _))
          | ((with_reducible show (if Region.wanted (⟨some 29, _, _, _, _, _⟩ : Oper) _ = true then _ else _)); refine step_append_rd bt (ho1.ext ((Ext.refl _).alloc _)) (rd_lit w1 _ [254] (by rfl) (by simp) 1 _ (by rfl) (by rfl)) (by rfl) _ _ (by rfl) (by rfl) (by rfl) (by simp; omega) (hE.alloc _).size ?_; intro v2 w2 ho2 hb2; replace hE := (hE.alloc _).below hb2 (Nat.le_refl _))
          | ((with_reducible show (if Region.wanted (⟨some 29, _, _, _, _, _⟩ : Oper) _ = true then _ else _)); refine step_append_rd bt ho1 (rd_far ((rd_lit (W0.alloc _) _ [254] (by rfl) (by simp) 1 (W0.heap.size + 1) (by rfl) (by simp)).ext (Ext.refl _).drew) hg1 (by simp [Value.ownBlock])) (by rfl) _ _ (by rfl) (by rfl) (by rfl) (by simp; omega) hE.size ?_; intro v2 w2 ho2 hb2; replace hE := hE.below hb2 (Nat.le_refl _))
          | ((with_reducible show (if Region.wanted (⟨some 29, _, _, _, _, _⟩ : Oper) _ = true then _ else _)); refine step_append_rd bt ho1 (rd_far ((rd_lit W0 _ [254] (by rfl) (by simp) 1 _ (by rfl) (by rfl)).ext ((Ext.refl _).alloc _).drew) hg1 (by simp [Value.ownBlock])) (by rfl) _ _ (by rfl) (by rfl) (by rfl) (by simp; omega) hE.size ?_; intro v2 w2 ho2 hb2; replace hE := hE.below hb2 (Nat.le_refl _))
          | ((with_reducible show Calls _ _ #[v2, _] _ _); go_at_call 164; refine (appendInt_ref _ _ _ a (ho2).rd (by omega) (by omega) (by simp; omega)).mono ?_; rintro e w3 ⟨v3, rfl, ho', hx3⟩; have ho3 := ho'.more (base' := W0.heap.size) (hE).size; clear ho'; replace hE := (hE).trans hx3))
      all_goals
        clear ho1 ho2 hg1 hb1 hb2 hx3
        go_wp2_with fail
        go_region_held3 (fun W' => W'.cell? ⟨w.heap.size, 1, none⟩ = some (.int .u64 i) ∧ W'.cell? ⟨w.heap.size, 2, none⟩ = some (.int .u16 st) ∧ W'.cell? ⟨w.heap.size, 3, none⟩ = some (.int .u16 wn) ∧ Ext W0 W') ((refine Box.held3 hbox (j := 1) (k := 2) (m := 3) (by simp) (by simp) (by simp) ?_; first | exact hE.drew | exact (hE.alloc _).drew | exact ((hE.alloc _).alloc _).drew | exact hE | exact hE.alloc _))
          (first
            | ((with_reducible show Calls _ _ #[v3, _] _ _); go_at_call 164; refine (appendInt_ref _ _ _ i (ho3.ext (Ext.refl _).drew).rd (by omega) (by omega) (by simp; omega)).mono ?_; rintro e w5 ⟨v5, rfl, ho', hx5⟩; have ho5 := ho'.more (base' := W0.heap.size) (hE.drew).size; clear ho'; replace hE := (hE.drew).trans hx5)
            | ((with_reducible show Calls _ _ #[v5, _, _] _ _); go_at_call 165; rw [HW1.out]; refine (fixedR_c _ _ _ st 2 (ho5).rd (by simp; omega) HK1.out).mono ?_; rintro e w6 ⟨v6, rfl, ho', hx6⟩; have ho6 := ho'.more (base' := W0.heap.size) (hE).size; clear ho'; replace hE := (hE).trans hx6)
            | ((with_reducible show Calls _ _ #[v6, _, _] _ _); go_at_call 165; rw [HW2.out]; refine (fixedR_c _ _ _ wn 2 (ho6).rd (by simp; omega) HK2.out).mono ?_; rintro e w7 ⟨v7, rfl, ho', hx7⟩; have ho7 := ho'.more (base' := W0.heap.size) (hE).size; clear ho'; replace hE := (hE).trans hx7))
        clear ho3 ho5 ho6 hx5 hx6 hx7
        have ho := ho7
        clear ho7
        obtain ⟨c0, c1, c2, c3, c4, c5⟩ := hbox.six hE
        go_wp2_with (first
          | (go_at_call 104; refine (hasR_at _ _ _ _ HQ.out).mono ?_; rintro e wx ⟨rfl, rfl⟩)
          | (at_builtin; refine wpl_append_st bt info ho rfl _ _ rfl rfl rfl (by simp; omega) hE.size ?_; intro v8 w8 ho8 hb8; replace hE := hE.below hb8 (Nat.le_refl _); replace ho := ho8; clear ho8 hb8)
          | ((with_reducible show Calls _ _ #[_, .string info] _ _); go_at_call 166; refine (appendText_ref _ _ _ info ho.rd (by omega) (by simp; omega)).mono ?_; rintro e w9 ⟨v9, rfl, ho', hx9⟩; replace ho := ho'.more (base' := W0.heap.size) hE.size; clear ho'; replace hE := hE.trans hx9; clear c0 c1 c2 c3 c4 c5; obtain ⟨c0, c1, c2, c3, c4, c5⟩ := hbox.six hE)
          | (go_at_call 132; refine (trackR_c _ _ _ _ HT.out).mono ?_; rintro e wx ⟨rfl, rfl⟩)
          | ((with_reducible show AtS 63); refine wpl_str bt (HV.out.ext (hx0.trans hE)) rfl _ rfl rfl ?_)
          | (go_at_call 166; refine (appendText_ref _ _ _ (strL trk) ho.rd (by rw [strL_size]; omega) (by simp; omega)).mono ?_; rintro e w11 ⟨v11, rfl, ho', hx11⟩; replace ho := ho'.more (base' := W0.heap.size) hE.size; clear ho'; replace hE := hE.trans hx11))
        go_ret2
        refine ⟨_, rfl, ?_, hx0.trans hE⟩
        have := ho.more (base' := w.heap.size) (by omega)
        simpa [okHead, okTail, HQ.out, HT.out, strL_toList] using this
end Go.Proofs.YtbodppfpmpmadaaGreat

