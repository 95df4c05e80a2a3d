import Derived.Test.YtbodppfpmpmadaaGreatL6C
namespace Go.Proofs.YtbodppfpmpmadaaGreat
open Go.RowKit

def trackB (c st : Int) : Bool := hasB c 8388608 && (bits .and .u16 st 16384 != 0)

theorem Box.six {W0 W : World} {g : Nat} {a b c d e f : Value} (h : Box W0 g [a, b, c, d, e, f]) (k : Ext W0 W) :
    W.cell? ⟨g, 0, none⟩ = some a ∧ W.cell? ⟨g, 1, none⟩ = some b ∧ W.cell? ⟨g, 2, none⟩ = some c ∧ W.cell? ⟨g, 3, none⟩ = some d ∧ W.cell? ⟨g, 4, none⟩ = some e ∧ W.cell? ⟨g, 5, none⟩ = some f :=
  ⟨(h.ext k) 0 (by simp), (h.ext k) 1 (by simp), (h.ext k) 2 (by simp), (h.ext k) 3 (by simp), (h.ext k) 4 (by simp), (h.ext k) 5 (by simp)⟩

set_option maxHeartbeats 400000 in
theorem tracked_c (w : World) (c a i st wn : Int) (info : ByteArray) (vt : Value) (r : Bool) (h : trackB c st = r) :
    Calls Tryz.prog 191 #[.int .u32 c, .agg #[.int .u64 a, .int .u64 i, .int .u16 st, .int .u16 wn, .string info, vt]] w fun e w' => e = .returned (.bool r) ∧ Ext w w' := by
  cases hk : hasB c 8388608 with
  | false =>
    have hr : r = false := by rw [← h]; simp [trackB, hk]
    subst hr
    have HK := Lib.hid hk
    clear hk h
    go_enter Tryz.func191, Tryz.ntmps191
    go_wp2_with (go_at_call 189; refine (has_at _ _ _ false HK.out).mono ?_; rintro e w1 ⟨rfl, rfl⟩)
    go_ret
    exact ⟨rfl, (Ext.refl _).alloc _⟩
  | true =>
    have hr : (bits .and .u16 st 16384 != 0) = r := by rw [← h]; simp [trackB, hk]
    have HK := Lib.hid hk
    have HQ := Lib.hid hr
    clear hk h hr
    go_enter Tryz.func191, Tryz.ntmps191
    go_wp2_with (go_at_call 189; refine (has_at _ _ _ true HK.out).mono ?_; rintro e w1 ⟨rfl, rfl⟩)
    go_ret
    rw [← HQ.out]
    exact ⟨rfl, (Ext.refl _).alloc _⟩

theorem textB_le (s : ByteArray) : (textB s.data.toList).length ≤ s.size + 9 := by
  have h1 := intB_length (s.size : Int)
  have h2 := sizeI_le (s.size : Int)
  rw [← h1] at h2
  simp only [textB, List.length_append, size_toList]
  omega

def okHead (k : Bool) (a i st wn : Int) : List UInt8 := (if k then 254 else 0) :: (intB a ++ (intB i ++ (fixB st 2 ++ fixB wn 2)))
def okTail (c st : Int) (info trk : List UInt8) : List UInt8 := if hasB c 8388608 then textB info ++ (if trackB c st then textB trk else []) else info

set_option maxRecDepth 100000 in
set_option maxHeartbeats 4000000 in
theorem appendOk_good (w : World) (v vt : Value) (l trk : List UInt8) (c a i st wn : Int) (info : ByteArray) (k : Bool) (hr : Rd w v l) (ht : Rd w vt trk) (hl : l.length ≤ 1000000) (hi : info.size ≤ 100000) (htl : trk.length ≤ 100000)
    (ha : 0 ≤ a ∧ a < 18446744073709551616) (hii : 0 ≤ i ∧ i < 18446744073709551616) (hst : 0 ≤ st ∧ st < 65536) (hwn : 0 ≤ wn ∧ wn < 65536) (h : trk = [] ∨ trackB c st = true) :
    Calls Tryz.prog 177 #[v, .int .u32 c, .agg #[.int .u64 a, .int .u64 i, .int .u16 st, .int .u16 wn, .string info, vt], .bool k] w (RetBE w (l ++ (okHead k a i st wn ++ okTail c st info.data.toList trk)) 0) := by
  obtain ⟨q, hq⟩ : ∃ q, hasB c 8388608 = q := ⟨_, rfl⟩
  obtain ⟨t, htr⟩ : ∃ t, trackB c st = t := ⟨_, rfl⟩
  have hcase : (¬ 0 < trk.length ∧ q = false ∧ t = false) ∨ (¬ 0 < trk.length ∧ q = true ∧ t = false) ∨ (¬ 0 < trk.length ∧ q = true ∧ t = true) ∨ (0 < trk.length ∧ q = true ∧ t = true) := by
    have h1 : q = false → t = false := by intro hh; rw [← htr, trackB, hq, hh]; rfl
    rcases h with rfl | h
    · cases q <;> cases t <;> simp_all
    · have h2 : t = true := htr.symm.trans h
      have h3 : q = true := by cases q <;> simp_all
      rcases Nat.eq_zero_or_pos trk.length with h4 | h4
      · exact .inr (.inr (.inl ⟨by omega, h3, h2⟩))
      · exact .inr (.inr (.inr ⟨h4, h3, h2⟩))
  have hia := intB_length a
  have hib := sizeI_le a
  rw [← hia] at hib
  have hja := intB_length i
  have hjb := sizeI_le i
  rw [← hja] at hjb
  clear hia hja h
  have htx : (textB info.data.toList).length ≤ info.size + 9 := textB_le info
  have hf1 : (fixB st 2).length = 2 := fixB_length st 2
  have hf2 : (fixB wn 2).length = 2 := fixB_length wn 2
  have HR := Lib.hid hr
  have HV := Lib.hid ht
  have HQ := Lib.hid hq
  have HT := Lib.hid htr
  have HW1 := Lib.hid (show IntKind.u64.wrap st = st from IntWalk.u64_in st (by omega))
  have HW2 := Lib.hid (show IntKind.u64.wrap wn = wn from IntWalk.u64_in wn (by omega))
  have HK1 := Lib.hid (show fixOk st 2 = true by simp [fixOk]; omega)
  have HK2 := Lib.hid (show fixOk wn 2 = true by simp [fixOk]; omega)
  obtain ⟨A, cap, hvt, h1, h2, h3, h4⟩ := ht
  clear h3 h4 hr hq htr
  subst hvt
  cases k
  all_goals rcases hcase with ⟨hpos, rfl, rfl⟩ | ⟨hpos, rfl, rfl⟩ | ⟨hpos, rfl, rfl⟩ | ⟨hpos, rfl, rfl⟩
  all_goals
    go_enter Tryz.func177, Tryz.ntmps177
    go_wp2_with fail
    generalize hW0 : w.alloc _ = W0
    have hbox : Box W0 w.heap.size [.int .u64 a, .int .u64 i, .int .u16 st, .int .u16 wn, .string info, .slice A trk.length cap] := by rw [← hW0]; exact Box.new w _ _
    have hx0 : Ext w W0 := by rw [← hW0]; exact (Ext.refl w).alloc _
    clear hW0
    have hE := Ext.refl W0
    have hlt : w.heap.size < W0.heap.size := World.block_lt_of_cell? W0 _ (hbox 0 (by simp))
    obtain ⟨c0, c1, c2, c3, c4, c5⟩ := hbox.six hE
    go_wp2_with (first
      | (go_at_call 191; refine (tracked_c _ _ _ _ _ _ _ _ _ HT.out).mono ?_; rintro e w1 ⟨rfl, hx1⟩; replace hE := hE.trans hx1; clear c0 c1 c2 c3 c4 c5; obtain ⟨c0, c1, c2, c3, c4, c5⟩ := hbox.six hE)
      | (go_at_call 97; (refine (clone_c _ _ _ (HR.out.ext (hx0.trans hE)) (by omega)).mono ?_; rintro e w2 ⟨v2, rfl, ho', hx2⟩; have ho := ho'.more (base' := W0.heap.size) hE.size; clear ho'; replace hE := hE.trans hx2))
      | (at_builtin; (first | refine wpl_append_one bt 0 ho (by omega) (by omega) rfl _ _ rfl rfl rfl (by omega) hE.size ?_ | refine wpl_append_one bt 254 ho (by omega) (by omega) rfl _ _ rfl rfl rfl (by omega) hE.size ?_); intro v3 w3 ho3 hb3; replace hE := hE.below hb3 (Nat.le_refl _); clear ho hb3))
    clear c0 c1 c2 c3 c4 c5
    go_region_held3 (fun W' => W'.cell? ⟨w.heap.size, 0, none⟩ = some (.int .u64 a) ∧ W'.cell? ⟨w.heap.size, 1, none⟩ = some (.int .u64 i) ∧ Ext W0 W') ((refine Box.held2 hbox (j := 0) (k := 1) (by simp) (by simp) ?_; first | exact hE | exact hE.drew))
      (first
        | ((with_reducible show Calls _ _ #[v3, _] _ _); go_at_call 183; refine (appendInt_len _ _ _ a (ho3.ext (Ext.refl _).drew).rd (by omega) (by omega) (by simp; omega)).mono ?_; rintro e w4 ⟨v4, rfl, ho', hx4⟩; have ho4 := ho'.more (base' := W0.heap.size) hE.size; clear ho'; replace hE := hE.drew.trans hx4)
        | ((with_reducible show Calls _ _ #[v4, _] _ _); go_at_call 183; refine (appendInt_len _ _ _ i ho4.rd (by omega) (by omega) (by simp; omega)).mono ?_; rintro e w5 ⟨v5, rfl, ho', hx5⟩; have ho5 := ho'.more (base' := W0.heap.size) hE.size; clear ho'; replace hE := hE.trans hx5))
    clear ho3 ho4
    go_wp2_with fail
    go_region_held3 (fun W' => W'.cell? ⟨w.heap.size, 2, none⟩ = some (.int .u16 st) ∧ W'.cell? ⟨w.heap.size, 3, none⟩ = some (.int .u16 wn) ∧ Ext W0 W') ((refine Box.held2 hbox (j := 2) (k := 3) (by simp) (by simp) ?_; first | exact hE | exact hE.drew))
      (first
        | ((with_reducible show Calls _ _ #[v5, _, _] _ _); go_at_call 176; rw [HW1.out]; refine (fixed_c _ _ _ st 2 (ho5.ext (Ext.refl _).drew).rd (by simp; omega) HK1.out).mono ?_; rintro e w6 ⟨v6, rfl, ho', hx6⟩; have ho6 := ho'.more (base' := W0.heap.size) hE.size; clear ho'; replace hE := hE.drew.trans hx6)
        | ((with_reducible show Calls _ _ #[v6, _, _] _ _); go_at_call 176; rw [HW2.out]; refine (fixed_c _ _ _ wn 2 ho6.rd (by simp; omega) HK2.out).mono ?_; rintro e w7 ⟨v7, rfl, ho', hx7⟩; have ho := ho'.more (base' := W0.heap.size) hE.size; clear ho'; replace hE := hE.trans hx7))
    clear ho5 ho6
    obtain ⟨c0, c1, c2, c3, c4, c5⟩ := hbox.six hE
    go_wp2_with (first
      | (go_at_call 189; refine (has_at _ _ _ _ HQ.out).mono ?_; rintro e wx ⟨rfl, rfl⟩)
      | (at_builtin; refine wpl_append_st bt info ho rfl _ _ rfl rfl rfl (by simp; omega) hE.size ?_; intro v8 w8 ho8 hb8; replace hE := hE.below hb8 (Nat.le_refl _); replace ho := ho8; clear ho8 hb8)
      | ((with_reducible show Calls _ _ #[_, .string info] _ _); go_at_call 149; refine (appendText_len _ _ _ info ho.rd (by omega) (by simp; omega)).mono ?_; rintro e w9 ⟨v9, rfl, ho', hx9⟩; replace ho := ho'.more (base' := W0.heap.size) hE.size; clear ho'; replace hE := hE.trans hx9; clear c0 c1 c2 c3 c4 c5; obtain ⟨c0, c1, c2, c3, c4, c5⟩ := hbox.six hE)
      | (go_at_call 191; refine (tracked_c _ _ _ _ _ _ _ _ _ HT.out).mono ?_; rintro e w10 ⟨rfl, hx10⟩; replace ho := ho.ext hx10; replace hE := hE.trans hx10; clear c0 c1 c2 c3 c4 c5; obtain ⟨c0, c1, c2, c3, c4, c5⟩ := hbox.six hE)
      | ((with_reducible show AtS 61); refine wpl_str bt (HV.out.ext (hx0.trans hE)) rfl _ rfl rfl ?_)
      | (go_at_call 149; refine (appendText_len _ _ _ (strL trk) ho.rd (by rw [strL_size]; omega) (by simp; omega)).mono ?_; rintro e w11 ⟨v11, rfl, ho', hx11⟩; replace ho := ho'.more (base' := W0.heap.size) hE.size; clear ho'; replace hE := hE.trans hx11))
    go_ret2
    refine ⟨_, rfl, ?_, hx0.trans hE⟩
    have := ho.more (base' := w.heap.size) (by omega)
    simpa [okHead, okTail, HQ.out, HT.out, strL_toList] using this
end Go.Proofs.YtbodppfpmpmadaaGreat

