import Derived.Test.YtbodppfpmpmadaaGreatL14C
import Derived.Test.YtbodppfpmpmadaaGreatL6C
namespace Go.Proofs.YtbodppfpmpmadaaGreat
open Go.RowKit

def okT (c st : Int) (s : List UInt8 × Int) : (List UInt8 × List UInt8) × (List UInt8 × Int) :=
  if hasB c 8388608 = false then (((rR s).1, []), (rR s).2)
  else if trackB c st = true then (((rT s).1, (rT (rT s).2).1), (rT (rT s).2).2)
  else if 0 < s.1.length then (((rT s).1, []), (rT s).2) else (([], []), s)
def okS (l : List UInt8) (c : Int) : (Int × Int × Int × Int × List UInt8 × List UInt8) × Int :=
  let s1 := rMust [0, 254] (l, 0)
  let s2 := (rI s1).2
  let s3 := (rI s2).2
  let s4 := (rF 2 s3).2
  let s5 := (rF 2 s4).2
  let t := okT c ((rF 2 s3).1 % 65536) s5
  if (rO t.2).2 = 0 then (((rI s1).1, (rI s2).1, (rF 2 s3).1 % 65536, (rF 2 s4).1 % 65536, t.1.1, t.1.2), 0) else ((0, 0, 0, 0, [], []), (rO t.2).2)
def RetOk (w : World) (r : (Int × Int × Int × Int × List UInt8 × List UInt8) × Int) (e : Ending) (w' : World) : Prop :=
  ∃ vt, e = .returned (.tuple #[.agg #[.int .u64 r.1.1, .int .u64 r.1.2.1, .int .u16 r.1.2.2.1, .int .u16 r.1.2.2.2.1, .string (strL r.1.2.2.2.2.1), vt], .int .i64 r.2]) ∧ Rd w' vt r.1.2.2.2.2.2 ∧ Ext w w'
theorem rO_err {s : List UInt8 × Int} (h : s.2 ≠ 0) : rO s = s := by unfold rO rW; rw [if_neg (fun x => h x.1)]
theorem rT_err {s : List UInt8 × Int} (h : s.2 ≠ 0) : rT s = ([], s) := by unfold rT; rw [if_neg h]
theorem rR_err {s : List UInt8 × Int} (h : s.2 ≠ 0) : rR s = ([], s) := by unfold rR; rw [if_neg h]
theorem okT_err {c st : Int} {s : List UInt8 × Int} (h : s.2 ≠ 0) : okT c st s = (([], []), s) := by
  unfold okT
  rw [rR_err h, rT_err h, rT_err h]
  split
  · rfl
  · split
    · rfl
    · split <;> rfl
theorem track_has {c st : Int} (h : trackB c st = true) : hasB c 8388608 = true := by
  unfold trackB at h
  rw [Bool.and_eq_true] at h
  exact h.1
theorem readT_small {l x : List UInt8} {n : Nat} {r : Int} (h : readT l = (x, n, r)) : x.length ≤ l.length := by
  unfold readT at h
  split at h
  · split at h
    · simp only [Prod.mk.injEq] at h; rw [← h.1]; simp
    · simp only [Prod.mk.injEq] at h
      rw [← h.1]
      simp
      omega
  · simp only [Prod.mk.injEq] at h; rw [← h.1]; simp
theorem rT_small (s : List UInt8 × Int) : (rT s).1.length ≤ s.1.length := by
  unfold rT
  split
  · split <;> exact readT_small rfl
  · simp

set_option maxRecDepth 100000 in
set_option maxHeartbeats 8000000 in
theorem readOk_len (w : World) (v : Value) (l : List UInt8) (c : Int) (hr : Rd w v l) (hll : l.length ≤ 8000000) :
    Calls Tryz.prog 170 #[v, .int .u32 c] w (RetOk w (okS l c)) := by
  obtain ⟨A0, cap0, hv, _, _, _, _⟩ := id hr
  have HR := Lib.hid hr
  clear hr
  subst hv
  have tok : True := trivial
  have tok2 : True := trivial
  have tok3 : True := trivial
  have tok4 : True := trivial
  have tok5 : True := trivial
  have tok6 : True := trivial
  have tok7 : True := trivial
  have tok8 : True := trivial
  obtain ⟨s1, h1⟩ : ∃ s, rMust [0, 254] (l, 0) = s := ⟨_, rfl⟩
  obtain ⟨a, s2, h2⟩ : ∃ x s, rI s1 = (x, s) := ⟨_, _, rfl⟩
  obtain ⟨i, s3, h3⟩ : ∃ x s, rI s2 = (x, s) := ⟨_, _, rfl⟩
  obtain ⟨st, s4, h4⟩ : ∃ x s, rF 2 s3 = (x, s) := ⟨_, _, rfl⟩
  obtain ⟨wn, l5, e5, h5⟩ : ∃ x l e, rF 2 s4 = (x, (l, e)) := ⟨_, _, _, rfl⟩
  obtain ⟨info, trk, s6, h6⟩ : ∃ p q s, okT c (st % 65536) (l5, e5) = ((p, q), s) := ⟨_, _, _, rfl⟩
  obtain ⟨s7, h7⟩ : ∃ s, rO s6 = s := ⟨_, rfl⟩
  have hS : okS l c = if s7.2 = 0 then ((a, i, st % 65536, wn % 65536, info, trk), 0) else ((0, 0, 0, 0, [], []), s7.2) := by simp only [okS, h1, h2, h3, h4, h5, h6, h7]
  have hlen : l5.length ≤ 8000000 := by
    have i1 := rMust_len [0, 254] (l, 0)
    have i2 := rI_len s1
    have i3 := rI_len s2
    have i4 := rF_len 2 s3
    have i5 := rF_len 2 s4
    rw [h1] at i1; rw [h2] at i2; rw [h3] at i3; rw [h4] at i4; rw [h5] at i5
    dsimp only at i1 i2 i3 i4 i5
    omega
  have H1 := Lib.hid h1
  have H2 := Lib.hid h2
  have H3 := Lib.hid h3
  have H4 := Lib.hid h4
  have H5 := Lib.hid h5
  have H7 := Lib.hid h7
  clear h1 h2 h3 h4 h5
  rw [hS]
  clear hS
  by_cases he5 : e5 = 0
  · subst he5
    cases hq : hasB c 8388608 with
    | false =>
      obtain ⟨⟨rfl, rfl⟩, rfl⟩ : (l5 = info ∧ [] = trk) ∧ ([], 0) = s6 := by simpa [okT, hq, rR] using h6
      obtain rfl : s7 = ([], 0) := H7.out.symm.trans (by simp [rO, rW])
      rw [if_pos rfl]
      have HK := Lib.hid hq
      clear h6 h7 hq
      go_enter Tryz.func170, Tryz.ntmps170
      go_wp2_with fail
      generalize hW0 : w.alloc _ = W0
      have B0 : BoxF W0 w.heap.size [.int .u64 0, .int .u64 0, .int .u16 0, .int .u16 0, .string ⟨#[]⟩, .slice none 0 0] := by rw [← hW0]; exact BoxF.new _ _ _
      have hx0 : Ext w W0 := by rw [← hW0]; exact (Ext.refl w).alloc _
      have hsz : W0.heap.size = w.heap.size + 1 := by rw [← hW0]; simp
      clear hW0
      have R0 := Rdr.at (HR.out.ext hx0) 0 179 (w.heap.size + 1) hsz.symm
      go_wp2_with (first
        | (go_at_call 186; refine (must_m W0 _ (w.heap.size + 1) _ _ [0, 254] (R0.grow ((Ext.refl _).alloc _)) (rd_lit _ _ [0, 254] (by rfl) (by simp) 2 _ (by rfl) (by simp [hsz])) (by simp [Value.ownBlock]) _ H1.out).mono ?_; rintro e w1 ⟨rfl, R1, O1⟩; clear R0)
        | (go_at_call 187; refine (counted_m W0 _ (w.heap.size + 1) _ _ _ R1 H2.out).mono ?_; rintro e w2 ⟨rfl, R2, O2⟩; clear R1)
        | (go_at_call 187; refine (counted_m W0 _ (w.heap.size + 1) _ _ _ R2 H3.out).mono ?_; rintro e w3 ⟨rfl, R3, O3⟩; clear R2)
        | (go_at_call 188; refine (fixed_m W0 _ (w.heap.size + 1) _ 2 _ _ R3 (by omega) H4.out).mono ?_; rintro e w4 ⟨rfl, R4, O4⟩; clear R3)
        | (go_at_call 188; refine (fixed_m W0 _ (w.heap.size + 1) _ 2 _ _ R4 (by omega) H5.out).mono ?_; rintro e w5 ⟨rfl, R5, O5⟩; clear R4)
        | ((with_reducible show AtW 108); clear tok; have lt := R5.lt; refine wpl_store_box rfl _ _ _ rfl _ [.int .u64 a, .int .u64 i, .int .u16 (st % 65536), .int .u16 (wn % 65536), .string ⟨#[]⟩, .slice none 0 0] rfl rfl (BoxF.new _ _ _) rfl (by kernel_rfl) (by rfl) ?_; intro w6 B6 O6; have R6 := R5.grow (((Ext.refl _).alloc _).on O6 (Nat.le_refl _)); clear R5; have c1 := R6.c1; (try dsimp only at c1); obtain ⟨v5, c0, hr5⟩ := R6.c0; obtain ⟨A5, cap5, rfl, z1, z2, z3, z4⟩ := hr5; clear z3 z4; unfold maxLen at z2)
        | (go_at_call 189; refine (has_at _ _ _ false HK.out).mono ?_; rintro e wx ⟨rfl, rfl⟩)
        | (go_at_call 190; refine (rest_m W0 _ (w.heap.size + 1) _ R6 hlen).mono ?_; rintro e w7 ⟨vb7, rfl, ob7, R7, O7⟩; have B7 := B6.on O7 (by omega); clear B6; clear R6)
        | ((with_reducible show AtS 38); refine wpl_str bt ob7.rd rfl _ rfl rfl ?_)
        | ((with_reducible show AtW 9); clear tok3; refine wpl_store_cell rfl _ _ _ rfl _ 4 (.string (strL l5)) rfl rfl rfl rfl (by kernel_rfl) B7 (by simp) ?_; intro w8 B8' O8; have B8 := B8'; clear B7 B8'; have R8 := R7.on O8 (by omega) (by omega); clear R7)
        | (go_at_call 193; refine (over_m W0 _ (w.heap.size + 1) _ _ R8 H7.out).mono ?_; rintro e w9 ⟨rfl, R9, O9⟩; have B9 := B8.on O9 (by omega); clear B8; clear R8; have c1 := R9.c1)
        | ((with_reducible show AtS 67); refine wpl_load_box rfl _ _ rfl _ rfl B9 Tryz.underlying108 rfl (by kernel_rfl) ?_)
        | ((with_reducible show AtW 108); clear tok2; refine wpl_store_box rfl _ _ _ rfl _ [.int .u64 a, .int .u64 i, .int .u16 (st % 65536), .int .u16 (wn % 65536), .string (strL l5), .slice none 0 0] rfl rfl (B0.ext R9.ext) rfl (by kernel_rfl) (by rfl) ?_; intro w9 B9 O9)
        | fail)
      try simp only [Exit.inBlock, Exit.then]
      refine ret_box rfl rfl rfl rfl B9 Tryz.underlying108 rfl (by kernel_rfl) ?_
      exact ⟨_, rfl, Rd.nil _, (hx0.trans R9.ext).on O9 (Nat.le_refl _)⟩
    | true =>
      cases ht : trackB c (st % 65536) with
      | true =>
        obtain ⟨u1, g1, hu1⟩ : ∃ x s, rT (l5, 0) = (x, s) := ⟨_, _, rfl⟩
        obtain ⟨u2, g2, hu2⟩ : ∃ x s, rT g1 = (x, s) := ⟨_, _, rfl⟩
        obtain ⟨⟨rfl, rfl⟩, rfl⟩ : (u1 = info ∧ u2 = trk) ∧ g2 = s6 := by simpa [okT, hq, ht, hu1, hu2] using h6
        have hz2 : u2.length ≤ 8000000 := by
          have i1 := rT_len (l5, 0)
          have i2 := rT_small g1
          rw [hu1] at i1
          rw [hu2] at i2
          dsimp only at i1 i2
          omega
        have HU1 := Lib.hid hu1
        have HU2 := Lib.hid hu2
        have HK := Lib.hid hq
        have HT := Lib.hid ht
        clear h6 h7 hq ht hu1 hu2
        by_cases he7 : s7.2 = 0
        · rw [if_pos he7]
          have hb7 : (s7.2 == 0) = true := by simp [he7]
          go_enter Tryz.func170, Tryz.ntmps170
          go_wp2_with fail
          generalize hW0 : w.alloc _ = W0
          have B0 : BoxF W0 w.heap.size [.int .u64 0, .int .u64 0, .int .u16 0, .int .u16 0, .string ⟨#[]⟩, .slice none 0 0] := by rw [← hW0]; exact BoxF.new _ _ _
          have hx0 : Ext w W0 := by rw [← hW0]; exact (Ext.refl w).alloc _
          have hsz : W0.heap.size = w.heap.size + 1 := by rw [← hW0]; simp
          clear hW0
          have R0 := Rdr.at (HR.out.ext hx0) 0 179 (w.heap.size + 1) hsz.symm
          go_wp2_with (first
            | (go_at_call 186; refine (must_m W0 _ (w.heap.size + 1) _ _ [0, 254] (R0.grow ((Ext.refl _).alloc _)) (rd_lit _ _ [0, 254] (by rfl) (by simp) 2 _ (by rfl) (by simp [hsz])) (by simp [Value.ownBlock]) _ H1.out).mono ?_; rintro e w1 ⟨rfl, R1, O1⟩; clear R0)
            | (go_at_call 187; refine (counted_m W0 _ (w.heap.size + 1) _ _ _ R1 H2.out).mono ?_; rintro e w2 ⟨rfl, R2, O2⟩; clear R1)
            | (go_at_call 187; refine (counted_m W0 _ (w.heap.size + 1) _ _ _ R2 H3.out).mono ?_; rintro e w3 ⟨rfl, R3, O3⟩; clear R2)
            | (go_at_call 188; refine (fixed_m W0 _ (w.heap.size + 1) _ 2 _ _ R3 (by omega) H4.out).mono ?_; rintro e w4 ⟨rfl, R4, O4⟩; clear R3)
            | (go_at_call 188; refine (fixed_m W0 _ (w.heap.size + 1) _ 2 _ _ R4 (by omega) H5.out).mono ?_; rintro e w5 ⟨rfl, R5, O5⟩; clear R4)
            | ((with_reducible show AtW 108); clear tok; have lt := R5.lt; refine wpl_store_box rfl _ _ _ rfl _ [.int .u64 a, .int .u64 i, .int .u16 (st % 65536), .int .u16 (wn % 65536), .string ⟨#[]⟩, .slice none 0 0] rfl rfl (BoxF.new _ _ _) rfl (by kernel_rfl) (by rfl) ?_; intro w6 B6 O6; have R6 := R5.grow (((Ext.refl _).alloc _).on O6 (Nat.le_refl _)); clear R5; have c1 := R6.c1; (try dsimp only at c1); obtain ⟨v5, c0, hr5⟩ := R6.c0; obtain ⟨A5, cap5, rfl, z1, z2, z3, z4⟩ := hr5; clear z3 z4; unfold maxLen at z2)
            | (go_at_call 189; refine (has_at _ _ _ true HK.out).mono ?_; rintro e wx ⟨rfl, rfl⟩)
            | ((with_reducible show AtS 42); refine wpl_load_box rfl _ _ rfl _ rfl B6 Tryz.underlying108 rfl (by kernel_rfl) ?_)
            | (go_at_call 191; refine (tracked_c _ _ _ _ _ _ _ _ _ HT.out).mono ?_; rintro e w7 ⟨rfl, hx7⟩; have R7 := R6.grow hx7; have B7 := B6.ext hx7; clear R6 B6)
            | (go_at_call 192; refine (text_m W0 _ (w.heap.size + 1) _ _ _ R7 HU1.out).mono ?_; rintro e w8 ⟨rfl, R8, O8⟩; have B8 := B7.on O8 (by omega); clear B7; clear R7)
            | ((with_reducible show AtW 9); clear tok3; refine wpl_store_cell rfl _ _ _ rfl _ 4 (.string (strL u1)) rfl rfl rfl rfl (by kernel_rfl) B8 (by simp) ?_; intro w9 B9' O9; have B9 := B9'; clear B8 B9'; have R9 := R8.on O9 (by omega) (by omega); clear R8)
            | (go_at_call 192; refine (text_m W0 _ (w.heap.size + 1) _ _ _ R9 HU2.out).mono ?_; rintro e w10 ⟨rfl, R10, O10⟩; have B10 := B9.on O10 (by omega); clear B9; clear R9)
            | ((with_reducible show AtS 49); have ltR := R10.lt; have ltB := B10.lt; have lt00 := R10.ext.size; refine wpl_bytes bt _ (by rw [strL_size]; unfold maxLen; omega) rfl _ rfl rfl ?_; intro tA tm tc w11 hT hTb hx11; rw [strL_toList] at hT; have R11 := R10.grow hx11; have B11 := B10.ext hx11; clear R10 B10)
            | ((with_reducible show AtW 22); clear tok4; refine wpl_store_cell rfl _ _ _ rfl _ 5 (.slice tA tm tc) rfl rfl rfl rfl (by kernel_rfl) B11 (by simp) ?_; intro w12 B12' O12; have B12 := B12'; clear B11 B12'; have R12 := R11.on O12 (by omega) (by omega); clear R11; replace hT := hT.on O12 (by rw [hTb]; simp; omega))
            | (go_at_call 193; refine (over_m W0 _ (w.heap.size + 1) _ _ R12 H7.out).mono ?_; rintro e w13 ⟨rfl, R13, O13⟩; have B13 := B12.on O13 (by omega); clear B12; clear R12; have c1 := R13.c1; replace hT := hT.on O13 (by rw [hTb]; simp; omega))
            | ((with_reducible show AtS 67); refine wpl_load_box rfl _ _ rfl _ rfl B13 Tryz.underlying108 rfl (by kernel_rfl) ?_)
            | ((with_reducible show AtW 108); clear tok2; refine wpl_store_box rfl _ _ _ rfl _ [.int .u64 a, .int .u64 i, .int .u16 (st % 65536), .int .u16 (wn % 65536), .string (strL u1), .slice tA tm tc] rfl rfl (B0.ext R13.ext) rfl (by kernel_rfl) (by rfl) ?_; intro w9 B9 O9)
            | fail)
          try simp only [Exit.inBlock, Exit.then]
          refine ret_box rfl rfl rfl rfl B9 Tryz.underlying108 rfl (by kernel_rfl) ?_
          exact ⟨_, rfl, hT.on O9 (by rw [hTb]; simp; omega), (hx0.trans R13.ext).on O9 (Nat.le_refl _)⟩
        · rw [if_neg he7]
          have hb7 : (s7.2 == 0) = false := by simpa using he7
          go_enter Tryz.func170, Tryz.ntmps170
          go_wp2_with fail
          generalize hW0 : w.alloc _ = W0
          have B0 : BoxF W0 w.heap.size [.int .u64 0, .int .u64 0, .int .u16 0, .int .u16 0, .string ⟨#[]⟩, .slice none 0 0] := by rw [← hW0]; exact BoxF.new _ _ _
          have hx0 : Ext w W0 := by rw [← hW0]; exact (Ext.refl w).alloc _
          have hsz : W0.heap.size = w.heap.size + 1 := by rw [← hW0]; simp
          clear hW0
          have R0 := Rdr.at (HR.out.ext hx0) 0 179 (w.heap.size + 1) hsz.symm
          go_wp2_with (first
            | (go_at_call 186; refine (must_m W0 _ (w.heap.size + 1) _ _ [0, 254] (R0.grow ((Ext.refl _).alloc _)) (rd_lit _ _ [0, 254] (by rfl) (by simp) 2 _ (by rfl) (by simp [hsz])) (by simp [Value.ownBlock]) _ H1.out).mono ?_; rintro e w1 ⟨rfl, R1, O1⟩; clear R0)
            | (go_at_call 187; refine (counted_m W0 _ (w.heap.size + 1) _ _ _ R1 H2.out).mono ?_; rintro e w2 ⟨rfl, R2, O2⟩; clear R1)
            | (go_at_call 187; refine (counted_m W0 _ (w.heap.size + 1) _ _ _ R2 H3.out).mono ?_; rintro e w3 ⟨rfl, R3, O3⟩; clear R2)
            | (go_at_call 188; refine (fixed_m W0 _ (w.heap.size + 1) _ 2 _ _ R3 (by omega) H4.out).mono ?_; rintro e w4 ⟨rfl, R4, O4⟩; clear R3)
            | (go_at_call 188; refine (fixed_m W0 _ (w.heap.size + 1) _ 2 _ _ R4 (by omega) H5.out).mono ?_; rintro e w5 ⟨rfl, R5, O5⟩; clear R4)
            | ((with_reducible show AtW 108); clear tok; have lt := R5.lt; refine wpl_store_box rfl _ _ _ rfl _ [.int .u64 a, .int .u64 i, .int .u16 (st % 65536), .int .u16 (wn % 65536), .string ⟨#[]⟩, .slice none 0 0] rfl rfl (BoxF.new _ _ _) rfl (by kernel_rfl) (by rfl) ?_; intro w6 B6 O6; have R6 := R5.grow (((Ext.refl _).alloc _).on O6 (Nat.le_refl _)); clear R5; have c1 := R6.c1; (try dsimp only at c1); obtain ⟨v5, c0, hr5⟩ := R6.c0; obtain ⟨A5, cap5, rfl, z1, z2, z3, z4⟩ := hr5; clear z3 z4; unfold maxLen at z2)
            | (go_at_call 189; refine (has_at _ _ _ true HK.out).mono ?_; rintro e wx ⟨rfl, rfl⟩)
            | ((with_reducible show AtS 42); refine wpl_load_box rfl _ _ rfl _ rfl B6 Tryz.underlying108 rfl (by kernel_rfl) ?_)
            | (go_at_call 191; refine (tracked_c _ _ _ _ _ _ _ _ _ HT.out).mono ?_; rintro e w7 ⟨rfl, hx7⟩; have R7 := R6.grow hx7; have B7 := B6.ext hx7; clear R6 B6)
            | (go_at_call 192; refine (text_m W0 _ (w.heap.size + 1) _ _ _ R7 HU1.out).mono ?_; rintro e w8 ⟨rfl, R8, O8⟩; have B8 := B7.on O8 (by omega); clear B7; clear R7)
            | ((with_reducible show AtW 9); clear tok3; refine wpl_store_cell rfl _ _ _ rfl _ 4 (.string (strL u1)) rfl rfl rfl rfl (by kernel_rfl) B8 (by simp) ?_; intro w9 B9' O9; have B9 := B9'; clear B8 B9'; have R9 := R8.on O9 (by omega) (by omega); clear R8)
            | (go_at_call 192; refine (text_m W0 _ (w.heap.size + 1) _ _ _ R9 HU2.out).mono ?_; rintro e w10 ⟨rfl, R10, O10⟩; have B10 := B9.on O10 (by omega); clear B9; clear R9)
            | ((with_reducible show AtS 49); have ltR := R10.lt; have ltB := B10.lt; have lt00 := R10.ext.size; refine wpl_bytes bt _ (by rw [strL_size]; unfold maxLen; omega) rfl _ rfl rfl ?_; intro tA tm tc w11 hT hTb hx11; rw [strL_toList] at hT; have R11 := R10.grow hx11; have B11 := B10.ext hx11; clear R10 B10)
            | ((with_reducible show AtW 22); clear tok4; refine wpl_store_cell rfl _ _ _ rfl _ 5 (.slice tA tm tc) rfl rfl rfl rfl (by kernel_rfl) B11 (by simp) ?_; intro w12 B12' O12; have B12 := B12'; clear B11 B12'; have R12 := R11.on O12 (by omega) (by omega); clear R11; replace hT := hT.on O12 (by rw [hTb]; simp; omega))
            | (go_at_call 193; refine (over_m W0 _ (w.heap.size + 1) _ _ R12 H7.out).mono ?_; rintro e w13 ⟨rfl, R13, O13⟩; have B13 := B12.on O13 (by omega); clear B12; clear R12; have c1 := R13.c1; replace hT := hT.on O13 (by rw [hTb]; simp; omega))
            | ((with_reducible show AtW 108); clear tok2; refine wpl_store_box rfl _ _ _ rfl _ [.int .u64 0, .int .u64 0, .int .u16 0, .int .u16 0, .string ⟨#[]⟩, .slice none 0 0] rfl rfl (B0.ext R13.ext) rfl (by kernel_rfl) (by rfl) ?_; intro w9 B9 O9)
            | fail)
          try simp only [Exit.inBlock, Exit.then]
          refine ret_box rfl rfl rfl rfl B9 Tryz.underlying108 rfl (by kernel_rfl) ?_
          exact ⟨_, rfl, Rd.nil _, (hx0.trans R13.ext).on O9 (Nat.le_refl _)⟩
      | false =>
        by_cases hl5 : 0 < l5.length
        · obtain ⟨u1, g1, hu1⟩ : ∃ x s, rT (l5, 0) = (x, s) := ⟨_, _, rfl⟩
          obtain ⟨⟨rfl, rfl⟩, rfl⟩ : (u1 = info ∧ [] = trk) ∧ g1 = s6 := by simpa [okT, hq, ht, hu1, hl5] using h6
          have HU1 := Lib.hid hu1
          have HK := Lib.hid hq
          have HT := Lib.hid ht
          clear h6 h7 hq ht hu1
          by_cases he7 : s7.2 = 0
          · rw [if_pos he7]
            have hb7 : (s7.2 == 0) = true := by simp [he7]
            go_enter Tryz.func170, Tryz.ntmps170
            go_wp2_with fail
            generalize hW0 : w.alloc _ = W0
            have B0 : BoxF W0 w.heap.size [.int .u64 0, .int .u64 0, .int .u16 0, .int .u16 0, .string ⟨#[]⟩, .slice none 0 0] := by rw [← hW0]; exact BoxF.new _ _ _
            have hx0 : Ext w W0 := by rw [← hW0]; exact (Ext.refl w).alloc _
            have hsz : W0.heap.size = w.heap.size + 1 := by rw [← hW0]; simp
            clear hW0
            have R0 := Rdr.at (HR.out.ext hx0) 0 179 (w.heap.size + 1) hsz.symm
            go_wp2_with (first
              | (go_at_call 186; refine (must_m W0 _ (w.heap.size + 1) _ _ [0, 254] (R0.grow ((Ext.refl _).alloc _)) (rd_lit _ _ [0, 254] (by rfl) (by simp) 2 _ (by rfl) (by simp [hsz])) (by simp [Value.ownBlock]) _ H1.out).mono ?_; rintro e w1 ⟨rfl, R1, O1⟩; clear R0)
              | (go_at_call 187; refine (counted_m W0 _ (w.heap.size + 1) _ _ _ R1 H2.out).mono ?_; rintro e w2 ⟨rfl, R2, O2⟩; clear R1)
              | (go_at_call 187; refine (counted_m W0 _ (w.heap.size + 1) _ _ _ R2 H3.out).mono ?_; rintro e w3 ⟨rfl, R3, O3⟩; clear R2)
              | (go_at_call 188; refine (fixed_m W0 _ (w.heap.size + 1) _ 2 _ _ R3 (by omega) H4.out).mono ?_; rintro e w4 ⟨rfl, R4, O4⟩; clear R3)
              | (go_at_call 188; refine (fixed_m W0 _ (w.heap.size + 1) _ 2 _ _ R4 (by omega) H5.out).mono ?_; rintro e w5 ⟨rfl, R5, O5⟩; clear R4)
              | ((with_reducible show AtW 108); clear tok; have lt := R5.lt; refine wpl_store_box rfl _ _ _ rfl _ [.int .u64 a, .int .u64 i, .int .u16 (st % 65536), .int .u16 (wn % 65536), .string ⟨#[]⟩, .slice none 0 0] rfl rfl (BoxF.new _ _ _) rfl (by kernel_rfl) (by rfl) ?_; intro w6 B6 O6; have R6 := R5.grow (((Ext.refl _).alloc _).on O6 (Nat.le_refl _)); clear R5; have c1 := R6.c1; (try dsimp only at c1); obtain ⟨v5, c0, hr5⟩ := R6.c0; obtain ⟨A5, cap5, rfl, z1, z2, z3, z4⟩ := hr5; clear z3 z4; unfold maxLen at z2)
              | (go_at_call 189; refine (has_at _ _ _ true HK.out).mono ?_; rintro e wx ⟨rfl, rfl⟩)
              | ((with_reducible show AtS 42); refine wpl_load_box rfl _ _ rfl _ rfl B6 Tryz.underlying108 rfl (by kernel_rfl) ?_)
              | (go_at_call 191; refine (tracked_c _ _ _ _ _ _ _ _ _ HT.out).mono ?_; rintro e w7 ⟨rfl, hx7⟩; have R7 := R6.grow hx7; have B7 := B6.ext hx7; clear R6 B6; have c0 := hx7.cell c0)
              | (go_at_call 192; refine (text_m W0 _ (w.heap.size + 1) _ _ _ R7 HU1.out).mono ?_; rintro e w8 ⟨rfl, R8, O8⟩; have B8 := B7.on O8 (by omega); clear B7; clear R7)
              | ((with_reducible show AtW 9); clear tok3; refine wpl_store_cell rfl _ _ _ rfl _ 4 (.string (strL u1)) rfl rfl rfl rfl (by kernel_rfl) B8 (by simp) ?_; intro w9 B9' O9; have B9 := B9'; clear B8 B9'; have R9 := R8.on O9 (by omega) (by omega); clear R8)
              | (go_at_call 193; refine (over_m W0 _ (w.heap.size + 1) _ _ R9 H7.out).mono ?_; rintro e w10 ⟨rfl, R10, O10⟩; have B10 := B9.on O10 (by omega); clear B9; clear R9; have c1 := R10.c1)
              | ((with_reducible show AtS 67); refine wpl_load_box rfl _ _ rfl _ rfl B10 Tryz.underlying108 rfl (by kernel_rfl) ?_)
              | ((with_reducible show AtW 108); clear tok2; refine wpl_store_box rfl _ _ _ rfl _ [.int .u64 a, .int .u64 i, .int .u16 (st % 65536), .int .u16 (wn % 65536), .string (strL u1), .slice none 0 0] rfl rfl (B0.ext R10.ext) rfl (by kernel_rfl) (by rfl) ?_; intro w9 B9 O9)
              | fail)
            try simp only [Exit.inBlock, Exit.then]
            refine ret_box rfl rfl rfl rfl B9 Tryz.underlying108 rfl (by kernel_rfl) ?_
            exact ⟨_, rfl, Rd.nil _, (hx0.trans R10.ext).on O9 (Nat.le_refl _)⟩
          · rw [if_neg he7]
            have hb7 : (s7.2 == 0) = false := by simpa using he7
            go_enter Tryz.func170, Tryz.ntmps170
            go_wp2_with fail
            generalize hW0 : w.alloc _ = W0
            have B0 : BoxF W0 w.heap.size [.int .u64 0, .int .u64 0, .int .u16 0, .int .u16 0, .string ⟨#[]⟩, .slice none 0 0] := by rw [← hW0]; exact BoxF.new _ _ _
            have hx0 : Ext w W0 := by rw [← hW0]; exact (Ext.refl w).alloc _
            have hsz : W0.heap.size = w.heap.size + 1 := by rw [← hW0]; simp
            clear hW0
            have R0 := Rdr.at (HR.out.ext hx0) 0 179 (w.heap.size + 1) hsz.symm
            go_wp2_with (first
              | (go_at_call 186; refine (must_m W0 _ (w.heap.size + 1) _ _ [0, 254] (R0.grow ((Ext.refl _).alloc _)) (rd_lit _ _ [0, 254] (by rfl) (by simp) 2 _ (by rfl) (by simp [hsz])) (by simp [Value.ownBlock]) _ H1.out).mono ?_; rintro e w1 ⟨rfl, R1, O1⟩; clear R0)
              | (go_at_call 187; refine (counted_m W0 _ (w.heap.size + 1) _ _ _ R1 H2.out).mono ?_; rintro e w2 ⟨rfl, R2, O2⟩; clear R1)
              | (go_at_call 187; refine (counted_m W0 _ (w.heap.size + 1) _ _ _ R2 H3.out).mono ?_; rintro e w3 ⟨rfl, R3, O3⟩; clear R2)
              | (go_at_call 188; refine (fixed_m W0 _ (w.heap.size + 1) _ 2 _ _ R3 (by omega) H4.out).mono ?_; rintro e w4 ⟨rfl, R4, O4⟩; clear R3)
              | (go_at_call 188; refine (fixed_m W0 _ (w.heap.size + 1) _ 2 _ _ R4 (by omega) H5.out).mono ?_; rintro e w5 ⟨rfl, R5, O5⟩; clear R4)
              | ((with_reducible show AtW 108); clear tok; have lt := R5.lt; refine wpl_store_box rfl _ _ _ rfl _ [.int .u64 a, .int .u64 i, .int .u16 (st % 65536), .int .u16 (wn % 65536), .string ⟨#[]⟩, .slice none 0 0] rfl rfl (BoxF.new _ _ _) rfl (by kernel_rfl) (by rfl) ?_; intro w6 B6 O6; have R6 := R5.grow (((Ext.refl _).alloc _).on O6 (Nat.le_refl _)); clear R5; have c1 := R6.c1; (try dsimp only at c1); obtain ⟨v5, c0, hr5⟩ := R6.c0; obtain ⟨A5, cap5, rfl, z1, z2, z3, z4⟩ := hr5; clear z3 z4; unfold maxLen at z2)
              | (go_at_call 189; refine (has_at _ _ _ true HK.out).mono ?_; rintro e wx ⟨rfl, rfl⟩)
              | ((with_reducible show AtS 42); refine wpl_load_box rfl _ _ rfl _ rfl B6 Tryz.underlying108 rfl (by kernel_rfl) ?_)
              | (go_at_call 191; refine (tracked_c _ _ _ _ _ _ _ _ _ HT.out).mono ?_; rintro e w7 ⟨rfl, hx7⟩; have R7 := R6.grow hx7; have B7 := B6.ext hx7; clear R6 B6; have c0 := hx7.cell c0)
              | (go_at_call 192; refine (text_m W0 _ (w.heap.size + 1) _ _ _ R7 HU1.out).mono ?_; rintro e w8 ⟨rfl, R8, O8⟩; have B8 := B7.on O8 (by omega); clear B7; clear R7)
              | ((with_reducible show AtW 9); clear tok3; refine wpl_store_cell rfl _ _ _ rfl _ 4 (.string (strL u1)) rfl rfl rfl rfl (by kernel_rfl) B8 (by simp) ?_; intro w9 B9' O9; have B9 := B9'; clear B8 B9'; have R9 := R8.on O9 (by omega) (by omega); clear R8)
              | (go_at_call 193; refine (over_m W0 _ (w.heap.size + 1) _ _ R9 H7.out).mono ?_; rintro e w10 ⟨rfl, R10, O10⟩; have B10 := B9.on O10 (by omega); clear B9; clear R9; have c1 := R10.c1)
              | ((with_reducible show AtW 108); clear tok2; refine wpl_store_box rfl _ _ _ rfl _ [.int .u64 0, .int .u64 0, .int .u16 0, .int .u16 0, .string ⟨#[]⟩, .slice none 0 0] rfl rfl (B0.ext R10.ext) rfl (by kernel_rfl) (by rfl) ?_; intro w9 B9 O9)
              | fail)
            try simp only [Exit.inBlock, Exit.then]
            refine ret_box rfl rfl rfl rfl B9 Tryz.underlying108 rfl (by kernel_rfl) ?_
            exact ⟨_, rfl, Rd.nil _, (hx0.trans R10.ext).on O9 (Nat.le_refl _)⟩
        · obtain rfl : l5 = [] := by simpa using hl5
          obtain ⟨⟨rfl, rfl⟩, rfl⟩ : ([] = info ∧ [] = trk) ∧ ([], 0) = s6 := by simpa [okT, hq, ht] using h6
          obtain rfl : s7 = ([], 0) := H7.out.symm.trans (by simp [rO, rW])
          rw [if_pos rfl]
          have HK := Lib.hid hq
          have HT := Lib.hid ht
          clear h6 h7 hq ht hl5
          go_enter Tryz.func170, Tryz.ntmps170
          go_wp2_with fail
          generalize hW0 : w.alloc _ = W0
          have B0 : BoxF W0 w.heap.size [.int .u64 0, .int .u64 0, .int .u16 0, .int .u16 0, .string ⟨#[]⟩, .slice none 0 0] := by rw [← hW0]; exact BoxF.new _ _ _
          have hx0 : Ext w W0 := by rw [← hW0]; exact (Ext.refl w).alloc _
          have hsz : W0.heap.size = w.heap.size + 1 := by rw [← hW0]; simp
          clear hW0
          have R0 := Rdr.at (HR.out.ext hx0) 0 179 (w.heap.size + 1) hsz.symm
          go_wp2_with (first
            | (go_at_call 186; refine (must_m W0 _ (w.heap.size + 1) _ _ [0, 254] (R0.grow ((Ext.refl _).alloc _)) (rd_lit _ _ [0, 254] (by rfl) (by simp) 2 _ (by rfl) (by simp [hsz])) (by simp [Value.ownBlock]) _ H1.out).mono ?_; rintro e w1 ⟨rfl, R1, O1⟩; clear R0)
            | (go_at_call 187; refine (counted_m W0 _ (w.heap.size + 1) _ _ _ R1 H2.out).mono ?_; rintro e w2 ⟨rfl, R2, O2⟩; clear R1)
            | (go_at_call 187; refine (counted_m W0 _ (w.heap.size + 1) _ _ _ R2 H3.out).mono ?_; rintro e w3 ⟨rfl, R3, O3⟩; clear R2)
            | (go_at_call 188; refine (fixed_m W0 _ (w.heap.size + 1) _ 2 _ _ R3 (by omega) H4.out).mono ?_; rintro e w4 ⟨rfl, R4, O4⟩; clear R3)
            | (go_at_call 188; refine (fixed_m W0 _ (w.heap.size + 1) _ 2 _ _ R4 (by omega) H5.out).mono ?_; rintro e w5 ⟨rfl, R5, O5⟩; clear R4)
            | ((with_reducible show AtW 108); clear tok; have lt := R5.lt; refine wpl_store_box rfl _ _ _ rfl _ [.int .u64 a, .int .u64 i, .int .u16 (st % 65536), .int .u16 (wn % 65536), .string ⟨#[]⟩, .slice none 0 0] rfl rfl (BoxF.new _ _ _) rfl (by kernel_rfl) (by rfl) ?_; intro w6 B6 O6; have R6 := R5.grow (((Ext.refl _).alloc _).on O6 (Nat.le_refl _)); clear R5; have c1 := R6.c1; (try dsimp only at c1); obtain ⟨v5, c0, hr5⟩ := R6.c0; obtain ⟨A5, cap5, rfl, z1, z2, z3, z4⟩ := hr5; clear z3 z4; unfold maxLen at z2)
            | (go_at_call 189; refine (has_at _ _ _ true HK.out).mono ?_; rintro e wx ⟨rfl, rfl⟩)
            | ((with_reducible show AtS 42); refine wpl_load_box rfl _ _ rfl _ rfl B6 Tryz.underlying108 rfl (by kernel_rfl) ?_)
            | (go_at_call 191; refine (tracked_c _ _ _ _ _ _ _ _ _ HT.out).mono ?_; rintro e w7 ⟨rfl, hx7⟩; have R7 := R6.grow hx7; have B7 := B6.ext hx7; clear R6 B6; have c0 := hx7.cell c0)
            | (go_at_call 193; refine (over_m W0 _ (w.heap.size + 1) _ _ R7 H7.out).mono ?_; rintro e w8 ⟨rfl, R8, O8⟩; have B8 := B7.on O8 (by omega); clear B7; clear R7; have c1 := R8.c1)
            | ((with_reducible show AtS 67); refine wpl_load_box rfl _ _ rfl _ rfl B8 Tryz.underlying108 rfl (by kernel_rfl) ?_)
            | ((with_reducible show AtW 108); clear tok2; refine wpl_store_box rfl _ _ _ rfl _ [.int .u64 a, .int .u64 i, .int .u16 (st % 65536), .int .u16 (wn % 65536), .string ⟨#[]⟩, .slice none 0 0] rfl rfl (B0.ext R8.ext) rfl (by kernel_rfl) (by rfl) ?_; intro w9 B9 O9)
            | fail)
          try simp only [Exit.inBlock, Exit.then]
          refine ret_box rfl rfl rfl rfl B9 Tryz.underlying108 rfl (by kernel_rfl) ?_
          exact ⟨_, rfl, Rd.nil _, (hx0.trans R8.ext).on O9 (Nat.le_refl _)⟩
  · have hb5 : (e5 == 0) = false := by simpa using he5
    obtain ⟨⟨rfl, rfl⟩, rfl⟩ : ([] = info ∧ [] = trk) ∧ (l5, e5) = s6 := by rw [okT_err he5] at h6; simpa using h6
    obtain rfl : s7 = (l5, e5) := H7.out.symm.trans (rO_err he5)
    rw [if_neg he5]
    clear h6 h7
    go_enter Tryz.func170, Tryz.ntmps170
    go_wp2_with fail
    generalize hW0 : w.alloc _ = W0
    have B0 : BoxF W0 w.heap.size [.int .u64 0, .int .u64 0, .int .u16 0, .int .u16 0, .string ⟨#[]⟩, .slice none 0 0] := by rw [← hW0]; exact BoxF.new _ _ _
    have hx0 : Ext w W0 := by rw [← hW0]; exact (Ext.refl w).alloc _
    have hsz : W0.heap.size = w.heap.size + 1 := by rw [← hW0]; simp
    clear hW0
    have R0 := Rdr.at (HR.out.ext hx0) 0 179 (w.heap.size + 1) hsz.symm
    go_wp2_with (first
      | (go_at_call 186; refine (must_m W0 _ (w.heap.size + 1) _ _ [0, 254] (R0.grow ((Ext.refl _).alloc _)) (rd_lit _ _ [0, 254] (by rfl) (by simp) 2 _ (by rfl) (by simp [hsz])) (by simp [Value.ownBlock]) _ H1.out).mono ?_; rintro e w1 ⟨rfl, R1, O1⟩; clear R0)
      | (go_at_call 187; refine (counted_m W0 _ (w.heap.size + 1) _ _ _ R1 H2.out).mono ?_; rintro e w2 ⟨rfl, R2, O2⟩; clear R1)
      | (go_at_call 187; refine (counted_m W0 _ (w.heap.size + 1) _ _ _ R2 H3.out).mono ?_; rintro e w3 ⟨rfl, R3, O3⟩; clear R2)
      | (go_at_call 188; refine (fixed_m W0 _ (w.heap.size + 1) _ 2 _ _ R3 (by omega) H4.out).mono ?_; rintro e w4 ⟨rfl, R4, O4⟩; clear R3)
      | (go_at_call 188; refine (fixed_m W0 _ (w.heap.size + 1) _ 2 _ _ R4 (by omega) H5.out).mono ?_; rintro e w5 ⟨rfl, R5, O5⟩; clear R4)
      | ((with_reducible show AtW 108); clear tok; have lt := R5.lt; refine wpl_store_box rfl _ _ _ rfl _ [.int .u64 a, .int .u64 i, .int .u16 (st % 65536), .int .u16 (wn % 65536), .string ⟨#[]⟩, .slice none 0 0] rfl rfl (BoxF.new _ _ _) rfl (by kernel_rfl) (by rfl) ?_; intro w6 B6 O6; have R6 := R5.grow (((Ext.refl _).alloc _).on O6 (Nat.le_refl _)); clear R5; have c1 := R6.c1; (try dsimp only at c1); obtain ⟨v5, c0, hr5⟩ := R6.c0; obtain ⟨A5, cap5, rfl, z1, z2, z3, z4⟩ := hr5; clear z3 z4; unfold maxLen at z2)
      | (go_at_call 193; refine (over_m W0 _ (w.heap.size + 1) _ _ R6 H7.out).mono ?_; rintro e w7 ⟨rfl, R7, O7⟩; have B7 := B6.on O7 (by omega); clear B6; clear R6; have c1 := R7.c1)
      | ((with_reducible show AtW 108); clear tok2; refine wpl_store_box rfl _ _ _ rfl _ [.int .u64 0, .int .u64 0, .int .u16 0, .int .u16 0, .string ⟨#[]⟩, .slice none 0 0] rfl rfl (B0.ext R7.ext) rfl (by kernel_rfl) (by rfl) ?_; intro w9 B9 O9)
      | fail)
    try simp only [Exit.inBlock, Exit.then]
    refine ret_box rfl rfl rfl rfl B9 Tryz.underlying108 rfl (by kernel_rfl) ?_
    exact ⟨_, rfl, Rd.nil _, (hx0.trans R7.ext).on O9 (Nat.le_refl _)⟩
end Go.Proofs.YtbodppfpmpmadaaGreat

