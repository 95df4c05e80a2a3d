import Derived.Test.YtbodppfpmpmadaaGreatKyAC
import Derived.Test.YtbodppfpmpmadaaGreatL15C
import Derived.Test.YtbodppfpmpmadaaGreatL7C
namespace Go.Proofs.YtbodppfpmpmadaaGreat
open Go.RowKit

theorem lists_oneR {w : World} {g : Nat} {u : Value} {l : List UInt8} (hb : w.cell? ⟨g, 0, none⟩ = some u) (hr : Rd w u l) : Lists w (.slice (some ⟨g, 0, none⟩) 1 1) [l] := by
  refine ⟨_, 1, rfl, Nat.le_refl _, by unfold maxLen; simp, fun _ => ⟨g, 0, rfl, fun j hj => ?_⟩⟩
  have e : j = 0 := by simpa using hj
  subst e
  exact ⟨u, hb, hr⟩
theorem Lists.nil (w : World) : Lists w (.slice none 0 0) [] := ⟨none, 0, rfl, Nat.le_refl _, by unfold maxLen; simp, fun h => absurd rfl h⟩
def RetKs (w : World) (g : Nat) (fv : Value) (r : Option (List (List UInt8) × KeyV)) (e : Ending) (w' : World) : Prop :=
  match r with
  | some x => ∃ v, e = .returned (.tuple #[v, .bool true]) ∧ BoxF w' g (kcs x.2 fv) ∧ ((Lists w' v x.1 ∧ Ext w w') ∨ (x.1 = [] ∧ v = .slice none 0 0 ∧ On g w w'))
  | none => e = .returned (.tuple #[.slice none 0 0, .bool false]) ∧ Ext w w'
def swi0K : List Value := [.string ⟨#[]⟩, .slice none 0 0]
def ok0K : List Value := [.int .u64 0, .int .u64 0, .int .u16 0, .int .u16 0, .string ⟨#[]⟩, .slice none 0 0]
set_option linter.unusedVariables false in
theorem further_nil (w : World) (g : Nat) (K : KeyV) (vb fv : Value) (hr : Rd w vb []) : Calls Tryz.prog 124 #[.pointer (some ⟨g, 0, none⟩), vb] w (RetKs w g fv none) := by
  obtain ⟨A, cap, rfl, _⟩ := hr
  go_enter Tryz.func124, Tryz.ntmps124
  go_wp2_with fail
  go_ret2
  exact ⟨rfl, Ext.refl _⟩
set_option linter.unusedVariables false in
set_option maxRecDepth 100000 in
set_option maxHeartbeats 4000000 in
theorem further_switch (w : World) (g : Nat) (K : KeyV) (r : List UInt8) (vb fv : Value) (h : BoxF w g (kcs K fv)) (hp : K.pw.length ≤ 1000000) (hr : Rd w vb (254 :: r)) (pl n : List UInt8) (er : Int) (hA : overP switchM ([], []) (254 :: r) = ((pl, n), er)) :
    Calls Tryz.prog 124 #[.pointer (some ⟨g, 0, none⟩), vb] w (RetKs w g fv (if er = 0 ∧ oursP pl = true then some ([respPl pl K.pw n], K) else none)) := by
  obtain ⟨us, pw, sc, own, ch, st, c0, t0, hd⟩ := K
  dsimp only at hp ⊢
  have HB := Lib.hid h
  have HP := Lib.hid hp
  obtain ⟨L, hL⟩ : ∃ L, L = 254 :: r := ⟨_, rfl⟩
  have HLL := Lib.hid hL
  rw [← hL] at hr hA
  obtain ⟨N, hN⟩ : ∃ N, N = L.length := ⟨_, rfl⟩
  have HN := Lib.hid (show N = r.length + 1 by rw [hN, hL]; rfl)
  obtain ⟨b, o, cap, rfl, k0⟩ : ∃ b o cap, vb = .slice (some ⟨b, o, none⟩) N cap ∧ w.cell? ⟨b, o, none⟩ = some (.int .u8 254) := by
    obtain ⟨A, cap, hv, _, _, _, h4⟩ := hr
    obtain ⟨b, o, rfl, hc⟩ := h4 (by rw [hL]; simp)
    have h5 := hc 0 (by rw [hL]; simp)
    rw [hL] at h5
    exact ⟨b, o, cap, by rw [hN]; exact hv, h5⟩
  have HR := Lib.hid hr
  have hb0 : ((N : Int) == 0) = false := by rw [HN.out]; simp; omega
  have hbN : (0 : Int) < (N : Int) := by rw [HN.out]; omega
  have hb1 : (1 : Int) ≤ (N : Int) := by rw [HN.out]; omega
  have HA := Lib.hid hA
  obtain ⟨q5, hq5⟩ : ∃ q, oursP pl = q := ⟨_, rfl⟩
  have HQ5 := Lib.hid hq5
  rw [hq5]
  clear h hp hr hA hL hN hq5
  by_cases he : er = 0
  · subst he
    cases q5
    · rw [if_neg (by simp)]
      go_enter Tryz.func124, Tryz.ntmps124
      go_wp2_with (first
        | (go_at_call 169; refine (readSwitch_s _ _ L pl n 0 HR.out HA.out).mono ?_; rintro e w1 ⟨A1, k1, c1, rfl, hr1, hx1⟩)
        | ((with_reducible show wpList _ _ _ (⟨some 6, Op.alloc _, _, _, _, _⟩ :: _) _ _); refine wpl_alloc rfl _ rfl swi0K (by kernel_rfl) ?_; intro w2 B2 hx2)
        | ((with_reducible show AtW 103); refine wpl_store_box rfl _ _ _ rfl _ [.string (strL pl), .slice A1 k1 c1] rfl rfl B2 rfl (by kernel_rfl) (by rfl) ?_; intro w3 B3 O3; have hx13 : Ext w1 w3 := hx2.on O3 (Nat.le_refl _); have g0 := B3.at (j := 0) rfl; clear B2 O3 hx2)
        | (go_at_call 122; refine (ours_c _ pl).mono ?_; rw [HQ5.out]; rintro e wx ⟨rfl, rfl⟩; clear g0)
        | fail)
      go_ret2
      exact ⟨rfl, hx1.trans hx13⟩
    · rw [if_pos ⟨rfl, rfl⟩]
      go_enter Tryz.func124, Tryz.ntmps124
      go_wp2_with (first
        | (go_at_call 169; refine (readSwitch_s _ _ L pl n 0 HR.out HA.out).mono ?_; rintro e w1 ⟨A1, k1, c1, rfl, hr1, hx1⟩)
        | ((with_reducible show wpList _ _ _ (⟨some 6, Op.alloc _, _, _, _, _⟩ :: _) _ _); refine wpl_alloc rfl _ rfl swi0K (by kernel_rfl) ?_; intro w2 B2 hx2)
        | ((with_reducible show AtW 103); refine wpl_store_box rfl _ _ _ rfl _ [.string (strL pl), .slice A1 k1 c1] rfl rfl B2 rfl (by kernel_rfl) (by rfl) ?_; intro w3 B3 O3; have hx13 : Ext w1 w3 := hx2.on O3 (Nat.le_refl _); have g0 := B3.at (j := 0) rfl; clear B2 O3 hx2)
        | (go_at_call 122; refine (ours_c _ pl).mono ?_; rw [HQ5.out]; rintro e wx ⟨rfl, rfl⟩; clear g0)
        | fail)
      have HX3 := Lib.hid (hx1.trans hx13)
      have HR3 := Lib.hid (hr1.ext hx13)
      have HB3 := Lib.hid B3
      have e1 : w3.cell? ⟨g, 1, none⟩ = some (.string (strL pw)) := (HB.out.ext HX3.out).at (j := 1) rfl
      have b0 := B3.at (j := 0) rfl
      have b1 := B3.at (j := 1) rfl
      clear hx1 hx13 hr1 B3 k0
      have hE := Ext.refl w3
      go_region_held3 (fun W' => W'.cell? ⟨g, 1, none⟩ = some (.string (strL pw)) ∧ W'.cell? ⟨w1.heap.size, 0, none⟩ = some (.string (strL pl)) ∧ W'.cell? ⟨w1.heap.size, 1, none⟩ = some (.slice A1 k1 c1) ∧ Ext w3 W')
        ((refine (fun h => ⟨Ext.cell h e1, Ext.cell h b0, Ext.cell h b1, h⟩) ?_; repeat' (first | with_reducible exact hE | (with_reducible refine Ext.drew ?_) | (with_reducible refine Ext.alloc ?_ _))))
        (first
          | (go_at_call 123; go_must (refine (dresponse_c _ pl pw _ n HP.out (HR3.out.ext (by repeat' (first | exact hE | (with_reducible refine Ext.drew ?_) | (with_reducible refine Ext.alloc ?_ _))))).mono ?_; rintro e w6 ⟨v6, rfl, hr6, hx6⟩; obtain ⟨A6, c6, hv6, _⟩ := id hr6; subst hv6; replace hE : Ext w3 w6 := Ext.trans (by repeat' (first | exact hE | (with_reducible refine Ext.drew ?_) | (with_reducible refine Ext.alloc ?_ _))) hx6))
          | fail)
      all_goals
        have HE := Lib.hid hE
        have HR6 := Lib.hid hr6
        clear hE hr6
        go_wp2_with fail
        go_ret2
        exact ⟨_, rfl, (HB.out.ext (HX3.out.trans HE.out)).ext ((Ext.refl _).alloc _), .inl ⟨lists_oneR (u := .slice A6 _ c6) (Box.new w6 [_] _ 0 (by simp)) (HR6.out.ext ((Ext.refl _).alloc _)), (HX3.out.trans HE.out).alloc _⟩⟩
  · rw [if_neg (fun x => he x.1)]
    have hb : (er != 0) = true := by simpa using he
    clear he
    go_enter Tryz.func124, Tryz.ntmps124
    go_wp2_with (first
      | (go_at_call 169; refine (readSwitch_s _ _ L pl n er HR.out HA.out).mono ?_; rintro e w1 ⟨A1, k1, c1, rfl, hr1, hx1⟩)
      | ((with_reducible show wpList _ _ _ (⟨some 6, Op.alloc _, _, _, _, _⟩ :: _) _ _); refine wpl_alloc rfl _ rfl swi0K (by kernel_rfl) ?_; intro w2 B2 hx2)
      | ((with_reducible show AtW 103); refine wpl_store_box rfl _ _ _ rfl _ [.string (strL pl), .slice A1 k1 c1] rfl rfl B2 rfl (by kernel_rfl) (by rfl) ?_; intro w3 B3 O3; have hx13 : Ext w1 w3 := hx2.on O3 (Nat.le_refl _); have g0 := B3.at (j := 0) rfl; clear B2 O3 hx2)
      | fail)
    go_ret2
    exact ⟨rfl, hx1.trans hx13⟩
theorem str_is (r s : List UInt8) : ((strL r).toList == (strL s).toList) = (r == s) := by rw [strL_tl, strL_tl]
set_option linter.unusedVariables false in
set_option maxRecDepth 100000 in
set_option maxHeartbeats 4000000 in
theorem further_more (w : World) (g : Nat) (K : KeyV) (r : List UInt8) (vb fv : Value) (h : BoxF w g (kcs K fv)) (hp : K.pw.length ≤ 1000000) (hr : Rd w vb (1 :: r)) :
    Calls Tryz.prog 124 #[.pointer (some ⟨g, 0, none⟩), vb] w (RetKs w g fv (if r = [3] then some ([], K) else if r = [4] then some ([K.pw ++ [0]], K) else none)) := by
  obtain ⟨us, pw, sc, own, ch, st, c0, t0, hd⟩ := K
  dsimp only at hp ⊢
  have HB := Lib.hid h
  have HP := Lib.hid hp
  obtain ⟨L, hL⟩ : ∃ L, L = 1 :: r := ⟨_, rfl⟩
  have HLL := Lib.hid hL
  rw [← hL] at hr
  obtain ⟨N, hN⟩ : ∃ N, N = L.length := ⟨_, rfl⟩
  have HN := Lib.hid (show N = r.length + 1 by rw [hN, hL]; rfl)
  obtain ⟨b, o, cap, rfl, k0⟩ : ∃ b o cap, vb = .slice (some ⟨b, o, none⟩) N cap ∧ w.cell? ⟨b, o, none⟩ = some (.int .u8 1) := by
    obtain ⟨A, cap, hv, _, _, _, h4⟩ := hr
    obtain ⟨b, o, rfl, hc⟩ := h4 (by rw [hL]; simp)
    have h5 := hc 0 (by rw [hL]; simp)
    rw [hL] at h5
    exact ⟨b, o, cap, by rw [hN]; exact hv, h5⟩
  have HR := Lib.hid hr
  have hb0 : ((N : Int) == 0) = false := by rw [HN.out]; simp; omega
  have hbN : (0 : Int) < (N : Int) := by rw [HN.out]; omega
  have hb1 : (1 : Int) ≤ (N : Int) := by rw [HN.out]; omega
  obtain ⟨X, hX⟩ : ∃ X, X = pw ++ [0] := ⟨_, rfl⟩
  rw [← hX]
  have HX := Lib.hid hX
  clear hX
  have k1 := fun o o' => Ext.cell (((Ext.refl w).alloc o).alloc o') (h.at (j := 1) rfl)
  clear h hp hr hL hN
  by_cases h3 : r = [3]
  · rw [if_pos h3]
    have hq3 : ((strL r).toList == (strL [3]).toList) = true := by rw [str_is, h3]; rfl
    clear h3
    go_enter Tryz.func124, Tryz.ntmps124
    go_wp2_with (first
      | ((with_reducible show AtS 44); refine wpl_cut_lo bt HR.out 1 (by omega) (by rw [HLL.out, List.length_cons]; omega) rfl _ _ _ rfl rfl rfl ?_; intro A5 m5 k5 hr5; rw [show (1 : Int).toNat = 1 from rfl, HLL.out] at hr5; replace hr5 : Rd w (.slice A5 m5 k5) r := hr5)
      | ((with_reducible show AtS 45); refine wpl_str bt hr5 rfl _ rfl rfl ?_; clear hr5)
      | ((with_reducible show AtS 48); refine wpl_str bt (rd_lit _ _ [3] (by rfl) (by simp) 1 _ (by rfl) (by rfl)) rfl _ rfl rfl ?_)
      | fail)
    go_ret2
    exact ⟨_, rfl, HB.out.ext ((Ext.refl _).alloc _), .inl ⟨Lists.nil _, (Ext.refl _).alloc _⟩⟩
  · rw [if_neg h3]
    have hq3 : ((strL r).toList == (strL [3]).toList) = false := by rw [str_is]; simpa using h3
    by_cases h4 : r = [4]
    · rw [if_pos h4]
      have hq4 : ((strL r).toList == (strL [4]).toList) = true := by rw [str_is, h4]; rfl
      clear h3 h4
      go_enter Tryz.func124, Tryz.ntmps124
      go_wp2_with (first
        | ((with_reducible show AtS 44); refine wpl_cut_lo bt HR.out 1 (by omega) (by rw [HLL.out, List.length_cons]; omega) rfl _ _ _ rfl rfl rfl ?_; intro A5 m5 k5 hr5; rw [show (1 : Int).toNat = 1 from rfl, HLL.out] at hr5; replace hr5 : Rd w (.slice A5 m5 k5) r := hr5)
        | ((with_reducible show AtS 45); refine wpl_str bt hr5 rfl _ rfl rfl ?_; clear hr5)
        | ((with_reducible show AtS 48); refine wpl_str bt (rd_lit _ _ [3] (by rfl) (by simp) 1 _ (by rfl) (by rfl)) rfl _ rfl rfl ?_)
        | ((with_reducible show AtS 52); refine wpl_str bt (rd_lit _ _ [4] (by rfl) (by simp) 1 _ (by rfl) (by first | rfl | (simp; done))) rfl _ rfl rfl ?_)
        | ((with_reducible show AtS 58); refine wpl_conv bt _ (by rw [strL_size]; have := HP.out; unfold maxLen; omega) rfl _ rfl rfl ?_; intro tg tn tc w5 C1; rw [strL_toList] at C1; clear k1 k0)
        | ((with_reducible show AtS 60); go_loud (refine wpl_append_conv bt (C1.more ((Ext.refl w5).alloc _)) 0 w5.heap.size (by rw [World.cell?_alloc_new]; rfl) HP.out rfl _ _ rfl rfl rfl ?_; intro v6 w6 hr6 hx6; rw [← HX.out] at hr6; obtain ⟨A6, c6, hv6, _⟩ := id hr6; subst hv6))
        | fail)
      go_ret2
      have hx := (((Ext.refl w).alloc _).alloc _).trans hx6
      exact ⟨_, rfl, (HB.out.ext hx).ext ((Ext.refl _).alloc _), .inl ⟨lists_oneR (u := .slice A6 _ c6) (Box.new w6 [_] _ 0 (by simp)) (hr6.ext ((Ext.refl _).alloc _)), hx.alloc _⟩⟩
    · rw [if_neg h4]
      have hq4 : ((strL r).toList == (strL [4]).toList) = false := by rw [str_is]; simpa using h4
      clear h3 h4
      go_enter Tryz.func124, Tryz.ntmps124
      go_wp2_with (first
        | ((with_reducible show AtS 44); refine wpl_cut_lo bt HR.out 1 (by omega) (by rw [HLL.out, List.length_cons]; omega) rfl _ _ _ rfl rfl rfl ?_; intro A5 m5 k5 hr5; rw [show (1 : Int).toNat = 1 from rfl, HLL.out] at hr5; replace hr5 : Rd w (.slice A5 m5 k5) r := hr5)
        | ((with_reducible show AtS 45); refine wpl_str bt hr5 rfl _ rfl rfl ?_; clear hr5)
        | ((with_reducible show AtS 48); refine wpl_str bt (rd_lit _ _ [3] (by rfl) (by simp) 1 _ (by rfl) (by rfl)) rfl _ rfl rfl ?_)
        | ((with_reducible show AtS 52); refine wpl_str bt (rd_lit _ _ [4] (by rfl) (by simp) 1 _ (by rfl) (by first | rfl | (simp; done))) rfl _ rfl rfl ?_)
        | fail)
      go_ret2
      exact ⟨rfl, ((Ext.refl _).alloc _).alloc _⟩
set_option linter.unusedVariables false in
set_option maxRecDepth 100000 in
set_option maxHeartbeats 4000000 in
theorem further_ok (w : World) (g : Nat) (K : KeyV) (r : List UInt8) (vb fv : Value) (h : BoxF w g (kcs K fv)) (hp : K.pw.length ≤ 1000000) (hr : Rd w vb (0 :: r)) (hl : r.length ≤ 900000) :
    Calls Tryz.prog 124 #[.pointer (some ⟨g, 0, none⟩), vb] w (RetKs w g fv (if (okS (0 :: r) K.c).2 = 0 then some ([], { K with st := 2 }) else none)) := by
  obtain ⟨us, pw, sc, own, ch, st, c0, t0, hd⟩ := K
  dsimp only at hp ⊢
  have HB := Lib.hid h
  have HP := Lib.hid hp
  obtain ⟨L, hL⟩ : ∃ L, L = 0 :: r := ⟨_, rfl⟩
  have HLL := Lib.hid hL
  rw [← hL] at hr
  obtain ⟨N, hN⟩ : ∃ N, N = L.length := ⟨_, rfl⟩
  have HN := Lib.hid (show N = r.length + 1 by rw [hN, hL]; rfl)
  obtain ⟨b, o, cap, rfl, k0⟩ : ∃ b o cap, vb = .slice (some ⟨b, o, none⟩) N cap ∧ w.cell? ⟨b, o, none⟩ = some (.int .u8 0) := by
    obtain ⟨A, cap, hv, _, _, _, h4⟩ := hr
    obtain ⟨b, o, rfl, hc⟩ := h4 (by rw [hL]; simp)
    have h5 := hc 0 (by rw [hL]; simp)
    rw [hL] at h5
    exact ⟨b, o, cap, by rw [hN]; exact hv, h5⟩
  have HR := Lib.hid hr
  have hb0 : ((N : Int) == 0) = false := by rw [HN.out]; simp; omega
  have hbN : (0 : Int) < (N : Int) := by rw [HN.out]; omega
  have hb1 : (1 : Int) ≤ (N : Int) := by rw [HN.out]; omega
  have k6 := h.at (j := 6) rfl
  have HL9 := Lib.hid (show L.length ≤ 8000000 by rw [hL]; simp; omega)
  rw [← hL]
  obtain ⟨⟨⟨a1, a2, a3, a4, a5, a6⟩, er⟩, hE⟩ : ∃ x, okS L c0 = x := ⟨_, rfl⟩
  have HO := Lib.hid hE
  rw [hE]
  dsimp only
  clear h hp hr hL hN hl hE
  by_cases he : er = 0
  · rw [if_pos he]
    subst he
    go_enter Tryz.func124, Tryz.ntmps124
    go_wp2_with (first
      | (go_at_call 170; refine (readOk_len _ _ L c0 HR.out HL9.out).mono ?_; rw [HO.out]; rintro e w1 ⟨vt, rfl, hvt, hx1⟩; obtain ⟨At, ct, rfl, _⟩ := hvt)
      | ((with_reducible show wpList _ _ _ (⟨some 8, Op.alloc _, _, _, _, _⟩ :: _) _ _); refine wpl_alloc rfl _ rfl ok0K (by kernel_rfl) ?_; intro w2 B2 hx2)
      | ((with_reducible show AtW 108); refine wpl_store_box rfl _ _ _ rfl _ [.int .u64 a1, .int .u64 a2, .int .u16 a3, .int .u16 a4, .string (strL a5), .slice At a6.length ct] rfl rfl B2 rfl (by kernel_rfl) (by rfl) ?_; intro w3 B3 O3; have hx13 : Ext w1 w3 := hx2.on O3 (Nat.le_refl _); have BK3 := HB.out.ext (hx1.trans hx13))
      | ((with_reducible show AtW 3); refine wpl_store_cell rfl _ _ _ rfl g 5 (.int .i64 2) rfl rfl rfl rfl (by kernel_rfl) BK3 (show 5 < 9 by decide) ?_; intro w5 B5 O5)
      | fail)
    go_ret2
    exact ⟨_, rfl, B5, .inr ⟨rfl, rfl, ((On.of (hx1.trans hx13)).trans O5)⟩⟩
  · rw [if_neg he]
    have hb : (er == 0) = false := by simpa using he
    clear he
    go_enter Tryz.func124, Tryz.ntmps124
    go_wp2_with (first
      | (go_at_call 170; refine (readOk_len _ _ L c0 HR.out HL9.out).mono ?_; rw [HO.out]; rintro e w1 ⟨vt, rfl, hvt, hx1⟩; obtain ⟨At, ct, rfl, _⟩ := hvt)
      | ((with_reducible show wpList _ _ _ (⟨some 8, Op.alloc _, _, _, _, _⟩ :: _) _ _); refine wpl_alloc rfl _ rfl ok0K (by kernel_rfl) ?_; intro w2 B2 hx2)
      | ((with_reducible show AtW 108); refine wpl_store_box rfl _ _ _ rfl _ [.int .u64 a1, .int .u64 a2, .int .u16 a3, .int .u16 a4, .string (strL a5), .slice At a6.length ct] rfl rfl B2 rfl (by kernel_rfl) (by rfl) ?_; intro w3 B3 O3; have hx13 : Ext w1 w3 := hx2.on O3 (Nat.le_refl _); have BK3 := HB.out.ext (hx1.trans hx13))
      | fail)
    go_ret2
    exact ⟨rfl, hx1.trans hx13⟩
set_option linter.unusedVariables false in
set_option maxRecDepth 100000 in
set_option maxHeartbeats 4000000 in
theorem further_other (w : World) (g : Nat) (K : KeyV) (x : UInt8) (r : List UInt8) (vb fv : Value) (hr : Rd w vb (x :: r)) (h1 : x ≠ 254) (h2 : x ≠ 1) (h3 : x ≠ 0) :
    Calls Tryz.prog 124 #[.pointer (some ⟨g, 0, none⟩), vb] w (RetKs w g fv none) := by
  obtain ⟨L, hL⟩ : ∃ L, L = x :: r := ⟨_, rfl⟩
  rw [← hL] at hr
  obtain ⟨N, hN⟩ : ∃ N, N = L.length := ⟨_, rfl⟩
  have HN := Lib.hid (show N = r.length + 1 by rw [hN, hL]; rfl)
  obtain ⟨y, hy⟩ : ∃ y : Int, y = (x.toNat : Int) := ⟨_, rfl⟩
  obtain ⟨b, o, cap, rfl, k0⟩ : ∃ b o cap, vb = .slice (some ⟨b, o, none⟩) N cap ∧ w.cell? ⟨b, o, none⟩ = some (.int .u8 y) := by
    obtain ⟨A, cap, hv, _, _, _, h4⟩ := hr
    obtain ⟨b, o, rfl, hc⟩ := h4 (by rw [hL]; simp)
    have h5 := hc 0 (by rw [hL]; simp)
    rw [hL] at h5
    exact ⟨b, o, cap, by rw [hN]; exact hv, by rw [hy]; exact h5⟩
  have hb0 : ((N : Int) == 0) = false := by rw [HN.out]; simp; omega
  have hbN : (0 : Int) < (N : Int) := by rw [HN.out]; omega
  have key : ∀ z : UInt8, x ≠ z → (y == (z.toNat : Int)) = false := fun z hz => by
    rw [beq_eq_false_iff_ne]; intro h; apply hz; apply UInt8.toNat_inj.1; omega
  have e1 : (y == 254) = false := key 254 h1
  have e2 : (y == 1) = false := key 1 h2
  have e3 : (y == 0) = false := key 0 h3
  clear hr hL hN hy h1 h2 h3 key
  go_enter Tryz.func124, Tryz.ntmps124
  go_wp2_with fail
  go_ret2
  exact ⟨rfl, Ext.refl _⟩
end Go.Proofs.YtbodppfpmpmadaaGreat

