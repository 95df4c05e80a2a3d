import Derived.Test.YtbodppfpmpmadaaGreatL18C
import Derived.Test.YtbodppfpmpmadaaGreatL16C
namespace Go.Proofs.YtbodppfpmpmadaaGreat
open Go.RowKit

theorem knoneR_k (w : World) (g : Nat) (k0 : w.cell? ⟨g, 0, none⟩ = some (.bool true)) :
    Calls Tryz.prog 72 #[.pointer (some ⟨g, 0, none⟩)] w fun e w' => e = .returned (.bool false) ∧ w = w' := by
  go_enter Tryz.func72, Tryz.ntmps72
  go_wp2_with fail
  go_ret
  exact ⟨rfl, rfl⟩
theorem kstateR_k (w : World) (g : Nat) (K : KeyV) (h : KeyRf w g K) :
    Calls Tryz.prog 35 #[.pointer (some ⟨g, 0, none⟩)] w fun e w' => e = .returned (.int .i64 K.st) ∧ w = w' := by
  have k0 : w.cell? ⟨g, 0, none⟩ = some (.bool true) := BoxF.at h (j := 0) rfl
  have kj : w.cell? ⟨g, 7, none⟩ = some (.int .i64 K.st) := BoxF.at h (j := 7) rfl
  clear h
  go_enter Tryz.func35, Tryz.ntmps35
  go_wp2_with (go_at_call 72; refine (knoneR_k _ g k0).mono ?_; rintro e wx ⟨rfl, rfl⟩)
  go_ret
  exact ⟨rfl, rfl⟩
theorem kcapsR_k (w : World) (g : Nat) (K : KeyV) (h : KeyRf w g K) :
    Calls Tryz.prog 36 #[.pointer (some ⟨g, 0, none⟩)] w fun e w' => e = .returned (.int .u32 K.c) ∧ w = w' := by
  have k0 : w.cell? ⟨g, 0, none⟩ = some (.bool true) := BoxF.at h (j := 0) rfl
  have kj : w.cell? ⟨g, 8, none⟩ = some (.int .u32 K.c) := BoxF.at h (j := 8) rfl
  clear h
  go_enter Tryz.func36, Tryz.ntmps36
  go_wp2_with (go_at_call 72; refine (knoneR_k _ g k0).mono ?_; rintro e wx ⟨rfl, rfl⟩)
  go_ret
  exact ⟨rfl, rfl⟩
theorem kthreadR_k (w : World) (g : Nat) (K : KeyV) (h : KeyRf w g K) :
    Calls Tryz.prog 37 #[.pointer (some ⟨g, 0, none⟩)] w fun e w' => e = .returned (.int .u32 K.t) ∧ w = w' := by
  have k0 : w.cell? ⟨g, 0, none⟩ = some (.bool true) := BoxF.at h (j := 0) rfl
  have kj : w.cell? ⟨g, 9, none⟩ = some (.int .u32 K.t) := BoxF.at h (j := 9) rfl
  clear h
  go_enter Tryz.func37, Tryz.ntmps37
  go_wp2_with (go_at_call 72; refine (knoneR_k _ g k0).mono ?_; rintro e wx ⟨rfl, rfl⟩)
  go_ret
  exact ⟨rfl, rfl⟩
def RetKr (w : World) (g : Nat) (K : KeyV) (r : List (List UInt8) × Int × KeyV) (e : Ending) (w' : World) : Prop :=
  ∃ v, e = .returned (.tuple #[v, .int .i64 r.2.1]) ∧ KeyRf w' g r.2.2 ∧ ((Lists w' v r.1 ∧ Ext w w') ∨ (ListsN w' w.heap.size v r.1 ∧ On g w w' ∧ (r.1 ≠ [] → K.hd = false)))
theorem kfeedR_over (w : World) (g : Nat) (K : KeyV) (l : List UInt8) (vb : Value) (h : KeyRf w g K) (hz : K.st ≠ 0) (hs : K.st ≠ 1) :
    Calls Tryz.prog 34 #[.pointer (some ⟨g, 0, none⟩), vb] w (RetKr w g K (feedK K l)) := by
  have k0 : w.cell? ⟨g, 0, none⟩ = some (.bool true) := BoxF.at h (j := 0) rfl
  have k7 : w.cell? ⟨g, 7, none⟩ = some (.int .i64 K.st) := BoxF.at h (j := 7) rfl
  have e : feedK K l = ([], 9, K) := by unfold feedK; rw [if_neg hz, if_neg hs]
  rw [e]
  have hq : (K.st != 1) = true := by simpa using hs
  have HH := Lib.hid h
  clear h hz hs e
  go_enter Tryz.func34, Tryz.ntmps34
  go_wp2_with (first
    | (go_at_call 72; refine (knoneR_k _ g k0).mono ?_; rintro e wx ⟨rfl, rfl⟩)
    | fail)
  go_ret2
  exact ⟨_, rfl, HH.out, .inl ⟨Lists.nil _, Ext.refl _⟩⟩
set_option maxHeartbeats 2000000 in
theorem kfeedR_greet (w : World) (g : Nat) (K : KeyV) (vb : Value) (h : KeyRf w g K) (hs : K.st = 1) (hd : K.hd = false) (hf : KeyFit K) (l : List UInt8) (hr : Rd w vb l) :
    Calls Tryz.prog 34 #[.pointer (some ⟨g, 0, none⟩), vb] w (RetKr w g K (match greetK K l with | some x => (x.1, 0, x.2) | none => ([], 0, { K with st := 3 }))) := by
  have k0 : w.cell? ⟨g, 0, none⟩ = some (.bool true) := BoxF.at h (j := 0) rfl
  have k7 : w.cell? ⟨g, 7, none⟩ = some (.int .i64 1) := BoxF.at h (j := 7) (by rw [← hs]; rfl)
  have k6 : w.cell? ⟨g, 6, none⟩ = some (.bool false) := BoxF.at h (j := 6) (by rw [← hd]; rfl)
  have HB := Lib.hid h
  have HR := Lib.hid hr
  have HF := Lib.hid hf
  obtain ⟨Ab, cb, rfl, _⟩ := hr
  have HD := Lib.hid hd
  obtain ⟨⟨⟨ver, thr, n, caps, chg, stg, pl⟩, er⟩, hA⟩ : ∃ x, overP greetM gre0 l = x := ⟨_, rfl⟩
  have HA := Lib.hid hA
  have hG : greetK K l = if er = 0 then (if checkC (bothC caps (ownK K)) = 0 then some ([answerB (ansK K ⟨ver, thr, n, caps, chg, stg, pl⟩ (bothC caps (ownK K)))], { K with c := bothC caps (ownK K), t := thr, hd := true }) else none) else none := by
    unfold greetK
    rw [hA]
  rw [hG]
  clear hG h hs hd hf hA
  by_cases hgo : er = 0 ∧ checkC (bothC caps (ownK K)) = 0
  · obtain ⟨he, hk⟩ := hgo
    subst he
    rw [if_pos rfl, if_pos hk]
    obtain ⟨X, hX⟩ : ∃ X, X = answerB (ansK K ⟨ver, thr, n, caps, chg, stg, pl⟩ (bothC caps (ownK K))) := ⟨_, rfl⟩
    have HG := Lib.hid (greetedR_yes w g K l ver n pl thr caps chg stg _ _ HB.out HF.out HR.out HA.out rfl hk)
    rw [← hX] at HG ⊢
    clear hk hX
    go_enter Tryz.func34, Tryz.ntmps34
    go_wp2_with (first
      | (go_at_call 72; refine (knoneR_k _ g k0).mono ?_; rintro e wx ⟨rfl, rfl⟩)
      | (go_at_call 73; refine HG.out.mono ?_; rintro e w1 ⟨v1, rfl, hl1, hB1, O1⟩)
      | fail)
    go_ret2
    exact ⟨_, rfl, hB1, .inr ⟨hl1, O1, fun _ => HD.out⟩⟩
  · have hnone : (if er = 0 then (if checkC (bothC caps (ownK K)) = 0 then some ([answerB (ansK K ⟨ver, thr, n, caps, chg, stg, pl⟩ (bothC caps (ownK K)))], { K with c := bothC caps (ownK K), t := thr, hd := true }) else none) else none) = (none : Option (List (List UInt8) × KeyV)) := by
      split
      · rename_i h1
        split
        · rename_i h2
          exact absurd ⟨h1, h2⟩ hgo
        · rfl
      · rfl
    rw [hnone]
    have HG := Lib.hid (greetedR_no w g K l ver n pl thr caps chg stg er _ HB.out HR.out HA.out (fun e h => hgo ⟨e, h⟩))
    clear hgo hnone
    go_enter Tryz.func34, Tryz.ntmps34
    go_wp2_with (first
      | (go_at_call 72; refine (knoneR_k _ g k0).mono ?_; rintro e wx ⟨rfl, rfl⟩)
      | (go_at_call 73; refine HG.out.mono ?_; rintro e w9 ⟨rfl, B9, O9⟩)
      | fail)
    go_ret2
    exact ⟨_, rfl, B9, .inr ⟨ListsN.nil _ _, O9, fun h => absurd rfl h⟩⟩
theorem kfeedR_nil (w : World) (g : Nat) (K : KeyV) (vb : Value) (h : KeyRf w g K) (hs : K.st = 1) (hd : K.hd = true) (hr : Rd w vb []) :
    Calls Tryz.prog 34 #[.pointer (some ⟨g, 0, none⟩), vb] w (RetKr w g K ([], 0, { K with st := 3 })) := by
  have k0 : w.cell? ⟨g, 0, none⟩ = some (.bool true) := BoxF.at h (j := 0) rfl
  have k7 : w.cell? ⟨g, 7, none⟩ = some (.int .i64 1) := BoxF.at h (j := 7) (by rw [← hs]; rfl)
  have k6 : w.cell? ⟨g, 6, none⟩ = some (.bool true) := BoxF.at h (j := 6) (by rw [← hd]; rfl)
  have HB := Lib.hid h
  obtain ⟨Ab, cb, rfl, _⟩ := hr
  clear h hs hd
  go_enter Tryz.func34, Tryz.ntmps34
  go_wp2_with (first
    | (go_at_call 72; refine (knoneR_k _ g k0).mono ?_; rintro e wx ⟨rfl, rfl⟩)
    | (go_at_call 74; refine (kfailsR_c _ g _ (HB.out)).mono ?_; rintro e w9 ⟨rfl, B9, O9⟩)
    | fail)
  go_ret2
  exact ⟨_, rfl, B9, .inr ⟨ListsN.nil _ _, O9, fun h => absurd rfl h⟩⟩
set_option linter.unusedVariables false in
set_option maxRecDepth 100000 in
set_option maxHeartbeats 4000000 in
theorem kfeedR_switch (w : World) (g : Nat) (K : KeyV) (vb : Value) (h : KeyRf w g K) (hs : K.st = 1) (hd : K.hd = true) (hp : K.pw.length ≤ 1000000) (r pl n : List UInt8) (er : Int) (hr : Rd w vb (254 :: r)) (hA : overP switchM ([], []) (254 :: r) = ((pl, n), er)) :
    Calls Tryz.prog 34 #[.pointer (some ⟨g, 0, none⟩), vb] w (RetKr w g K (if er = 0 ∧ oursP pl = true then ([respPl pl K.pw n], 0, K) else ([], 0, { K with st := 3 }))) := by
  have k0 : w.cell? ⟨g, 0, none⟩ = some (.bool true) := BoxF.at h (j := 0) rfl
  have k7 : w.cell? ⟨g, 7, none⟩ = some (.int .i64 1) := BoxF.at h (j := 7) (by rw [← hs]; rfl)
  have k6 : w.cell? ⟨g, 6, none⟩ = some (.bool true) := BoxF.at h (j := 6) (by rw [← hd]; rfl)
  have HB := Lib.hid h
  obtain ⟨L, hL⟩ : ∃ L, L = 254 :: r := ⟨_, rfl⟩
  have HLL := Lib.hid hL
  rw [← hL] at hr hA
  obtain ⟨N, hN⟩ : ∃ N, N = L.length := ⟨_, rfl⟩
  have HN := Lib.hid (show N = r.length + 1 by rw [hN, hL]; rfl)
  obtain ⟨b, o, cap, rfl, y0, y1⟩ : ∃ b o cap, vb = .slice (some ⟨b, o, none⟩) N cap ∧ w.cell? ⟨b, o, none⟩ = some (.int .u8 254) ∧ (0 < r.length → w.cell? ⟨b, o + 1, none⟩ = some (.int .u8 ((r.getD 0 0).toNat : Int))) := by
    obtain ⟨A, cap, hv, _, _, _, h4⟩ := hr
    obtain ⟨b, o, rfl, hc⟩ := h4 (by rw [hL]; simp)
    have h5 := hc 0 (by rw [hL]; simp)
    rw [hL] at h5
    refine ⟨b, o, cap, by rw [hN]; exact hv, h5, fun h6 => ?_⟩
    have h7 := hc 1 (by rw [hL]; simp; omega)
    rw [hL] at h7
    exact h7
  have HR := Lib.hid hr
  have hb0 : ((N : Int) == 0) = false := by rw [HN.out]; simp; omega
  have hbN : (0 : Int) < (N : Int) := by rw [HN.out]; omega
  have HA := Lib.hid hA
  have HP := Lib.hid hp
  obtain ⟨us, pw, sc, own, ch, st, c0, t0, hd0⟩ := K
  dsimp only at HP ⊢
  obtain ⟨q4, e4⟩ : ∃ q, q = (pl == natL) := ⟨_, rfl⟩
  obtain ⟨q5, e5⟩ : ∃ q, q = (pl == fastL) := ⟨_, rfl⟩
  have ho : oursP pl = (q4 || q5) := by unfold oursP; rw [← e4, ← e5]
  have g4 : ((strL pl).toList == [109, 121, 115, 113, 108, 95, 110, 97, 116, 105, 118, 101, 95, 112, 97, 115, 115, 119, 111, 114, 100]) = q4 := by rw [strL_tl]; exact e4.symm
  have g5 : ((strL pl).toList == [99, 97, 99, 104, 105, 110, 103, 95, 115, 104, 97, 50, 95, 112, 97, 115, 115, 119, 111, 114, 100]) = q5 := by rw [strL_tl]; exact e5.symm
  rw [ho]
  clear h hs hd hp hr hA hL hN e4 e5 ho y1
  by_cases he : er = 0
  · subst he
    have hq : (q4 = false ∧ q5 = false) ∨ (q4 = true) ∨ (q4 = false ∧ q5 = true) := by cases q4 <;> cases q5 <;> simp
    rcases hq with ⟨rfl, rfl⟩ | rfl | ⟨rfl, rfl⟩
    · rw [if_neg (by simp)]
      go_enter Tryz.func34, Tryz.ntmps34
      go_wp2_with (first
        | (go_at_call 72; refine (knoneR_k _ g k0).mono ?_; rintro e wx ⟨rfl, rfl⟩)
        | (go_at_call 75; refine (readSwitchR_s _ _ L pl n 0 HR.out HA.out).mono ?_; rintro e w1 ⟨A1, k1, c1, rfl, hr1, hx1⟩)
        | ((with_reducible show wpList _ _ _ (⟨some 6, Op.alloc _, _, _, _, _⟩ :: _) _ _); refine wpl_alloc rfl _ rfl swi0K (by kernel_rfl) ?_; intro w2 B2 hx2)
        | ((with_reducible show AtW 103); refine wpl_store_box rfl _ _ _ rfl _ [.string (strL pl), .slice A1 k1 c1] rfl rfl B2 rfl (by kernel_rfl) (by rfl) ?_; intro w3 B3 O3; have hx13 : Ext w1 w3 := hx2.on O3 (Nat.le_refl _); have g0 := B3.at (j := 0) rfl; clear B2 O3 hx2)
        | (go_at_call 74; refine (kfailsR_c _ g _ (KeyRf.ext HB.out (hx1.trans hx13))).mono ?_; rintro e w9 ⟨rfl, B9, O9⟩)
        | fail)
      go_ret2
      exact ⟨_, rfl, B9, .inr ⟨ListsN.nil _ _, (On.of (hx1.trans hx13)).trans O9, fun h => absurd rfl h⟩⟩
    all_goals
      rw [if_pos (by simp)]
      go_enter Tryz.func34, Tryz.ntmps34
      go_wp2_with (first
        | (go_at_call 72; refine (knoneR_k _ g k0).mono ?_; rintro e wx ⟨rfl, rfl⟩)
        | (go_at_call 75; refine (readSwitchR_s _ _ L pl n 0 HR.out HA.out).mono ?_; rintro e w1 ⟨A1, k1, c1, rfl, hr1, hx1⟩)
        | ((with_reducible show wpList _ _ _ (⟨some 6, Op.alloc _, _, _, _, _⟩ :: _) _ _); refine wpl_alloc rfl _ rfl swi0K (by kernel_rfl) ?_; intro w2 B2 hx2)
        | ((with_reducible show AtW 103); refine wpl_store_box rfl _ _ _ rfl _ [.string (strL pl), .slice A1 k1 c1] rfl rfl B2 rfl (by kernel_rfl) (by rfl) ?_; intro w3 B3 O3; have hx13 : Ext w1 w3 := hx2.on O3 (Nat.le_refl _); have g0 := B3.at (j := 0) rfl; clear B2 O3 hx2)
        | (go_at_call 74; refine (kfailsR_c _ g _ (KeyRf.ext HB.out (hx1.trans hx13))).mono ?_; rintro e w9 ⟨rfl, B9, O9⟩)
        | fail)
      have HX3 := Lib.hid (hx1.trans hx13)
      have HR3 := Lib.hid (hr1.ext hx13)
      have e1 : w3.cell? ⟨g, 2, none⟩ = some (.string (strL pw)) := (BoxF.ext HB.out HX3.out).at (j := 2) rfl
      have b0 := B3.at (j := 0) rfl
      have b1 := B3.at (j := 1) rfl
      clear hx1 hx13 hr1 B3 y0 k0 k6 k7 g0
      have hE := Ext.refl w3
      go_region_held3 (fun W' => W'.cell? ⟨g, 2, none⟩ = some (.string (strL pw)) ∧ W'.cell? ⟨w1.heap.size, 0, none⟩ = some (.string (strL pl)) ∧ W'.cell? ⟨w1.heap.size, 1, none⟩ = some (.slice A1 k1 c1) ∧ Ext w3 W')
        ((refine (fun h => ⟨Ext.cell h e1, Ext.cell h b0, Ext.cell h b1, h⟩) ?_; repeat' (first | with_reducible exact hE | (with_reducible refine Ext.drew ?_) | (with_reducible refine Ext.alloc ?_ _))))
        (first
          | (go_at_call 76; go_must (refine (responseR_c _ pl pw n _ HP.out (HR3.out.ext (by repeat' (first | exact hE | (with_reducible refine Ext.drew ?_) | (with_reducible refine Ext.alloc ?_ _))))).mono ?_; rintro e w6 ⟨v6, rfl, hr6, hx6⟩; obtain ⟨A6, c6, hv6, _⟩ := id hr6; subst hv6; replace hE : Ext w3 w6 := Ext.trans (by repeat' (first | exact hE | (with_reducible refine Ext.drew ?_) | (with_reducible refine Ext.alloc ?_ _))) hx6))
          | fail)
      all_goals
        have HE := Lib.hid hE
        have HR6 := Lib.hid hr6
        clear hE hr6
        go_wp2_with fail
        go_ret2
        exact ⟨_, rfl, (BoxF.ext HB.out (HX3.out.trans HE.out)).ext ((Ext.refl _).alloc _), .inl ⟨lists_oneR (u := .slice A6 _ c6) (Box.new w6 [_] _ 0 (by simp)) (HR6.out.ext ((Ext.refl _).alloc _)), (HX3.out.trans HE.out).alloc _⟩⟩
  · rw [if_neg (fun x => he x.1)]
    have hb : (er != 0) = true := by simpa using he
    clear he
    go_enter Tryz.func34, Tryz.ntmps34
    go_wp2_with (first
      | (go_at_call 72; refine (knoneR_k _ g k0).mono ?_; rintro e wx ⟨rfl, rfl⟩)
      | (go_at_call 75; refine (readSwitchR_s _ _ L pl n er HR.out HA.out).mono ?_; rintro e w1 ⟨A1, k1, c1, rfl, hr1, hx1⟩)
      | ((with_reducible show wpList _ _ _ (⟨some 6, Op.alloc _, _, _, _, _⟩ :: _) _ _); refine wpl_alloc rfl _ rfl swi0K (by kernel_rfl) ?_; intro w2 B2 hx2)
      | ((with_reducible show AtW 103); refine wpl_store_box rfl _ _ _ rfl _ [.string (strL pl), .slice A1 k1 c1] rfl rfl B2 rfl (by kernel_rfl) (by rfl) ?_; intro w3 B3 O3; have hx13 : Ext w1 w3 := hx2.on O3 (Nat.le_refl _); have g0 := B3.at (j := 0) rfl; clear B2 O3 hx2)
      | (go_at_call 74; refine (kfailsR_c _ g _ (KeyRf.ext HB.out (hx1.trans hx13))).mono ?_; rintro e w9 ⟨rfl, B9, O9⟩)
      | fail)
    go_ret2
    exact ⟨_, rfl, B9, .inr ⟨ListsN.nil _ _, (On.of (hx1.trans hx13)).trans O9, fun h => absurd rfl h⟩⟩
set_option linter.unusedVariables false in
set_option maxRecDepth 100000 in
set_option maxHeartbeats 4000000 in
theorem kfeedR_more (w : World) (g : Nat) (K : KeyV) (vb : Value) (h : KeyRf w g K) (hs : K.st = 1) (hd : K.hd = true) (hp : K.pw.length ≤ 1000000) (r : List UInt8) (hr : Rd w vb (1 :: r)) :
    Calls Tryz.prog 34 #[.pointer (some ⟨g, 0, none⟩), vb] w (RetKr w g K (if r = [3] then ([], 0, K) else if r = [4] then ([K.pw ++ [0]], 0, K) else ([], 0, { K with st := 3 }))) := by
  have k0 : w.cell? ⟨g, 0, none⟩ = some (.bool true) := BoxF.at h (j := 0) rfl
  have k7 : w.cell? ⟨g, 7, none⟩ = some (.int .i64 1) := BoxF.at h (j := 7) (by rw [← hs]; rfl)
  have k6 : w.cell? ⟨g, 6, none⟩ = some (.bool true) := BoxF.at h (j := 6) (by rw [← hd]; rfl)
  have HB := Lib.hid h
  obtain ⟨L, hL⟩ : ∃ L, L = 1 :: r := ⟨_, rfl⟩
  have HLL := Lib.hid hL
  rw [← hL] at hr
  obtain ⟨N, hN⟩ : ∃ N, N = L.length := ⟨_, rfl⟩
  have HN := Lib.hid (show N = r.length + 1 by rw [hN, hL]; rfl)
  obtain ⟨b, o, cap, rfl, y0, y1⟩ : ∃ b o cap, vb = .slice (some ⟨b, o, none⟩) N cap ∧ w.cell? ⟨b, o, none⟩ = some (.int .u8 1) ∧ (0 < r.length → w.cell? ⟨b, o + 1, none⟩ = some (.int .u8 ((r.getD 0 0).toNat : Int))) := by
    obtain ⟨A, cap, hv, _, _, _, h4⟩ := hr
    obtain ⟨b, o, rfl, hc⟩ := h4 (by rw [hL]; simp)
    have h5 := hc 0 (by rw [hL]; simp)
    rw [hL] at h5
    refine ⟨b, o, cap, by rw [hN]; exact hv, h5, fun h6 => ?_⟩
    have h7 := hc 1 (by rw [hL]; simp; omega)
    rw [hL] at h7
    exact h7
  have HR := Lib.hid hr
  have hb0 : ((N : Int) == 0) = false := by rw [HN.out]; simp; omega
  have hbN : (0 : Int) < (N : Int) := by rw [HN.out]; omega
  have HP := Lib.hid hp
  have k2 : w.cell? ⟨g, 2, none⟩ = some (.string (strL K.pw)) := BoxF.at h (j := 2) rfl
  obtain ⟨us, pw, sc, own, ch, st, c0, t0, hd0⟩ := K
  dsimp only at HP k2 ⊢
  obtain ⟨X, hX⟩ : ∃ X, X = pw ++ [0] := ⟨_, rfl⟩
  rw [← hX]
  have HX := Lib.hid hX
  clear h hs hd hp hr hL hN hX
  by_cases h1 : r.length = 1
  · obtain ⟨x, rfl⟩ := List.length_eq_one_iff.1 h1
    have hN2 : N = 2 := by rw [HN.out]; rfl
    subst hN2
    obtain ⟨y, hy⟩ : ∃ y : Int, y = (x.toNat : Int) := ⟨_, rfl⟩
    have y2 : w.cell? ⟨b, o + 1, none⟩ = some (.int .u8 y) := by rw [hy]; exact y1 (by simp)
    clear y1 h1
    by_cases h3 : x = 3
    · subst h3
      rw [if_pos rfl]
      have e3 : (y == 3) = true := by rw [hy]; rfl
      clear hy
      go_enter Tryz.func34, Tryz.ntmps34
      go_wp2_with (first
        | (go_at_call 72; refine (knoneR_k _ g k0).mono ?_; rintro e wx ⟨rfl, rfl⟩)
        | fail)
      go_ret2
      exact ⟨_, rfl, HB.out, .inl ⟨Lists.nil _, Ext.refl _⟩⟩
    · rw [if_neg (by simpa using h3)]
      have e3 : (y == 3) = false := by rw [beq_eq_false_iff_ne]; intro h; apply h3; apply UInt8.toNat_inj.1; show x.toNat = 3; omega
      by_cases h4 : x = 4
      · subst h4
        rw [if_pos rfl]
        have e4 : (y == 4) = true := by rw [hy]; rfl
        clear hy h3
        go_enter Tryz.func34, Tryz.ntmps34
        go_wp2_with (first
          | (go_at_call 72; refine (knoneR_k _ g k0).mono ?_; rintro e wx ⟨rfl, rfl⟩)
          | ((with_reducible show AtS 98); refine wpl_conv bt _ (by rw [strL_size]; have := HP.out; unfold maxLen; omega) rfl _ rfl rfl ?_; intro tg tn tc w5 C1; rw [strL_toList] at C1; clear k0 k2 k6 k7 y0 y2)
          | ((with_reducible show AtS 100); go_loud (refine wpl_append_conv bt (C1.more ((Ext.refl w5).alloc _)) 0 w5.heap.size (by rw [World.cell?_alloc_new]; rfl) HP.out rfl _ _ rfl rfl rfl ?_; intro v6 w6 hr6 hx6; rw [← HX.out] at hr6; obtain ⟨A6, c6, hv6, _⟩ := id hr6; subst hv6))
          | fail)
        go_ret2
        exact ⟨_, rfl, (KeyRf.ext HB.out hx6).ext ((Ext.refl _).alloc _), .inl ⟨lists_oneR (u := .slice A6 _ c6) (Box.new w6 [_] _ 0 (by simp)) (hr6.ext ((Ext.refl _).alloc _)), hx6.alloc _⟩⟩
      · rw [if_neg (by simpa using h4)]
        have e4 : (y == 4) = false := by rw [beq_eq_false_iff_ne]; intro h; apply h4; apply UInt8.toNat_inj.1; show x.toNat = 4; omega
        clear hy h3 h4
        go_enter Tryz.func34, Tryz.ntmps34
        go_wp2_with (first
          | (go_at_call 72; refine (knoneR_k _ g k0).mono ?_; rintro e wx ⟨rfl, rfl⟩)
          | (go_at_call 74; refine (kfailsR_c _ g _ (HB.out)).mono ?_; rintro e w9 ⟨rfl, B9, O9⟩)
          | fail)
        go_ret2
        exact ⟨_, rfl, B9, .inr ⟨ListsN.nil _ _, O9, fun h => absurd rfl h⟩⟩
  · rw [if_neg (by rintro rfl; exact h1 rfl), if_neg (by rintro rfl; exact h1 rfl)]
    have hq : ((N : Int) == 2) = false := by rw [HN.out, beq_eq_false_iff_ne]; omega
    clear h1 y1
    go_enter Tryz.func34, Tryz.ntmps34
    go_wp2_with (first
      | (go_at_call 72; refine (knoneR_k _ g k0).mono ?_; rintro e wx ⟨rfl, rfl⟩)
      | (go_at_call 74; refine (kfailsR_c _ g _ (HB.out)).mono ?_; rintro e w9 ⟨rfl, B9, O9⟩)
      | fail)
    go_ret2
    exact ⟨_, rfl, B9, .inr ⟨ListsN.nil _ _, O9, fun h => absurd rfl h⟩⟩
set_option linter.unusedVariables false in
set_option maxRecDepth 100000 in
set_option maxHeartbeats 4000000 in
theorem kfeedR_ok (w : World) (g : Nat) (K : KeyV) (vb : Value) (h : KeyRf w g K) (hs : K.st = 1) (hd : K.hd = true) (r : List UInt8) (hr : Rd w vb (0 :: r)) (hl : r.length ≤ 900000) :
    Calls Tryz.prog 34 #[.pointer (some ⟨g, 0, none⟩), vb] w (RetKr w g K (if (okS (0 :: r) K.c).2 = 0 then ([], 0, { K with st := 2 }) else ([], 0, { K with st := 3 }))) := by
  have k0 : w.cell? ⟨g, 0, none⟩ = some (.bool true) := BoxF.at h (j := 0) rfl
  have k7 : w.cell? ⟨g, 7, none⟩ = some (.int .i64 1) := BoxF.at h (j := 7) (by rw [← hs]; rfl)
  have k6 : w.cell? ⟨g, 6, none⟩ = some (.bool true) := BoxF.at h (j := 6) (by rw [← hd]; rfl)
  have HB := Lib.hid h
  obtain ⟨L, hL⟩ : ∃ L, L = 0 :: r := ⟨_, rfl⟩
  have HLL := Lib.hid hL
  rw [← hL] at hr
  obtain ⟨N, hN⟩ : ∃ N, N = L.length := ⟨_, rfl⟩
  have HN := Lib.hid (show N = r.length + 1 by rw [hN, hL]; rfl)
  obtain ⟨b, o, cap, rfl, y0, y1⟩ : ∃ b o cap, vb = .slice (some ⟨b, o, none⟩) N cap ∧ w.cell? ⟨b, o, none⟩ = some (.int .u8 0) ∧ (0 < r.length → w.cell? ⟨b, o + 1, none⟩ = some (.int .u8 ((r.getD 0 0).toNat : Int))) := by
    obtain ⟨A, cap, hv, _, _, _, h4⟩ := hr
    obtain ⟨b, o, rfl, hc⟩ := h4 (by rw [hL]; simp)
    have h5 := hc 0 (by rw [hL]; simp)
    rw [hL] at h5
    refine ⟨b, o, cap, by rw [hN]; exact hv, h5, fun h6 => ?_⟩
    have h7 := hc 1 (by rw [hL]; simp; omega)
    rw [hL] at h7
    exact h7
  have HR := Lib.hid hr
  have hb0 : ((N : Int) == 0) = false := by rw [HN.out]; simp; omega
  have hbN : (0 : Int) < (N : Int) := by rw [HN.out]; omega
  have k8 : w.cell? ⟨g, 8, none⟩ = some (.int .u32 K.c) := BoxF.at h (j := 8) rfl
  obtain ⟨us, pw, sc, own, ch, st, c0, t0, hd0⟩ := K
  dsimp only at k8 ⊢
  have HL9 := Lib.hid (show L.length ≤ 8000000 by rw [hL]; simp; omega)
  rw [← hL]
  obtain ⟨⟨⟨a1, a2, a3, a4, a5, a6⟩, er⟩, hE⟩ : ∃ x, okS L c0 = x := ⟨_, rfl⟩
  have HO := Lib.hid hE
  rw [hE]
  dsimp only
  clear h hs hd hr hL hN hl hE y1
  by_cases he : er = 0
  · rw [if_pos he]
    subst he
    go_enter Tryz.func34, Tryz.ntmps34
    go_wp2_with (first
      | (go_at_call 72; refine (knoneR_k _ g k0).mono ?_; rintro e wx ⟨rfl, rfl⟩)
      | (go_at_call 77; refine (readOk_ref _ _ L c0 HR.out HL9.out).mono ?_; rw [HO.out]; rintro e w1 ⟨vt, rfl, hvt, hx1⟩; obtain ⟨At, ct, rfl, _⟩ := hvt)
      | ((with_reducible show wpList _ _ _ (⟨some 8, Op.alloc _, _, _, _, _⟩ :: _) _ _); refine wpl_alloc rfl _ rfl ok0K (by kernel_rfl) ?_; intro w2 B2 hx2)
      | ((with_reducible show AtW 108); refine wpl_store_box rfl _ _ _ rfl _ [.int .u64 a1, .int .u64 a2, .int .u16 a3, .int .u16 a4, .string (strL a5), .slice At a6.length ct] rfl rfl B2 rfl (by kernel_rfl) (by rfl) ?_; intro w3 B3 O3; have hx13 : Ext w1 w3 := hx2.on O3 (Nat.le_refl _); have BK3 := KeyRf.ext HB.out (hx1.trans hx13))
      | ((with_reducible show AtW 3); refine wpl_store_cell rfl _ _ _ rfl g 7 (.int .i64 2) rfl rfl rfl rfl (by kernel_rfl) BK3 (show 7 < 10 by decide) ?_; intro w5 B5 O5)
      | fail)
    go_ret2
    exact ⟨_, rfl, B5, .inr ⟨ListsN.nil _ _, (On.of (hx1.trans hx13)).trans O5, fun h => absurd rfl h⟩⟩
  · rw [if_neg he]
    have hb : (er == 0) = false := by simpa using he
    clear he
    go_enter Tryz.func34, Tryz.ntmps34
    go_wp2_with (first
      | (go_at_call 72; refine (knoneR_k _ g k0).mono ?_; rintro e wx ⟨rfl, rfl⟩)
      | (go_at_call 77; refine (readOk_ref _ _ L c0 HR.out HL9.out).mono ?_; rw [HO.out]; rintro e w1 ⟨vt, rfl, hvt, hx1⟩; obtain ⟨At, ct, rfl, _⟩ := hvt)
      | ((with_reducible show wpList _ _ _ (⟨some 8, Op.alloc _, _, _, _, _⟩ :: _) _ _); refine wpl_alloc rfl _ rfl ok0K (by kernel_rfl) ?_; intro w2 B2 hx2)
      | ((with_reducible show AtW 108); refine wpl_store_box rfl _ _ _ rfl _ [.int .u64 a1, .int .u64 a2, .int .u16 a3, .int .u16 a4, .string (strL a5), .slice At a6.length ct] rfl rfl B2 rfl (by kernel_rfl) (by rfl) ?_; intro w3 B3 O3; have hx13 : Ext w1 w3 := hx2.on O3 (Nat.le_refl _); have BK3 := KeyRf.ext HB.out (hx1.trans hx13))
      | (go_at_call 74; refine (kfailsR_c _ g _ BK3).mono ?_; rintro e w9 ⟨rfl, B9, O9⟩)
      | fail)
    go_ret2
    exact ⟨_, rfl, B9, .inr ⟨ListsN.nil _ _, (On.of (hx1.trans hx13)).trans O9, fun h => absurd rfl h⟩⟩
set_option linter.unusedVariables false in
set_option maxRecDepth 100000 in
set_option maxHeartbeats 4000000 in
theorem kfeedR_other (w : World) (g : Nat) (K : KeyV) (vb : Value) (h : KeyRf w g K) (hs : K.st = 1) (hd : K.hd = true) (x : UInt8) (r : List UInt8) (hr : Rd w vb (x :: r)) (h1 : x ≠ 254) (h2 : x ≠ 1) (h3 : x ≠ 0) :
    Calls Tryz.prog 34 #[.pointer (some ⟨g, 0, none⟩), vb] w (RetKr w g K ([], 0, { K with st := 3 })) := by
  have k0 : w.cell? ⟨g, 0, none⟩ = some (.bool true) := BoxF.at h (j := 0) rfl
  have k7 : w.cell? ⟨g, 7, none⟩ = some (.int .i64 1) := BoxF.at h (j := 7) (by rw [← hs]; rfl)
  have k6 : w.cell? ⟨g, 6, none⟩ = some (.bool true) := BoxF.at h (j := 6) (by rw [← hd]; rfl)
  have HB := Lib.hid h
  obtain ⟨y, hy⟩ : ∃ y : Int, y = (x.toNat : Int) := ⟨_, rfl⟩
  obtain ⟨L, hL⟩ : ∃ L, L = x :: r := ⟨_, rfl⟩
  have HLL := Lib.hid hL
  rw [← hL] at hr
  obtain ⟨N, hN⟩ : ∃ N, N = L.length := ⟨_, rfl⟩
  have HN := Lib.hid (show N = r.length + 1 by rw [hN, hL]; rfl)
  obtain ⟨b, o, cap, rfl, y0, y1⟩ : ∃ b o cap, vb = .slice (some ⟨b, o, none⟩) N cap ∧ w.cell? ⟨b, o, none⟩ = some (.int .u8 y) ∧ (0 < r.length → w.cell? ⟨b, o + 1, none⟩ = some (.int .u8 ((r.getD 0 0).toNat : Int))) := by
    obtain ⟨A, cap, hv, _, _, _, h4⟩ := hr
    obtain ⟨b, o, rfl, hc⟩ := h4 (by rw [hL]; simp)
    have h5 := hc 0 (by rw [hL]; simp)
    rw [hL] at h5
    refine ⟨b, o, cap, by rw [hN]; exact hv, by rw [hy]; exact h5, fun h6 => ?_⟩
    have h7 := hc 1 (by rw [hL]; simp; omega)
    rw [hL] at h7
    exact h7
  have HR := Lib.hid hr
  have hb0 : ((N : Int) == 0) = false := by rw [HN.out]; simp; omega
  have hbN : (0 : Int) < (N : Int) := by rw [HN.out]; omega
  have key : ∀ z : UInt8, x ≠ z → (y == (z.toNat : Int)) = false := fun z hz => by
    rw [beq_eq_false_iff_ne]; intro h; apply hz; apply UInt8.toNat_inj.1; omega
  have e1 : (y == 254) = false := key 254 h1
  have e2 : (y == 1) = false := key 1 h2
  have e3 : (y == 0) = false := key 0 h3
  clear h hs hd hr hL hN hy h1 h2 h3 key y1
  go_enter Tryz.func34, Tryz.ntmps34
  go_wp2_with (first
    | (go_at_call 72; refine (knoneR_k _ g k0).mono ?_; rintro e wx ⟨rfl, rfl⟩)
    | (go_at_call 74; refine (kfailsR_c _ g _ (HB.out)).mono ?_; rintro e w9 ⟨rfl, B9, O9⟩)
    | fail)
  go_ret2
  exact ⟨_, rfl, B9, .inr ⟨ListsN.nil _ _, O9, fun h => absurd rfl h⟩⟩
theorem kfeedR_k (w : World) (g : Nat) (K : KeyV) (l : List UInt8) (vb : Value) (h : KeyRf w g K) (hf : KeyFit K) (hr : Rd w vb l) (hl : l.length ≤ 900000) :
    Calls Tryz.prog 34 #[.pointer (some ⟨g, 0, none⟩), vb] w (RetKr w g K (feedK K l)) := by
  by_cases hs : K.st = 1
  · have hp : K.pw.length ≤ 1000000 := by have := (plainU_inv hf.pw).1; omega
    have hFk : feedK K l = match nextK K l with | some x => (x.1, 0, x.2) | none => ([], 0, { K with st := 3 }) := by unfold feedK; rw [if_neg (by rw [hs]; decide), if_pos hs]; cases nextK K l <;> rfl
    rw [hFk]
    cases hd : K.hd with
    | false =>
      have hN : nextK K l = greetK K l := by unfold nextK; rw [hd]; rfl
      rw [hN]
      have := kfeedR_greet w g K vb h hs hd hf l hr
      rw [hd] at this
      exact this
    | true =>
      have hN : nextK K l = furtherK K l := by unfold nextK; rw [hd]; rfl
      rw [hN]
      suffices hh : Calls Tryz.prog 34 #[.pointer (some ⟨g, 0, none⟩), vb] w (RetKr w g K (match furtherK K l with | some x => (x.1, 0, x.2) | none => ([], 0, { K with st := 3 }))) by
        rw [hd] at hh
        exact hh
      cases l with
      | nil => exact kfeedR_nil w g K vb h hs hd hr
      | cons b r =>
        by_cases h1 : b = 254
        · subst h1
          obtain ⟨⟨⟨pl, n⟩, er⟩, hA⟩ : ∃ x, overP switchM ([], []) (254 :: r) = x := ⟨_, rfl⟩
          have := kfeedR_switch w g K vb h hs hd hp r pl n er hr hA
          have e : furtherK K (254 :: r) = if er = 0 ∧ oursP pl = true then some ([respPl pl K.pw n], K) else none := by
            simp only [furtherK]
            rw [if_pos trivial, hA]
          rw [e]
          by_cases h9 : er = 0 ∧ oursP pl = true
          · rw [if_pos h9] at this ⊢; exact this
          · rw [if_neg h9] at this ⊢; exact this
        by_cases h2 : b = 1
        · subst h2
          have := kfeedR_more w g K vb h hs hd hp r hr
          have e : furtherK K (1 :: r) = if r = [3] then some ([], K) else if r = [4] then some ([K.pw ++ [0]], K) else none := by
            simp only [furtherK]
            rw [if_neg (by decide), if_pos trivial]
          rw [e]
          by_cases h3 : r = [3]
          · rw [if_pos h3] at this ⊢; exact this
          · rw [if_neg h3] at this ⊢
            by_cases h4 : r = [4]
            · rw [if_pos h4] at this ⊢; exact this
            · rw [if_neg h4] at this ⊢; exact this
        by_cases h3 : b = 0
        · subst h3
          have := kfeedR_ok w g K vb h hs hd r hr (by simp at hl; omega)
          have e : furtherK K (0 :: r) = if (okS (0 :: r) K.c).2 = 0 then some ([], { K with st := 2 }) else none := by
            simp only [furtherK]
            rw [if_neg (by decide), if_neg (by decide), if_pos trivial]
          rw [e]
          by_cases h4 : (okS (0 :: r) K.c).2 = 0
          · rw [if_pos h4] at this ⊢; exact this
          · rw [if_neg h4] at this ⊢; exact this
        have e : furtherK K (b :: r) = none := by
          simp only [furtherK]
          rw [if_neg h1, if_neg h2, if_neg h3]
        rw [e]
        exact kfeedR_other w g K vb h hs hd b r hr h1 h2 h3
  · exact kfeedR_over w g K l vb h hf.st hs
end Go.Proofs.YtbodppfpmpmadaaGreat

