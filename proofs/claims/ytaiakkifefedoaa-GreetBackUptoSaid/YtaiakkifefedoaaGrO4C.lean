import Derived.Test.YtaiakkifefedoaaGrIC
/- The program's function that writes a change of user, onto nothing: 4. (Printed by gen_grO.py.) -/
namespace Go.Proofs.Ytaiakkifefedoaa
open Go.RowKit

set_option linter.unusedSimpArgs false in
set_option linter.unusedVariables false in
set_option maxRecDepth 100000 in
set_option maxHeartbeats 8000000 in
theorem appendChange_4 (w : World) (c : Int) (user resp db pl : List UInt8) (ch : Int) (ps : Pairs) (vr va : Value) (hr : Rd w vr resp) (ha : Attrs w va ps) (h : ChgOk c ⟨user, resp, db, ch, pl, ps⟩)
    (hul : user.length ≤ 10000) (hdl : db.length ≤ 10000) (hpl : pl.length ≤ 10000) (hal : (attrsB ps).length ≤ 900000) (hq2 : (strL pl).toList.isEmpty = false) (hq3 : ((ps.length : Int) == 0) = false) :
    Calls Try.prog 22 #[.slice none 0 0, .int .u32 c, .agg #[.string (strL user), vr, .string (strL db), .int .u16 ch, .string (strL pl), va]] w (RetBE w (changeB c ⟨user, resp, db, ch, pl, ps⟩) 0) := by
  have HR := Lib.hid hr
  have HA := Lib.hid ha
  obtain ⟨Ar, cr, rfl, hr1, hr2, _, _⟩ := hr
  obtain ⟨Aa, ca, hva, _, _⟩ := Recs.shape ha
  rw [pairsC_length] at hva
  subst hva
  obtain ⟨hzu, hzd, hzp, hch, hpf, hrl, hn64, haf⟩ := h
  dsimp only at hzu hzd hzp hch hpf hrl hn64 haf
  have HZU := Lib.hid hzu
  have HZD := Lib.hid hzd
  have HZP := Lib.hid hzp
  have HUL := Lib.hid hul
  have HRL := Lib.hid hrl
  have HDL := Lib.hid hdl
  have HPL := Lib.hid hpl
  have HAL := Lib.hid hal
  have HRB := Lib.hid (show 0 ≤ (resp.length : Int) ∧ (resp.length : Int) < 256 by omega)
  have hrw : IntKind.u8.wrap (resp.length : Int) = (resp.length : Int) := by rw [IntKind.wrap_u8]; omega
  have hb1 : plainP [user, db, pl] = true := by simp only [plainP, List.all_cons, List.all_nil, HZU.out, HZD.out, HZP.out]; rfl
  have HB1 := Lib.hid hb1
  have HWC := Lib.hid (show IntKind.u64.wrap ch = ch from IntWalk.u64_in _ (by omega))
  have HFC := Lib.hid (fixOk_of ch 2 (by omega) (by omega) hch.1 hch.2)
  have hri : (resp.length : Int) ≤ 255 := by omega
  have hni : (ps.length : Int) ≤ 64 := by omega
  obtain ⟨kp, hkp⟩ : ∃ k, hasC c 524288 = k := ⟨_, rfl⟩
  obtain ⟨ka, hka⟩ : ∃ k, hasC c 1048576 = k := ⟨_, rfl⟩
  have HKP := Lib.hid hkp
  have HKA := Lib.hid hka
  obtain rfl : kp = true := by rw [← hkp]; exact hpf.resolve_left (fun e => by subst e; simp [strL_tl] at hq2)
  obtain rfl : ka = true := by rw [← hka]; exact haf.resolve_left (fun e => by subst e; simp at hq3)
  have hgt : 0 < (ps.length : Int) := by simp at hq3; have := List.length_pos_iff.2 hq3; omega
  clear ha hzu hzd hzp hch hpf hrl hn64 haf hul hdl hpl hal hkp hka hb1 hq3
  go_enter Try.func22, Try.ntmps22
  go_wp2_with fail
  generalize hW0 : w.alloc _ = wS
  have hb : Box wS w.heap.size [.string (strL user), .slice Ar resp.length cr, .string (strL db), .int .u16 ch, .string (strL pl), .slice Aa ps.length ca] := by rw [← hW0]; exact Box.new w _ _
  have hx0 : Ext w wS := by rw [← hW0]; exact (Ext.refl w).alloc _
  have hsz : w.heap.size + 1 = wS.heap.size := by rw [← hW0]; simp
  have HSZ := Lib.hid hsz
  have HX0 := Lib.hid hx0
  clear hW0 hsz hx0
  go_wp2_with (first
    | (go_at_call 25; refine (plain_g _ _ [user, db, pl] true (texts_new _ _ _ (by rfl) _ _ _ HSZ.out (by rfl) (by simp)) HB1.out).mono ?_; rintro e wT ⟨rfl, hq⟩; have hx1 : Ext wS wT := hq ▸ (Ext.refl wS).alloc _; clear hq; have c1 := hb.one' (j := 1) rfl hx1; have c4 := hb.one' (j := 4) rfl hx1; have c5 := hb.one' (j := 5) rfl hx1)
    | ((with_reducible show Calls _ _ #[_, Value.int .u32 524288] _ _); go_at_call 36; refine (has_g _ _ _ true HKP.out).mono ?_; rintro e wy ⟨rfl, rfl⟩)
    | ((with_reducible show Calls _ _ #[_, Value.int .u32 1048576] _ _); go_at_call 36; refine (has_g _ _ _ true HKA.out).mono ?_; rintro e wy ⟨rfl, rfl⟩)
    | fail)
  clear c1 c4 c5
  replace hb := hb.ext hx1
  have HX := Lib.hid (HX0.out.trans hx1)
  clear hx1 HX0 HSZ
  have hE := Ext.refl wT
  go_region_held3 (fun W' => W'.cell? ⟨w.heap.size, 0, none⟩ = some (.string (strL user)) ∧ Ext wT W') ((refine hb.holdA (i := 0) rfl ?_; repeat' (first | exact hE | (with_reducible refine Ext.drew ?_) | (with_reducible refine Ext.alloc ?_ _))))
    (first
      | (go_at_call 28; go_must (refine (cloneN_c _).mono ?_; rintro e wx ⟨rfl, rfl⟩))
      | ((with_reducible show (if Region.wanted (⟨some 55, _, _, _, _, _⟩ : Oper) _ = true then _ else _)); go_must (refine step_append_rdg (m := [17]) bt (Own.nil _ wT.heap.size) ?_ (by rfl) _ _ (by rfl) (by rfl) (by rfl) (by have h1 := HUL.out; have h2 := HRL.out; have h3 := HDL.out; have h4 := HPL.out; have h5 := HAL.out; simp only [List.length_append, List.length_cons, List.length_nil, fixB_length] <;> omega) (Ext.size (w := wT) (by repeat' (first | exact hE | (with_reducible refine Ext.drew ?_) | (with_reducible refine Ext.alloc ?_ _)))) ?_; ((first | exact rd_lit _ _ [17] (by rfl) (by simp) 1 _ (by rfl) (by first | rfl | (simp; done)) | exact Rd.ext (rd_lit _ _ [17] (by rfl) (by simp) 1 _ (by rfl) (by first | rfl | (simp; done))) ((Ext.refl _).alloc _) | exact Rd.ext (rd_lit _ _ [17] (by rfl) (by simp) 1 _ (by rfl) (by first | rfl | (simp; done))) (((Ext.refl _).alloc _).alloc _) | exact Rd.ext (rd_lit _ _ [17] (by rfl) (by simp) 1 _ (by rfl) (by first | rfl | (simp; done))) (Ext.refl _).drew | exact Rd.ext (rd_lit _ _ [17] (by rfl) (by simp) 1 _ (by rfl) (by first | rfl | (simp; done))) ((Ext.refl _).alloc _).drew | exact Rd.ext (rd_lit _ _ [17] (by rfl) (by simp) 1 _ (by rfl) (by first | rfl | (simp; done))) (((Ext.refl _).alloc _).alloc _).drew)); intro v2 w2 ho2 hb2 hg2; replace hE : Ext wT w2 := Ext.below (by repeat' (first | exact hE | (with_reducible refine Ext.drew ?_) | (with_reducible refine Ext.alloc ?_ _))) hb2 (Nat.le_refl _)))
      | (go_at_call 27; go_must (refine (endedA_g _ _ ([] ++ [17]) user (ho2.ext (by repeat' (first | exact (Ext.refl _) | (with_reducible refine Ext.drew ?_) | (with_reducible refine Ext.alloc ?_ _)))).rd (by have h1 := HUL.out; omega) (by simp) HZU.out).mono ?_; rintro e w3 ⟨v3, rfl, hof3, hx3⟩; have ho3 := hof3.more (base' := wT.heap.size) (Ext.size (w := wT) (by repeat' (first | exact hE | (with_reducible refine Ext.drew ?_) | (with_reducible refine Ext.alloc ?_ _)))); replace hE : Ext wT w3 := Ext.trans (by repeat' (first | exact hE | (with_reducible refine Ext.drew ?_) | (with_reducible refine Ext.alloc ?_ _))) hx3))
      | fail)
  all_goals
    (try go_wp2_with fail)
    go_region_held3 (fun W' => W'.cell? ⟨w.heap.size, 1, none⟩ = some (.slice Ar resp.length cr) ∧ Ext wT W') ((refine hb.holdA (i := 1) rfl ?_; repeat' (first | exact hE | (with_reducible refine Ext.drew ?_) | (with_reducible refine Ext.alloc ?_ _))))
      (first
        | ((with_reducible show (if Region.wanted (⟨some 65, _, _, _, _, _⟩ : Oper) _ = true then _ else _)); go_must (refine step_append_rdg (m := [UInt8.ofNat (resp.length : Int).toNat]) bt (ho3.ext (by repeat' (first | exact (Ext.refl _) | (with_reducible refine Ext.drew ?_) | (with_reducible refine Ext.alloc ?_ _)))) ?_ (by rfl) _ _ (by rfl) (by rfl) (by rfl) (by have h1 := HUL.out; have h2 := HRL.out; have h3 := HDL.out; have h4 := HPL.out; have h5 := HAL.out; simp only [List.length_append, List.length_cons, List.length_nil, fixB_length] <;> omega) (Ext.size (w := wT) (by repeat' (first | exact hE | (with_reducible refine Ext.drew ?_) | (with_reducible refine Ext.alloc ?_ _)))) ?_; ((first | exact rd_byte _ (resp.length : Int) HRB.out _ (by first | rfl | (simp; done)) | exact Rd.ext (rd_byte _ (resp.length : Int) HRB.out _ (by first | rfl | (simp; done))) ((Ext.refl _).alloc _) | exact Rd.ext (rd_byte _ (resp.length : Int) HRB.out _ (by first | rfl | (simp; done))) (((Ext.refl _).alloc _).alloc _) | exact Rd.ext (rd_byte _ (resp.length : Int) HRB.out _ (by first | rfl | (simp; done))) (Ext.refl _).drew | exact Rd.ext (rd_byte _ (resp.length : Int) HRB.out _ (by first | rfl | (simp; done))) ((Ext.refl _).alloc _).drew | exact Rd.ext (rd_byte _ (resp.length : Int) HRB.out _ (by first | rfl | (simp; done))) (((Ext.refl _).alloc _).alloc _).drew)); intro v4 w4 ho4 hb4 hg4; replace hE : Ext wT w4 := Ext.below (by repeat' (first | exact hE | (with_reducible refine Ext.drew ?_) | (with_reducible refine Ext.alloc ?_ _))) hb4 (Nat.le_refl _)))
        | ((with_reducible show (if Region.wanted (⟨some 68, _, _, _, _, _⟩ : Oper) _ = true then _ else _)); go_must (refine step_append_rdg (m := resp) bt (ho4.ext (by repeat' (first | exact (Ext.refl _) | (with_reducible refine Ext.drew ?_) | (with_reducible refine Ext.alloc ?_ _)))) ?_ (by rfl) _ _ (by rfl) (by rfl) (by rfl) (by have h1 := HUL.out; have h2 := HRL.out; have h3 := HDL.out; have h4 := HPL.out; have h5 := HAL.out; simp only [List.length_append, List.length_cons, List.length_nil, fixB_length] <;> omega) (Ext.size (w := wT) (by repeat' (first | exact hE | (with_reducible refine Ext.drew ?_) | (with_reducible refine Ext.alloc ?_ _)))) ?_; (exact (HR.out.ext (HX.out.trans (by repeat' (first | exact hE | (with_reducible refine Ext.drew ?_) | (with_reducible refine Ext.alloc ?_ _)))))); intro v5 w5 ho5 hb5 hg5; replace hE : Ext wT w5 := Ext.below (by repeat' (first | exact hE | (with_reducible refine Ext.drew ?_) | (with_reducible refine Ext.alloc ?_ _))) hb5 (Nat.le_refl _)))
        | fail)
    all_goals
      (try go_wp2_with fail)
      go_region_held3 (fun W' => W'.cell? ⟨w.heap.size, 2, none⟩ = some (.string (strL db)) ∧ W'.cell? ⟨w.heap.size, 3, none⟩ = some (.int .u16 ch) ∧ Ext wT W') ((refine hb.hold2 (i := 2) (j := 3) rfl rfl ?_; repeat' (first | exact hE | (with_reducible refine Ext.drew ?_) | (with_reducible refine Ext.alloc ?_ _))))
        (first
          | ((with_reducible show Calls _ _ #[v5, _] _ _); go_at_call 27; go_must (refine (endedA_g _ _ ([] ++ [17] ++ (user ++ [0]) ++ [UInt8.ofNat (resp.length : Int).toNat] ++ resp) db (ho5.ext (by repeat' (first | exact (Ext.refl _) | (with_reducible refine Ext.drew ?_) | (with_reducible refine Ext.alloc ?_ _)))).rd (by have := HDL.out; omega) (by have h1 := HUL.out; have h2 := HRL.out; have h3 := HDL.out; have h4 := HPL.out; have h5 := HAL.out; simp only [List.length_append, List.length_cons, List.length_nil, fixB_length] <;> omega) HZD.out).mono ?_; rintro e w6 ⟨v6, rfl, hof6, hx6⟩; have ho6 := hof6.more (base' := wT.heap.size) (Ext.size (w := wT) (by repeat' (first | exact hE | (with_reducible refine Ext.drew ?_) | (with_reducible refine Ext.alloc ?_ _)))); replace hE : Ext wT w6 := Ext.trans (by repeat' (first | exact hE | (with_reducible refine Ext.drew ?_) | (with_reducible refine Ext.alloc ?_ _))) hx6))
          | ((with_reducible show Calls _ _ #[v6, _, _] _ _); go_at_call 40; go_must ((try rw [HWC.out]); refine (fixedA_g _ _ ([] ++ [17] ++ (user ++ [0]) ++ [UInt8.ofNat (resp.length : Int).toNat] ++ resp ++ (db ++ [0])) ch 2 (ho6.ext (by repeat' (first | exact (Ext.refl _) | (with_reducible refine Ext.drew ?_) | (with_reducible refine Ext.alloc ?_ _)))).rd (by have h1 := HUL.out; have h2 := HRL.out; have h3 := HDL.out; have h4 := HPL.out; have h5 := HAL.out; simp only [List.length_append, List.length_cons, List.length_nil, fixB_length] <;> omega) HFC.out).mono ?_; rintro e w7 ⟨v7, rfl, hof7, hx7⟩; have ho7 := hof7.more (base' := wT.heap.size) (Ext.size (w := wT) (by repeat' (first | exact hE | (with_reducible refine Ext.drew ?_) | (with_reducible refine Ext.alloc ?_ _)))); replace hE : Ext wT w7 := Ext.trans (by repeat' (first | exact hE | (with_reducible refine Ext.drew ?_) | (with_reducible refine Ext.alloc ?_ _))) hx7))
          | fail)
      all_goals
        have hz9 := hb.one' (j := 4) rfl hE
        have c5 := hb.one' (j := 5) rfl hE
        have c4 := hz9
        clear hz9
        (try go_wp2_with fail)
        go_wp2_with (first
          | ((with_reducible show Calls _ _ #[_, Value.int .u32 524288] _ _); go_at_call 36; refine (has_g _ _ _ true HKP.out).mono ?_; rintro e wy ⟨rfl, rfl⟩)
          | (go_at_call 27; (with_reducible show Calls _ _ #[v7, _] _ _); refine (endedA_g _ _ _ pl ho7.rd (by have := HPL.out; omega) (by have h1 := HUL.out; have h2 := HRL.out; have h3 := HDL.out; have h4 := HPL.out; have h5 := HAL.out; simp only [List.length_append, List.length_cons, List.length_nil, fixB_length] <;> omega) HZP.out).mono ?_; rintro e w8 ⟨v8, rfl, hof8, hx8⟩; have ho8 := hof8.more (base' := wT.heap.size) (Ext.size hE); replace hE := hE.trans hx8; clear c5; have c5 := hb.one' (j := 5) rfl hE)
          | ((with_reducible show Calls _ _ #[_, Value.int .u32 1048576] _ _); go_at_call 36; refine (has_g _ _ _ true HKA.out).mono ?_; rintro e wy ⟨rfl, rfl⟩)
          | (go_at_call 42; refine (attrsA_g _ _ _ _ ps ho8.rd (HA.out.ext (HX.out.trans hE)) (by have h1 := HUL.out; have h2 := HRL.out; have h3 := HDL.out; have h4 := HPL.out; have h5 := HAL.out; simp only [List.length_append, List.length_cons, List.length_nil, fixB_length] <;> omega) HAL.out).mono ?_; rintro e w9 ⟨v9, rfl, hof9, hx9⟩; have ho9 := hof9.more (base' := wT.heap.size) (Ext.size hE); replace hE := hE.trans hx9)
          | fail)
        go_ret2
        refine ⟨_, rfl, ?_, HX.out.trans hE⟩
        have e4 : changeB c ⟨user, resp, db, ch, pl, ps⟩ = [] ++ [17] ++ (user ++ [0]) ++ [UInt8.ofNat (resp.length : Int).toNat] ++ resp ++ (db ++ [0]) ++ fixB ch 2 ++ (pl ++ [0]) ++ textB (attrsB ps) := by
          simp only [changeB, respB, endB, attB, HKP.out, HKA.out, ↓reduceIte, Bool.false_eq_true]
          simp
        rw [e4]
        exact ho9.more (Ext.size HX.out)
end Go.Proofs.Ytaiakkifefedoaa
