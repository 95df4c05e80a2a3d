import Derived.Test.YtbodppfpmpmadaaGreatL16C
namespace Go.Proofs.YtbodppfpmpmadaaGreat
open Go.RowKit

set_option linter.unusedSimpArgs false in
set_option linter.unusedVariables false in
set_option maxRecDepth 100000 in
set_option maxHeartbeats 16000000 in
theorem appendAnswerR_l (w : World) (caps most ch : Int) (user resp db pl : List UInt8) (vr : Value) (hr : Rd w vr resp) (h : AnsOk ⟨caps, most, ch, user, resp, db, pl, []⟩) (hkp : hasC caps 524288 = true) (hkd : hasC caps 8 = !db.isEmpty)
    (hul : user.length ≤ 10000) (hdl : db.length ≤ 10000) (hpl : pl.length ≤ 10000) (hkl : hasC caps 2097152 = true) :
    Calls Tryz.prog 126 #[.slice none 0 0, .agg #[.int .u32 caps, .int .u32 most, .int .u8 ch, .string (strL user), vr, .string (strL db), .string (strL pl), .slice none 0 0]] w (RetBE w (answerB ⟨caps, most, ch, user, resp, db, pl, []⟩) 0) := by
  have HR := Lib.hid hr
  obtain ⟨Ar, cr, rfl, hr1, hr2, _, _⟩ := hr
  obtain ⟨hcaps, hmost, hch, hcore, hzu, hzd, hzp, hdf, hpf, hrl, hn64, haf⟩ := h
  dsimp only at hcaps hmost hch hcore hzu hzd hzp hdf hpf hrl hn64 haf
  have HZU := Lib.hid hzu
  have HZD := Lib.hid hzd
  have HZP := Lib.hid hzp
  have HUL := Lib.hid hul
  have HRL := Lib.hid hrl
  have HDL := Lib.hid hdl
  have HPL := Lib.hid hpl
  have HKL := Lib.hid hkl
  have HCH := Lib.hid hch
  have HKP := Lib.hid hkp
  have HCR := Lib.hid hcore
  have HTB := Lib.hid (show (textB resp).length ≤ 1000 by rw [textB_size]; have := (sizeI_le resp.length).2; omega)
  have HRB := Lib.hid (show 0 ≤ (resp.length : Int) ∧ (resp.length : Int) < 256 by omega)
  have hrw : IntKind.u8.wrap (resp.length : Int) = (resp.length : Int) := by rw [IntKind.wrap_u8]; omega
  have HWC := Lib.hid (show IntKind.u64.wrap caps = caps from IntWalk.u64_in _ (by omega))
  have HWM := Lib.hid (show IntKind.u64.wrap most = most from IntWalk.u64_in _ (by omega))
  have HFC := Lib.hid (fixOk_of caps 4 (by omega) (by omega) hcaps.1 hcaps.2)
  have HFM := Lib.hid (fixOk_of most 4 (by omega) (by omega) hmost.1 hmost.2)
  obtain ⟨ka, hka⟩ : ∃ k, hasC caps 1048576 = k := ⟨_, rfl⟩
  have HKA := Lib.hid hka
  obtain ⟨q1, hq1⟩ : ∃ q, (strL db).toList.isEmpty = q := ⟨_, rfl⟩
  have hq2 : db.isEmpty = q1 := by rw [← hq1, strL_tl]
  rw [hq2] at hkd
  have HKD := Lib.hid hkd
  clear hcore hzu hzd hzp hdf hpf hrl hn64 haf hul hdl hpl hkl hkd hkp hka hq2
  cases q1
  all_goals
    go_enter Tryz.func126, Tryz.ntmps126
    go_wp2_with fail
    generalize hW0 : w.alloc _ = wS
    have hb : Box wS w.heap.size [.int .u32 caps, .int .u32 most, .int .u8 ch, .string (strL user), .slice Ar resp.length cr, .string (strL db), .string (strL pl), .slice none 0 0] := by rw [← hW0]; exact Box.new w _ _
    have hx0 : Ext w wS := by rw [← hW0]; exact (Ext.refl w).alloc _
    clear hW0
    have HX := Lib.hid hx0
    clear hx0
    have hE := Ext.refl wS
    have c0 := hb.one' (j := 0) rfl hE
    have c3 := hb.one' (j := 3) rfl hE
    have c4 := hb.one' (j := 4) rfl hE
    have c5 := hb.one' (j := 5) rfl hE
    have c6 := hb.one' (j := 6) rfl hE
    have c7 := hb.one' (j := 7) rfl hE
    go_wp2_with (first
      | (go_at_call 116; refine (baseR_c _ caps true HCR.out).mono ?_; rintro e wx ⟨rfl, rfl⟩)
      | (go_at_call 171; refine (answerR_t _ caps user resp db pl _ (HR.out.ext HX.out) HZU.out HZD.out HZP.out HUL.out HDL.out HPL.out HRL.out HKP.out).mono ?_; rintro e wx ⟨rfl, rfl⟩)
      | ((with_reducible show Calls _ _ #[_, Value.int .u32 8] _ _); go_at_call 104; refine (hasR_at _ _ _ true ((hasB_8 _).trans HKD.out)).mono ?_; rintro e wy ⟨rfl, rfl⟩)
      | fail)
    clear c0 c3 c4 c5 c6 c7
    go_region_held3 (fun W' => W'.cell? ⟨w.heap.size, 0, none⟩ = some (.int .u32 caps) ∧ W'.cell? ⟨w.heap.size, 1, none⟩ = some (.int .u32 most) ∧ Ext wS W') ((refine hb.hold2 (i := 0) (j := 1) rfl rfl ?_; repeat' (first | exact hE | (with_reducible refine Ext.drew ?_) | (with_reducible refine Ext.alloc ?_ _))))
      (first
        | ((with_reducible show (if Region.wanted (⟨some 40, _, _, _, _, _⟩ : Oper) _ = true then _ else _)); go_must (refine step_append_none (base := wS.heap.size) (l := []) bt ?_ (by rfl) _ _ (by rfl) (by rfl) (by rfl) ?_; ((first | exact own_nil _ _ _ (by first | rfl | (simp; done)) (by first | exact Nat.le_refl _ | (simp; done) | (simp; omega)) | exact Own.ext (own_nil _ _ _ (by first | rfl | (simp; done)) (by first | exact Nat.le_refl _ | (simp; done) | (simp; omega))) ((Ext.refl _).alloc _) | exact Own.ext (own_nil _ _ _ (by first | rfl | (simp; done)) (by first | exact Nat.le_refl _ | (simp; done) | (simp; omega))) (((Ext.refl _).alloc _).alloc _) | exact Own.ext (own_nil _ _ _ (by first | rfl | (simp; done)) (by first | exact Nat.le_refl _ | (simp; done) | (simp; omega))) (Ext.refl _).drew | exact Own.ext (own_nil _ _ _ (by first | rfl | (simp; done)) (by first | exact Nat.le_refl _ | (simp; done) | (simp; omega))) ((Ext.refl _).alloc _).drew | exact Own.ext (own_nil _ _ _ (by first | rfl | (simp; done)) (by first | exact Nat.le_refl _ | (simp; done) | (simp; omega))) (((Ext.refl _).alloc _).alloc _).drew | exact Own.ext (own_nil _ _ _ (by first | rfl | (simp; done)) (by first | exact Nat.le_refl _ | (simp; done) | (simp; omega))) (((Ext.refl _).alloc _).drew).drew | exact Own.ext (own_nil _ _ _ (by first | rfl | (simp; done)) (by first | exact Nat.le_refl _ | (simp; done) | (simp; omega))) ((Ext.refl _).drew).drew))))
        | ((with_reducible show Calls _ _ #[Value.slice (some _) 0 0, _, _] _ _); go_at_call 103; go_must ((try rw [HWC.out]); refine (fixed12R_c _ _ ([]) caps 4 (rd_empty _ _) (by have h1 := HUL.out; have h2 := HRL.out; have h3 := HDL.out; have h4 := HPL.out; simp only [List.length_append, List.length_cons, List.length_nil, List.length_take, List.length_drop, List.length_replicate, fixB_length] <;> omega) HFC.out).mono ?_; rintro e w2 ⟨v2, rfl, hof2, hx2⟩; have ho2 := hof2.more (base' := wS.heap.size) (Ext.size (w := wS) (by repeat' (first | exact hE | (with_reducible refine Ext.drew ?_) | (with_reducible refine Ext.alloc ?_ _)))); replace hE : Ext wS w2 := Ext.trans (by repeat' (first | exact hE | (with_reducible refine Ext.drew ?_) | (with_reducible refine Ext.alloc ?_ _))) hx2))
        | ((with_reducible show Calls _ _ #[v2, _, _] _ _); go_at_call 103; go_must ((try rw [HWM.out]); refine (fixed12R_c _ _ ([] ++ fixB caps 4) most 4 (ho2.ext (by repeat' (first | exact (Ext.refl _) | (with_reducible refine Ext.drew ?_) | (with_reducible refine Ext.alloc ?_ _)))).rd (by have h1 := HUL.out; have h2 := HRL.out; have h3 := HDL.out; have h4 := HPL.out; simp only [List.length_append, List.length_cons, List.length_nil, List.length_take, List.length_drop, List.length_replicate, fixB_length] <;> omega) HFM.out).mono ?_; rintro e w3 ⟨v3, rfl, hof3, hx3⟩; have ho3 := hof3.more (base' := wS.heap.size) (Ext.size (w := wS) (by repeat' (first | exact hE | (with_reducible refine Ext.drew ?_) | (with_reducible refine Ext.alloc ?_ _)))); replace hE : Ext wS w3 := Ext.trans (by repeat' (first | exact hE | (with_reducible refine Ext.drew ?_) | (with_reducible refine Ext.alloc ?_ _))) hx3))
        | fail)
    all_goals
      (try go_wp2_with fail)
      go_region_held3 (fun W' => W'.cell? ⟨w.heap.size, 2, none⟩ = some (.int .u8 ch) ∧ W'.cell? ⟨w.heap.size, 3, none⟩ = some (.string (strL user)) ∧ Ext wS W') ((refine hb.hold2 (i := 2) (j := 3) rfl rfl ?_; repeat' (first | exact hE | (with_reducible refine Ext.drew ?_) | (with_reducible refine Ext.alloc ?_ _))))
        (first
          | ((with_reducible show (if Region.wanted (⟨some 53, _, _, _, _, _⟩ : Oper) _ = true then _ else _)); go_must (refine step_append_rdg (m := [UInt8.ofNat ch.toNat]) bt (ho3.ext (by repeat' (first | exact (Ext.refl _) | (with_reducible refine Ext.drew ?_) | (with_reducible refine Ext.alloc ?_ _)))) ?_ (by rfl) _ _ (by rfl) (by rfl) (by rfl) (by have h1 := HUL.out; have h2 := HRL.out; have h3 := HDL.out; have h4 := HPL.out; simp only [List.length_append, List.length_cons, List.length_nil, List.length_take, List.length_drop, List.length_replicate, fixB_length] <;> omega) (Ext.size (w := wS) (by repeat' (first | exact hE | (with_reducible refine Ext.drew ?_) | (with_reducible refine Ext.alloc ?_ _)))) ?_; ((first | exact rd_byte _ ch HCH.out _ (by first | rfl | (simp; done)) | exact Rd.ext (rd_byte _ ch HCH.out _ (by first | rfl | (simp; done))) ((Ext.refl _).alloc _) | exact Rd.ext (rd_byte _ ch HCH.out _ (by first | rfl | (simp; done))) (((Ext.refl _).alloc _).alloc _) | exact Rd.ext (rd_byte _ ch HCH.out _ (by first | rfl | (simp; done))) (Ext.refl _).drew | exact Rd.ext (rd_byte _ ch HCH.out _ (by first | rfl | (simp; done))) ((Ext.refl _).alloc _).drew | exact Rd.ext (rd_byte _ ch HCH.out _ (by first | rfl | (simp; done))) (((Ext.refl _).alloc _).alloc _).drew)); intro v4 w4 ho4 hb4 hg4; replace hE : Ext wS w4 := Ext.below (by repeat' (first | exact hE | (with_reducible refine Ext.drew ?_) | (with_reducible refine Ext.alloc ?_ _))) hb4 (Nat.le_refl _)))
          | ((with_reducible show (if Region.wanted (⟨some 54, _, _, _, _, _⟩ : Oper) _ = true then _ else _)); go_must (refine step_append_zeros bt Tryz.underlying3 (ho4.ext (by repeat' (first | exact (Ext.refl _) | (with_reducible refine Ext.drew ?_) | (with_reducible refine Ext.alloc ?_ _)))) 23 (by omega) (by rfl) _ _ (by rfl) (by rfl) _ (by rfl) (by have h1 := HUL.out; have h2 := HRL.out; have h3 := HDL.out; have h4 := HPL.out; simp only [List.length_append, List.length_cons, List.length_nil, List.length_take, List.length_drop, List.length_replicate, fixB_length] <;> omega) (Ext.size (w := wS) (by repeat' (first | exact hE | (with_reducible refine Ext.drew ?_) | (with_reducible refine Ext.alloc ?_ _)))) ?_; intro v5 w5 ho5 hb5; replace hE : Ext wS w5 := Ext.below (by repeat' (first | exact hE | (with_reducible refine Ext.drew ?_) | (with_reducible refine Ext.alloc ?_ _))) hb5 (Nat.le_refl _)))
          | (go_at_call 102; go_must (refine (ended12R_c _ _ ([] ++ fixB caps 4 ++ fixB most 4 ++ [UInt8.ofNat ch.toNat] ++ List.replicate 23 0) user (ho5.ext (by repeat' (first | exact (Ext.refl _) | (with_reducible refine Ext.drew ?_) | (with_reducible refine Ext.alloc ?_ _)))).rd (by have h1 := HUL.out; omega) (by have h1 := HUL.out; have h2 := HRL.out; have h3 := HDL.out; have h4 := HPL.out; simp only [List.length_append, List.length_cons, List.length_nil, List.length_take, List.length_drop, List.length_replicate, fixB_length] <;> omega) HZU.out).mono ?_; rintro e w6 ⟨v6, rfl, hof6, hx6⟩; have ho6 := hof6.more (base' := wS.heap.size) (Ext.size (w := wS) (by repeat' (first | exact hE | (with_reducible refine Ext.drew ?_) | (with_reducible refine Ext.alloc ?_ _)))); replace hE : Ext wS w6 := Ext.trans (by repeat' (first | exact hE | (with_reducible refine Ext.drew ?_) | (with_reducible refine Ext.alloc ?_ _))) hx6))
          | fail)
      all_goals
        have c0 := hb.one' (j := 0) rfl hE
        have c4 := hb.one' (j := 4) rfl hE
        have c5 := hb.one' (j := 5) rfl hE
        have c6 := hb.one' (j := 6) rfl hE
        have c7 := hb.one' (j := 7) rfl hE
        have hE6 := hE
        clear hE
        cases ka
        · first
            | (have HKD := Lib.hid (show hasC caps 8 = true from HKD.out)
               go_wp2_with (first
                 | ((with_reducible show Calls _ _ #[_, Value.int .u32 2097152] _ _); go_at_call 104; refine (hasR_at _ _ _ true ((hasB_lenenc _).trans HKL.out)).mono ?_; rintro e wy ⟨rfl, rfl⟩)
                 | ((with_reducible show AtS 64); refine wpl_str bt (HR.out.ext (HX.out.trans hE6)) rfl _ rfl rfl ?_)
                 | (go_at_call 166; refine (appendText_ref _ _ _ (strL resp) ho6.rd (by rw [strL_size]; have := HRL.out; omega) (by have h1 := HUL.out; have h2 := HRL.out; have h3 := HDL.out; have h4 := HPL.out; simp only [List.length_append, List.length_cons, List.length_nil, List.length_take, List.length_drop, List.length_replicate, fixB_length] <;> omega)).mono ?_; rw [strL_toList]; rintro e w30 ⟨v30, rfl, hof30, hx30⟩; have ho30 := hof30.more (base' := wS.heap.size) (Ext.size hE6); have hE30 := hE6.trans hx30; clear c0 c4 c5 c6 c7; have c0 := hb.one' (j := 0) rfl hE30; have c4 := hb.one' (j := 4) rfl hE30; have c5 := hb.one' (j := 5) rfl hE30; have c6 := hb.one' (j := 6) rfl hE30; have c7 := hb.one' (j := 7) rfl hE30)
                 | ((with_reducible show Calls _ _ #[_, Value.int .u32 8] _ _); go_at_call 104; refine (hasR_at _ _ _ true ((hasB_8 _).trans HKD.out)).mono ?_; rintro e wy ⟨rfl, rfl⟩)
                 | (go_at_call 102; (with_reducible show Calls _ _ #[v30, _] _ _); refine (ended12R_c _ _ _ db ho30.rd (by have := HDL.out; omega) (by have h1 := HUL.out; have h2 := HRL.out; have h3 := HDL.out; have h4 := HPL.out; have h6 := HTB.out; simp only [List.length_append, List.length_cons, List.length_nil, List.length_take, List.length_drop, List.length_replicate, fixB_length] <;> omega) HZD.out).mono ?_; rintro e w31 ⟨v31, rfl, hof31, hx31⟩; have ho31 := hof31.more (base' := wS.heap.size) (Ext.size hE30); have hE31 := hE30.trans hx31; clear c0 c4 c5 c6 c7; have c0 := hb.one' (j := 0) rfl hE31; have c4 := hb.one' (j := 4) rfl hE31; have c5 := hb.one' (j := 5) rfl hE31; have c6 := hb.one' (j := 6) rfl hE31; have c7 := hb.one' (j := 7) rfl hE31)
                 | ((with_reducible show Calls _ _ #[_, Value.int .u32 524288] _ _); go_at_call 104; refine (hasR_at _ _ _ true ((hasB_plugin _).trans HKP.out)).mono ?_; rintro e wy ⟨rfl, rfl⟩)
                 | (go_at_call 102; (with_reducible show Calls _ _ #[v31, _] _ _); refine (ended12R_c _ _ _ pl ho31.rd (by have := HPL.out; omega) (by have h1 := HUL.out; have h2 := HRL.out; have h3 := HDL.out; have h4 := HPL.out; have h6 := HTB.out; simp only [List.length_append, List.length_cons, List.length_nil, List.length_take, List.length_drop, List.length_replicate, fixB_length] <;> omega) HZP.out).mono ?_; rintro e w32 ⟨v32, rfl, hof32, hx32⟩; have ho32 := hof32.more (base' := wS.heap.size) (Ext.size hE31); have hE32 := hE31.trans hx32; clear c0 c4 c5 c6 c7; have c0 := hb.one' (j := 0) rfl hE32; have c4 := hb.one' (j := 4) rfl hE32; have c5 := hb.one' (j := 5) rfl hE32; have c6 := hb.one' (j := 6) rfl hE32; have c7 := hb.one' (j := 7) rfl hE32)
                 | ((with_reducible show Calls _ _ #[_, Value.int .u32 1048576] _ _); go_at_call 104; refine (hasR_at _ _ _ false ((hasB_attrs _).trans HKA.out)).mono ?_; rintro e wy ⟨rfl, rfl⟩)
                 | fail)
               go_ret2
               refine ⟨_, rfl, ?_, HX.out.trans hE32⟩
               have e4 : answerB ⟨caps, most, ch, user, resp, db, pl, []⟩ = [] ++ fixB caps 4 ++ fixB most 4 ++ [UInt8.ofNat ch.toNat] ++ List.replicate 23 0 ++ (user ++ [0]) ++ textB resp ++ (db ++ [0]) ++ (pl ++ [0]) := by
                 simp only [answerB, respB, endB, attB, attrsB, List.flatMap_nil, HKL.out, HKD.out, HKP.out, HKA.out, ↓reduceIte, Bool.false_eq_true]
                 simp
               rw [e4]
               exact ho32.more (Ext.size HX.out))
            | (have HKD := Lib.hid (show hasC caps 8 = false from HKD.out)
               go_wp2_with (first
                 | ((with_reducible show Calls _ _ #[_, Value.int .u32 2097152] _ _); go_at_call 104; refine (hasR_at _ _ _ true ((hasB_lenenc _).trans HKL.out)).mono ?_; rintro e wy ⟨rfl, rfl⟩)
                 | ((with_reducible show AtS 64); refine wpl_str bt (HR.out.ext (HX.out.trans hE6)) rfl _ rfl rfl ?_)
                 | (go_at_call 166; refine (appendText_ref _ _ _ (strL resp) ho6.rd (by rw [strL_size]; have := HRL.out; omega) (by have h1 := HUL.out; have h2 := HRL.out; have h3 := HDL.out; have h4 := HPL.out; simp only [List.length_append, List.length_cons, List.length_nil, List.length_take, List.length_drop, List.length_replicate, fixB_length] <;> omega)).mono ?_; rw [strL_toList]; rintro e w30 ⟨v30, rfl, hof30, hx30⟩; have ho30 := hof30.more (base' := wS.heap.size) (Ext.size hE6); have hE30 := hE6.trans hx30; clear c0 c4 c5 c6 c7; have c0 := hb.one' (j := 0) rfl hE30; have c4 := hb.one' (j := 4) rfl hE30; have c5 := hb.one' (j := 5) rfl hE30; have c6 := hb.one' (j := 6) rfl hE30; have c7 := hb.one' (j := 7) rfl hE30)
                 | ((with_reducible show Calls _ _ #[_, Value.int .u32 8] _ _); go_at_call 104; refine (hasR_at _ _ _ false ((hasB_8 _).trans HKD.out)).mono ?_; rintro e wy ⟨rfl, rfl⟩)
                 | ((with_reducible show Calls _ _ #[_, Value.int .u32 524288] _ _); go_at_call 104; refine (hasR_at _ _ _ true ((hasB_plugin _).trans HKP.out)).mono ?_; rintro e wy ⟨rfl, rfl⟩)
                 | (go_at_call 102; (with_reducible show Calls _ _ #[v30, _] _ _); refine (ended12R_c _ _ _ pl ho30.rd (by have := HPL.out; omega) (by have h1 := HUL.out; have h2 := HRL.out; have h3 := HDL.out; have h4 := HPL.out; have h6 := HTB.out; simp only [List.length_append, List.length_cons, List.length_nil, List.length_take, List.length_drop, List.length_replicate, fixB_length] <;> omega) HZP.out).mono ?_; rintro e w31 ⟨v31, rfl, hof31, hx31⟩; have ho31 := hof31.more (base' := wS.heap.size) (Ext.size hE30); have hE31 := hE30.trans hx31; clear c0 c4 c5 c6 c7; have c0 := hb.one' (j := 0) rfl hE31; have c4 := hb.one' (j := 4) rfl hE31; have c5 := hb.one' (j := 5) rfl hE31; have c6 := hb.one' (j := 6) rfl hE31; have c7 := hb.one' (j := 7) rfl hE31)
                 | ((with_reducible show Calls _ _ #[_, Value.int .u32 1048576] _ _); go_at_call 104; refine (hasR_at _ _ _ false ((hasB_attrs _).trans HKA.out)).mono ?_; rintro e wy ⟨rfl, rfl⟩)
                 | fail)
               go_ret2
               refine ⟨_, rfl, ?_, HX.out.trans hE31⟩
               have e4 : answerB ⟨caps, most, ch, user, resp, db, pl, []⟩ = [] ++ fixB caps 4 ++ fixB most 4 ++ [UInt8.ofNat ch.toNat] ++ List.replicate 23 0 ++ (user ++ [0]) ++ textB resp ++ (pl ++ [0]) := by
                 simp only [answerB, respB, endB, attB, attrsB, List.flatMap_nil, HKL.out, HKD.out, HKP.out, HKA.out, ↓reduceIte, Bool.false_eq_true]
                 simp
               rw [e4]
               exact ho31.more (Ext.size HX.out))
            | fail
        · first
            | (have HKD := Lib.hid (show hasC caps 8 = true from HKD.out)
               go_wp2_with (first
                 | ((with_reducible show Calls _ _ #[_, Value.int .u32 2097152] _ _); go_at_call 104; refine (hasR_at _ _ _ true ((hasB_lenenc _).trans HKL.out)).mono ?_; rintro e wy ⟨rfl, rfl⟩)
                 | ((with_reducible show AtS 64); refine wpl_str bt (HR.out.ext (HX.out.trans hE6)) rfl _ rfl rfl ?_)
                 | (go_at_call 166; refine (appendText_ref _ _ _ (strL resp) ho6.rd (by rw [strL_size]; have := HRL.out; omega) (by have h1 := HUL.out; have h2 := HRL.out; have h3 := HDL.out; have h4 := HPL.out; simp only [List.length_append, List.length_cons, List.length_nil, List.length_take, List.length_drop, List.length_replicate, fixB_length] <;> omega)).mono ?_; rw [strL_toList]; rintro e w30 ⟨v30, rfl, hof30, hx30⟩; have ho30 := hof30.more (base' := wS.heap.size) (Ext.size hE6); have hE30 := hE6.trans hx30; clear c0 c4 c5 c6 c7; have c0 := hb.one' (j := 0) rfl hE30; have c4 := hb.one' (j := 4) rfl hE30; have c5 := hb.one' (j := 5) rfl hE30; have c6 := hb.one' (j := 6) rfl hE30; have c7 := hb.one' (j := 7) rfl hE30)
                 | ((with_reducible show Calls _ _ #[_, Value.int .u32 8] _ _); go_at_call 104; refine (hasR_at _ _ _ true ((hasB_8 _).trans HKD.out)).mono ?_; rintro e wy ⟨rfl, rfl⟩)
                 | (go_at_call 102; (with_reducible show Calls _ _ #[v30, _] _ _); refine (ended12R_c _ _ _ db ho30.rd (by have := HDL.out; omega) (by have h1 := HUL.out; have h2 := HRL.out; have h3 := HDL.out; have h4 := HPL.out; have h6 := HTB.out; simp only [List.length_append, List.length_cons, List.length_nil, List.length_take, List.length_drop, List.length_replicate, fixB_length] <;> omega) HZD.out).mono ?_; rintro e w31 ⟨v31, rfl, hof31, hx31⟩; have ho31 := hof31.more (base' := wS.heap.size) (Ext.size hE30); have hE31 := hE30.trans hx31; clear c0 c4 c5 c6 c7; have c0 := hb.one' (j := 0) rfl hE31; have c4 := hb.one' (j := 4) rfl hE31; have c5 := hb.one' (j := 5) rfl hE31; have c6 := hb.one' (j := 6) rfl hE31; have c7 := hb.one' (j := 7) rfl hE31)
                 | ((with_reducible show Calls _ _ #[_, Value.int .u32 524288] _ _); go_at_call 104; refine (hasR_at _ _ _ true ((hasB_plugin _).trans HKP.out)).mono ?_; rintro e wy ⟨rfl, rfl⟩)
                 | (go_at_call 102; (with_reducible show Calls _ _ #[v31, _] _ _); refine (ended12R_c _ _ _ pl ho31.rd (by have := HPL.out; omega) (by have h1 := HUL.out; have h2 := HRL.out; have h3 := HDL.out; have h4 := HPL.out; have h6 := HTB.out; simp only [List.length_append, List.length_cons, List.length_nil, List.length_take, List.length_drop, List.length_replicate, fixB_length] <;> omega) HZP.out).mono ?_; rintro e w32 ⟨v32, rfl, hof32, hx32⟩; have ho32 := hof32.more (base' := wS.heap.size) (Ext.size hE31); have hE32 := hE31.trans hx32; clear c0 c4 c5 c6 c7; have c0 := hb.one' (j := 0) rfl hE32; have c4 := hb.one' (j := 4) rfl hE32; have c5 := hb.one' (j := 5) rfl hE32; have c6 := hb.one' (j := 6) rfl hE32; have c7 := hb.one' (j := 7) rfl hE32)
                 | ((with_reducible show Calls _ _ #[_, Value.int .u32 1048576] _ _); go_at_call 104; refine (hasR_at _ _ _ true ((hasB_attrs _).trans HKA.out)).mono ?_; rintro e wy ⟨rfl, rfl⟩)
                 | (go_at_call 172; refine (attrsR0_c _ _ _ ho32.rd (by have h1 := HUL.out; have h2 := HRL.out; have h3 := HDL.out; have h4 := HPL.out; have h6 := HTB.out; simp only [List.length_append, List.length_cons, List.length_nil, List.length_take, List.length_drop, List.length_replicate, fixB_length] <;> omega)).mono ?_; rintro e w33 ⟨v33, rfl, hof33, hx33⟩; have ho33 := hof33.more (base' := wS.heap.size) (Ext.size hE32); have hE33 := hE32.trans hx33)
                 | fail)
               go_ret2
               refine ⟨_, rfl, ?_, HX.out.trans hE33⟩
               have e4 : answerB ⟨caps, most, ch, user, resp, db, pl, []⟩ = [] ++ fixB caps 4 ++ fixB most 4 ++ [UInt8.ofNat ch.toNat] ++ List.replicate 23 0 ++ (user ++ [0]) ++ textB resp ++ (db ++ [0]) ++ (pl ++ [0]) ++ textB [] := by
                 simp only [answerB, respB, endB, attB, attrsB, List.flatMap_nil, HKL.out, HKD.out, HKP.out, HKA.out, ↓reduceIte, Bool.false_eq_true]
                 simp
               rw [e4]
               exact ho33.more (Ext.size HX.out))
            | (have HKD := Lib.hid (show hasC caps 8 = false from HKD.out)
               go_wp2_with (first
                 | ((with_reducible show Calls _ _ #[_, Value.int .u32 2097152] _ _); go_at_call 104; refine (hasR_at _ _ _ true ((hasB_lenenc _).trans HKL.out)).mono ?_; rintro e wy ⟨rfl, rfl⟩)
                 | ((with_reducible show AtS 64); refine wpl_str bt (HR.out.ext (HX.out.trans hE6)) rfl _ rfl rfl ?_)
                 | (go_at_call 166; refine (appendText_ref _ _ _ (strL resp) ho6.rd (by rw [strL_size]; have := HRL.out; omega) (by have h1 := HUL.out; have h2 := HRL.out; have h3 := HDL.out; have h4 := HPL.out; simp only [List.length_append, List.length_cons, List.length_nil, List.length_take, List.length_drop, List.length_replicate, fixB_length] <;> omega)).mono ?_; rw [strL_toList]; rintro e w30 ⟨v30, rfl, hof30, hx30⟩; have ho30 := hof30.more (base' := wS.heap.size) (Ext.size hE6); have hE30 := hE6.trans hx30; clear c0 c4 c5 c6 c7; have c0 := hb.one' (j := 0) rfl hE30; have c4 := hb.one' (j := 4) rfl hE30; have c5 := hb.one' (j := 5) rfl hE30; have c6 := hb.one' (j := 6) rfl hE30; have c7 := hb.one' (j := 7) rfl hE30)
                 | ((with_reducible show Calls _ _ #[_, Value.int .u32 8] _ _); go_at_call 104; refine (hasR_at _ _ _ false ((hasB_8 _).trans HKD.out)).mono ?_; rintro e wy ⟨rfl, rfl⟩)
                 | ((with_reducible show Calls _ _ #[_, Value.int .u32 524288] _ _); go_at_call 104; refine (hasR_at _ _ _ true ((hasB_plugin _).trans HKP.out)).mono ?_; rintro e wy ⟨rfl, rfl⟩)
                 | (go_at_call 102; (with_reducible show Calls _ _ #[v30, _] _ _); refine (ended12R_c _ _ _ pl ho30.rd (by have := HPL.out; omega) (by have h1 := HUL.out; have h2 := HRL.out; have h3 := HDL.out; have h4 := HPL.out; have h6 := HTB.out; simp only [List.length_append, List.length_cons, List.length_nil, List.length_take, List.length_drop, List.length_replicate, fixB_length] <;> omega) HZP.out).mono ?_; rintro e w31 ⟨v31, rfl, hof31, hx31⟩; have ho31 := hof31.more (base' := wS.heap.size) (Ext.size hE30); have hE31 := hE30.trans hx31; clear c0 c4 c5 c6 c7; have c0 := hb.one' (j := 0) rfl hE31; have c4 := hb.one' (j := 4) rfl hE31; have c5 := hb.one' (j := 5) rfl hE31; have c6 := hb.one' (j := 6) rfl hE31; have c7 := hb.one' (j := 7) rfl hE31)
                 | ((with_reducible show Calls _ _ #[_, Value.int .u32 1048576] _ _); go_at_call 104; refine (hasR_at _ _ _ true ((hasB_attrs _).trans HKA.out)).mono ?_; rintro e wy ⟨rfl, rfl⟩)
                 | (go_at_call 172; refine (attrsR0_c _ _ _ ho31.rd (by have h1 := HUL.out; have h2 := HRL.out; have h3 := HDL.out; have h4 := HPL.out; have h6 := HTB.out; simp only [List.length_append, List.length_cons, List.length_nil, List.length_take, List.length_drop, List.length_replicate, fixB_length] <;> omega)).mono ?_; rintro e w32 ⟨v32, rfl, hof32, hx32⟩; have ho32 := hof32.more (base' := wS.heap.size) (Ext.size hE31); have hE32 := hE31.trans hx32)
                 | fail)
               go_ret2
               refine ⟨_, rfl, ?_, HX.out.trans hE32⟩
               have e4 : answerB ⟨caps, most, ch, user, resp, db, pl, []⟩ = [] ++ fixB caps 4 ++ fixB most 4 ++ [UInt8.ofNat ch.toNat] ++ List.replicate 23 0 ++ (user ++ [0]) ++ textB resp ++ (pl ++ [0]) ++ textB [] := by
                 simp only [answerB, respB, endB, attB, attrsB, List.flatMap_nil, HKL.out, HKD.out, HKP.out, HKA.out, ↓reduceIte, Bool.false_eq_true]
                 simp
               rw [e4]
               exact ho32.more (Ext.size HX.out))
            | fail
end Go.Proofs.YtbodppfpmpmadaaGreat

