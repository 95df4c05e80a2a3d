import Derived.Test.YtbodppfpmpmadaaGreatL12C
namespace Go.Proofs.YtbodppfpmpmadaaGreat
open Go.RowKit

set_option linter.unusedSimpArgs false in
set_option linter.unusedVariables false in
set_option maxRecDepth 100000 in
set_option maxHeartbeats 16000000 in
theorem appendAnswer_l (w : World) (caps most ch : Int) (user resp db pl : List UInt8) (ps : Pairs) (vr va : Value) (hr : Rd w vr resp) (ha : Attrs w va ps) (h : AnsOk ⟨caps, most, ch, user, resp, db, pl, ps⟩)
    (hul : user.length ≤ 10000) (hdl : db.length ≤ 10000) (hpl : pl.length ≤ 10000) (hal : (attrsB ps).length ≤ 900000) (hkl : hasC caps 2097152 = true) :
    Calls Tryz.prog 93 #[.slice none 0 0, .agg #[.int .u32 caps, .int .u32 most, .int .u8 ch, .string (strL user), vr, .string (strL db), .string (strL pl), va]] w (RetBE w (answerB ⟨caps, most, ch, user, resp, db, pl, ps⟩) 0) := by
  have HR := Lib.hid hr
  have HA := Lib.hid ha
  obtain ⟨Ar, cr, rfl, hr1, hr2, _, _⟩ := hr
  obtain ⟨Aa, ca, hva, _, _⟩ := Recs.shape ha
  rw [pairsC_length] at hva
  subst hva
  obtain ⟨hcaps, hmost, hch, hcore, hzu, hzd, hzp, hdf, hpf, hrl, hn64, haf⟩ := h
  dsimp only at hcaps hmost hch hcore hzu hzd hzp hdf hpf hrl hn64 haf
  have HZU := Lib.hid hzu
  have HZD := Lib.hid hzd
  have HZP := Lib.hid hzp
  have HUL := Lib.hid hul
  have HRL := Lib.hid hrl
  have HDL := Lib.hid hdl
  have HPL := Lib.hid hpl
  have HAL := Lib.hid hal
  have HKL := Lib.hid hkl
  have HCH := Lib.hid hch
  have HTB := Lib.hid (show (textB resp).length ≤ 1000 by rw [textB_size]; have := (sizeI_le resp.length).2; omega)
  have HRB := Lib.hid (show 0 ≤ (resp.length : Int) ∧ (resp.length : Int) < 256 by omega)
  have hrw : IntKind.u8.wrap (resp.length : Int) = (resp.length : Int) := by rw [IntKind.wrap_u8]; omega
  have hb1 : plainP [user, db, pl] = true := by simp only [plainP, List.all_cons, List.all_nil, HZU.out, HZD.out, HZP.out]; rfl
  have HFA := Lib.hid (fun w => fineAnswer_t w caps most ch user resp db pl ps Ar Aa cr ca hb1 hcore hdf hpf hrl hn64 haf)
  have HWC := Lib.hid (show IntKind.u64.wrap caps = caps from IntWalk.u64_in _ (by omega))
  have HWM := Lib.hid (show IntKind.u64.wrap most = most from IntWalk.u64_in _ (by omega))
  have HFC := Lib.hid (fixOk_of caps 4 (by omega) (by omega) hcaps.1 hcaps.2)
  have HFM := Lib.hid (fixOk_of most 4 (by omega) (by omega) hmost.1 hmost.2)
  obtain ⟨kd, hkd⟩ : ∃ k, hasC caps 8 = k := ⟨_, rfl⟩
  obtain ⟨kp, hkp⟩ : ∃ k, hasC caps 524288 = k := ⟨_, rfl⟩
  obtain ⟨ka, hka⟩ : ∃ k, hasC caps 1048576 = k := ⟨_, rfl⟩
  have HKD := Lib.hid hkd
  have HKP := Lib.hid hkp
  have HKA := Lib.hid hka
  clear ha hcore hzu hzd hzp hdf hpf hrl hn64 haf hul hdl hpl hal hkl hkd hkp hka hb1
  go_enter Tryz.func93, Tryz.ntmps93
  go_wp2_with fail
  generalize hW0 : w.alloc _ = wS
  have hb : Box wS w.heap.size [.int .u32 caps, .int .u32 most, .int .u8 ch, .string (strL user), .slice Ar resp.length cr, .string (strL db), .string (strL pl), .slice Aa ps.length ca] := by rw [← hW0]; exact Box.new w _ _
  have hx0 : Ext w wS := by rw [← hW0]; exact (Ext.refl w).alloc _
  clear hW0
  have HX := Lib.hid hx0
  clear hx0
  go_wp2_with (first
    | (go_at_call 148; refine (HFA.out _).mono ?_; rintro e w1 ⟨rfl, hE⟩)
    | fail)
  go_region_held3 (fun W' => W'.cell? ⟨w.heap.size, 0, none⟩ = some (.int .u32 caps) ∧ W'.cell? ⟨w.heap.size, 1, none⟩ = some (.int .u32 most) ∧ Ext wS W') ((refine hb.hold2 (i := 0) (j := 1) rfl rfl ?_; repeat' (first | exact hE | (with_reducible refine Ext.drew ?_) | (with_reducible refine Ext.alloc ?_ _))))
    (first
      | (go_at_call 97; go_must (refine (cloneN_c _).mono ?_; rintro e wx ⟨rfl, rfl⟩))
      | ((with_reducible show Calls _ _ #[.slice none 0 0, _, _] _ _); go_at_call 98; go_must ((try rw [HWC.out]); refine (fixedA_g _ _ ([]) caps 4 (Rd.nil _) (by have h1 := HUL.out; have h2 := HRL.out; have h3 := HDL.out; have h4 := HPL.out; have h5 := HAL.out; simp only [List.length_append, List.length_cons, List.length_nil, List.length_take, List.length_drop, List.length_replicate, fixB_length] <;> omega) HFC.out).mono ?_; rintro e w2 ⟨v2, rfl, hof2, hx2⟩; have ho2 := hof2.more (base' := wS.heap.size) (Ext.size (w := wS) (by repeat' (first | exact hE | (with_reducible refine Ext.drew ?_) | (with_reducible refine Ext.alloc ?_ _)))); replace hE : Ext wS w2 := Ext.trans (by repeat' (first | exact hE | (with_reducible refine Ext.drew ?_) | (with_reducible refine Ext.alloc ?_ _))) hx2))
      | ((with_reducible show Calls _ _ #[v2, _, _] _ _); go_at_call 98; go_must ((try rw [HWM.out]); refine (fixedA_g _ _ ([] ++ fixB caps 4) most 4 (ho2.ext (by repeat' (first | exact (Ext.refl _) | (with_reducible refine Ext.drew ?_) | (with_reducible refine Ext.alloc ?_ _)))).rd (by have h1 := HUL.out; have h2 := HRL.out; have h3 := HDL.out; have h4 := HPL.out; have h5 := HAL.out; simp only [List.length_append, List.length_cons, List.length_nil, List.length_take, List.length_drop, List.length_replicate, fixB_length] <;> omega) HFM.out).mono ?_; rintro e w3 ⟨v3, rfl, hof3, hx3⟩; have ho3 := hof3.more (base' := wS.heap.size) (Ext.size (w := wS) (by repeat' (first | exact hE | (with_reducible refine Ext.drew ?_) | (with_reducible refine Ext.alloc ?_ _)))); replace hE : Ext wS w3 := Ext.trans (by repeat' (first | exact hE | (with_reducible refine Ext.drew ?_) | (with_reducible refine Ext.alloc ?_ _))) hx3))
      | fail)
  all_goals
    have c0 := hb.one' (j := 0) rfl hE
    have c2 := hb.one' (j := 2) rfl hE
    have c3 := hb.one' (j := 3) rfl hE
    have c4 := hb.one' (j := 4) rfl hE
    have c5 := hb.one' (j := 5) rfl hE
    have c6 := hb.one' (j := 6) rfl hE
    have c7 := hb.one' (j := 7) rfl hE
    have hoI := Lib.hid (ho3)
    have HE := Lib.hid hE
    clear ho3 hE
    go_wp2_with (first
      | ((with_reducible show AtS 24); refine wpl_append_rd bt (hoI.out.ext ((Ext.refl _).alloc _)) (rd_byte _ ch HCH.out _ rfl) rfl _ _ rfl rfl rfl (by have h1 := HUL.out; have h2 := HRL.out; have h3 := HDL.out; have h4 := HPL.out; have h5 := HAL.out; simp only [List.length_append, List.length_cons, List.length_nil, List.length_take, List.length_drop, List.length_replicate, fixB_length] <;> omega) (Ext.size (HE.out.alloc _)) ?_; intro v20 w20 ho20 hb20; have hE20 := (HE.out.alloc _).below hb20 (Nat.le_refl _))
      | ((with_reducible show AtS 25); refine wpl_append_zeros bt Tryz.underlying3 ho20 23 (by omega) rfl _ _ rfl rfl _ rfl (by have h1 := HUL.out; have h2 := HRL.out; have h3 := HDL.out; have h4 := HPL.out; have h5 := HAL.out; simp only [List.length_append, List.length_cons, List.length_nil, List.length_take, List.length_drop, List.length_replicate, fixB_length] <;> omega) (Ext.size hE20) ?_; intro v21 w21 ho21 hb21 hg21; have hE21 := hE20.below hb21 (Nat.le_refl _); clear c0 c2 c3 c4 c5 c6 c7; have c0 := hb.one' (j := 0) rfl hE21; have c2 := hb.one' (j := 2) rfl hE21; have c3 := hb.one' (j := 3) rfl hE21; have c4 := hb.one' (j := 4) rfl hE21; have c5 := hb.one' (j := 5) rfl hE21; have c6 := hb.one' (j := 6) rfl hE21; have c7 := hb.one' (j := 7) rfl hE21)
      | (go_at_call 96; (with_reducible show Calls _ _ #[_, Value.string (strL user)] _ _); refine (endedA_g _ _ _ user ho21.rd (by have := HUL.out; omega) (by have h1 := HUL.out; have h2 := HRL.out; have h3 := HDL.out; have h4 := HPL.out; have h5 := HAL.out; simp only [List.length_append, List.length_cons, List.length_nil, List.length_take, List.length_drop, List.length_replicate, fixB_length] <;> omega) HZU.out).mono ?_; rintro e w22 ⟨v22, rfl, hof22, hx22⟩; have ho22 := hof22.more (base' := wS.heap.size) (Ext.size hE21); have hE22 := hE21.trans hx22; clear c0 c2 c3 c4 c5 c6 c7; have c0 := hb.one' (j := 0) rfl hE22; have c2 := hb.one' (j := 2) rfl hE22; have c3 := hb.one' (j := 3) rfl hE22; have c4 := hb.one' (j := 4) rfl hE22; have c5 := hb.one' (j := 5) rfl hE22; have c6 := hb.one' (j := 6) rfl hE22; have c7 := hb.one' (j := 7) rfl hE22)
      | ((with_reducible show Calls _ _ #[_, Value.int .u32 2097152] _ _); go_at_call 83; refine (has_g _ _ _ true HKL.out).mono ?_; rintro e wy ⟨rfl, rfl⟩)
      | ((with_reducible show AtS 36); refine wpl_str bt (HR.out.ext (HX.out.trans hE22)) rfl _ rfl rfl ?_)
      | (go_at_call 149; refine (text_a _ _ _ resp ho22.rd (by have := HRL.out; omega) (by have h1 := HUL.out; have h2 := HRL.out; have h3 := HDL.out; have h4 := HPL.out; have h5 := HAL.out; simp only [List.length_append, List.length_cons, List.length_nil, List.length_take, List.length_drop, List.length_replicate, fixB_length] <;> omega)).mono ?_; rintro e w30 ⟨v30, rfl, hof30, hx30⟩; have ho30 := hof30.more (base' := wS.heap.size) (Ext.size hE22); have hE30 := hE22.trans hx30; clear c0 c2 c3 c4 c5 c6 c7; have c0 := hb.one' (j := 0) rfl hE30; have c2 := hb.one' (j := 2) rfl hE30; have c3 := hb.one' (j := 3) rfl hE30; have c4 := hb.one' (j := 4) rfl hE30; have c5 := hb.one' (j := 5) rfl hE30; have c6 := hb.one' (j := 6) rfl hE30; have c7 := hb.one' (j := 7) rfl hE30)
      | fail)
    cases kd <;> cases kp <;> cases ka
    · go_wp2_with (first
        | ((with_reducible show Calls _ _ #[_, Value.int .u32 8] _ _); go_at_call 83; refine (has_g _ _ _ false HKD.out).mono ?_; rintro e wy ⟨rfl, rfl⟩)
        | ((with_reducible show Calls _ _ #[_, Value.int .u32 524288] _ _); go_at_call 83; refine (has_g _ _ _ false HKP.out).mono ?_; rintro e wy ⟨rfl, rfl⟩)
        | ((with_reducible show Calls _ _ #[_, Value.int .u32 1048576] _ _); go_at_call 83; refine (has_g _ _ _ false HKA.out).mono ?_; rintro e wy ⟨rfl, rfl⟩)
        | fail)
      go_ret2
      refine ⟨_, rfl, ?_, HX.out.trans hE30⟩
      have e4 : answerB ⟨caps, most, ch, user, resp, db, pl, ps⟩ = [] ++ fixB caps 4 ++ fixB most 4 ++ [UInt8.ofNat ch.toNat] ++ List.replicate 23 0 ++ (user ++ [0]) ++ textB resp := by
        simp only [answerB, respB, endB, attB, HKL.out, HKD.out, HKP.out, HKA.out, ↓reduceIte, Bool.false_eq_true]
        simp
      rw [e4]
      exact ho30.more (Ext.size HX.out)
    · go_wp2_with (first
        | ((with_reducible show Calls _ _ #[_, Value.int .u32 8] _ _); go_at_call 83; refine (has_g _ _ _ false HKD.out).mono ?_; rintro e wy ⟨rfl, rfl⟩)
        | ((with_reducible show Calls _ _ #[_, Value.int .u32 524288] _ _); go_at_call 83; refine (has_g _ _ _ false HKP.out).mono ?_; rintro e wy ⟨rfl, rfl⟩)
        | ((with_reducible show Calls _ _ #[_, Value.int .u32 1048576] _ _); go_at_call 83; refine (has_g _ _ _ true HKA.out).mono ?_; rintro e wy ⟨rfl, rfl⟩)
        | (go_at_call 150; refine (attrsA_g _ _ _ _ ps ho30.rd (HA.out.ext (HX.out.trans hE30)) (by have h1 := HUL.out; have h2 := HRL.out; have h3 := HDL.out; have h4 := HPL.out; have h5 := HAL.out; have h6 := HTB.out; simp only [List.length_append, List.length_cons, List.length_nil, List.length_take, List.length_drop, List.length_replicate, fixB_length] <;> omega) HAL.out).mono ?_; rintro e w31 ⟨v31, rfl, hof31, hx31⟩; have ho31 := hof31.more (base' := wS.heap.size) (Ext.size hE30); have hE31 := hE30.trans hx31)
        | fail)
      go_ret2
      refine ⟨_, rfl, ?_, HX.out.trans hE31⟩
      have e4 : answerB ⟨caps, most, ch, user, resp, db, pl, ps⟩ = [] ++ fixB caps 4 ++ fixB most 4 ++ [UInt8.ofNat ch.toNat] ++ List.replicate 23 0 ++ (user ++ [0]) ++ textB resp ++ textB (attrsB ps) := by
        simp only [answerB, respB, endB, attB, HKL.out, HKD.out, HKP.out, HKA.out, ↓reduceIte, Bool.false_eq_true]
        simp
      rw [e4]
      exact ho31.more (Ext.size HX.out)
    · go_wp2_with (first
        | ((with_reducible show Calls _ _ #[_, Value.int .u32 8] _ _); go_at_call 83; refine (has_g _ _ _ false HKD.out).mono ?_; rintro e wy ⟨rfl, rfl⟩)
        | ((with_reducible show Calls _ _ #[_, Value.int .u32 524288] _ _); go_at_call 83; refine (has_g _ _ _ true HKP.out).mono ?_; rintro e wy ⟨rfl, rfl⟩)
        | (go_at_call 96; (with_reducible show Calls _ _ #[v30, _] _ _); refine (endedA_g _ _ _ pl ho30.rd (by have := HPL.out; omega) (by have h1 := HUL.out; have h2 := HRL.out; have h3 := HDL.out; have h4 := HPL.out; have h5 := HAL.out; have h6 := HTB.out; simp only [List.length_append, List.length_cons, List.length_nil, List.length_take, List.length_drop, List.length_replicate, fixB_length] <;> omega) HZP.out).mono ?_; rintro e w31 ⟨v31, rfl, hof31, hx31⟩; have ho31 := hof31.more (base' := wS.heap.size) (Ext.size hE30); have hE31 := hE30.trans hx31; clear c0 c2 c3 c4 c5 c6 c7; have c0 := hb.one' (j := 0) rfl hE31; have c2 := hb.one' (j := 2) rfl hE31; have c3 := hb.one' (j := 3) rfl hE31; have c4 := hb.one' (j := 4) rfl hE31; have c5 := hb.one' (j := 5) rfl hE31; have c6 := hb.one' (j := 6) rfl hE31; have c7 := hb.one' (j := 7) rfl hE31)
        | ((with_reducible show Calls _ _ #[_, Value.int .u32 1048576] _ _); go_at_call 83; refine (has_g _ _ _ false HKA.out).mono ?_; rintro e wy ⟨rfl, rfl⟩)
        | fail)
      go_ret2
      refine ⟨_, rfl, ?_, HX.out.trans hE31⟩
      have e4 : answerB ⟨caps, most, ch, user, resp, db, pl, ps⟩ = [] ++ fixB caps 4 ++ fixB most 4 ++ [UInt8.ofNat ch.toNat] ++ List.replicate 23 0 ++ (user ++ [0]) ++ textB resp ++ (pl ++ [0]) := by
        simp only [answerB, respB, endB, attB, HKL.out, HKD.out, HKP.out, HKA.out, ↓reduceIte, Bool.false_eq_true]
        simp
      rw [e4]
      exact ho31.more (Ext.size HX.out)
    · go_wp2_with (first
        | ((with_reducible show Calls _ _ #[_, Value.int .u32 8] _ _); go_at_call 83; refine (has_g _ _ _ false HKD.out).mono ?_; rintro e wy ⟨rfl, rfl⟩)
        | ((with_reducible show Calls _ _ #[_, Value.int .u32 524288] _ _); go_at_call 83; refine (has_g _ _ _ true HKP.out).mono ?_; rintro e wy ⟨rfl, rfl⟩)
        | (go_at_call 96; (with_reducible show Calls _ _ #[v30, _] _ _); refine (endedA_g _ _ _ pl ho30.rd (by have := HPL.out; omega) (by have h1 := HUL.out; have h2 := HRL.out; have h3 := HDL.out; have h4 := HPL.out; have h5 := HAL.out; have h6 := HTB.out; simp only [List.length_append, List.length_cons, List.length_nil, List.length_take, List.length_drop, List.length_replicate, fixB_length] <;> omega) HZP.out).mono ?_; rintro e w31 ⟨v31, rfl, hof31, hx31⟩; have ho31 := hof31.more (base' := wS.heap.size) (Ext.size hE30); have hE31 := hE30.trans hx31; clear c0 c2 c3 c4 c5 c6 c7; have c0 := hb.one' (j := 0) rfl hE31; have c2 := hb.one' (j := 2) rfl hE31; have c3 := hb.one' (j := 3) rfl hE31; have c4 := hb.one' (j := 4) rfl hE31; have c5 := hb.one' (j := 5) rfl hE31; have c6 := hb.one' (j := 6) rfl hE31; have c7 := hb.one' (j := 7) rfl hE31)
        | ((with_reducible show Calls _ _ #[_, Value.int .u32 1048576] _ _); go_at_call 83; refine (has_g _ _ _ true HKA.out).mono ?_; rintro e wy ⟨rfl, rfl⟩)
        | (go_at_call 150; refine (attrsA_g _ _ _ _ ps ho31.rd (HA.out.ext (HX.out.trans hE31)) (by have h1 := HUL.out; have h2 := HRL.out; have h3 := HDL.out; have h4 := HPL.out; have h5 := HAL.out; have h6 := HTB.out; simp only [List.length_append, List.length_cons, List.length_nil, List.length_take, List.length_drop, List.length_replicate, fixB_length] <;> omega) HAL.out).mono ?_; rintro e w32 ⟨v32, rfl, hof32, hx32⟩; have ho32 := hof32.more (base' := wS.heap.size) (Ext.size hE31); have hE32 := hE31.trans hx32)
        | fail)
      go_ret2
      refine ⟨_, rfl, ?_, HX.out.trans hE32⟩
      have e4 : answerB ⟨caps, most, ch, user, resp, db, pl, ps⟩ = [] ++ fixB caps 4 ++ fixB most 4 ++ [UInt8.ofNat ch.toNat] ++ List.replicate 23 0 ++ (user ++ [0]) ++ textB resp ++ (pl ++ [0]) ++ textB (attrsB ps) := by
        simp only [answerB, respB, endB, attB, HKL.out, HKD.out, HKP.out, HKA.out, ↓reduceIte, Bool.false_eq_true]
        simp
      rw [e4]
      exact ho32.more (Ext.size HX.out)
    · go_wp2_with (first
        | ((with_reducible show Calls _ _ #[_, Value.int .u32 8] _ _); go_at_call 83; refine (has_g _ _ _ true HKD.out).mono ?_; rintro e wy ⟨rfl, rfl⟩)
        | (go_at_call 96; (with_reducible show Calls _ _ #[v30, _] _ _); refine (endedA_g _ _ _ db ho30.rd (by have := HDL.out; omega) (by have h1 := HUL.out; have h2 := HRL.out; have h3 := HDL.out; have h4 := HPL.out; have h5 := HAL.out; have h6 := HTB.out; simp only [List.length_append, List.length_cons, List.length_nil, List.length_take, List.length_drop, List.length_replicate, fixB_length] <;> omega) HZD.out).mono ?_; rintro e w31 ⟨v31, rfl, hof31, hx31⟩; have ho31 := hof31.more (base' := wS.heap.size) (Ext.size hE30); have hE31 := hE30.trans hx31; clear c0 c2 c3 c4 c5 c6 c7; have c0 := hb.one' (j := 0) rfl hE31; have c2 := hb.one' (j := 2) rfl hE31; have c3 := hb.one' (j := 3) rfl hE31; have c4 := hb.one' (j := 4) rfl hE31; have c5 := hb.one' (j := 5) rfl hE31; have c6 := hb.one' (j := 6) rfl hE31; have c7 := hb.one' (j := 7) rfl hE31)
        | ((with_reducible show Calls _ _ #[_, Value.int .u32 524288] _ _); go_at_call 83; refine (has_g _ _ _ false HKP.out).mono ?_; rintro e wy ⟨rfl, rfl⟩)
        | ((with_reducible show Calls _ _ #[_, Value.int .u32 1048576] _ _); go_at_call 83; refine (has_g _ _ _ false HKA.out).mono ?_; rintro e wy ⟨rfl, rfl⟩)
        | fail)
      go_ret2
      refine ⟨_, rfl, ?_, HX.out.trans hE31⟩
      have e4 : answerB ⟨caps, most, ch, user, resp, db, pl, ps⟩ = [] ++ fixB caps 4 ++ fixB most 4 ++ [UInt8.ofNat ch.toNat] ++ List.replicate 23 0 ++ (user ++ [0]) ++ textB resp ++ (db ++ [0]) := by
        simp only [answerB, respB, endB, attB, HKL.out, HKD.out, HKP.out, HKA.out, ↓reduceIte, Bool.false_eq_true]
        simp
      rw [e4]
      exact ho31.more (Ext.size HX.out)
    · go_wp2_with (first
        | ((with_reducible show Calls _ _ #[_, Value.int .u32 8] _ _); go_at_call 83; refine (has_g _ _ _ true HKD.out).mono ?_; rintro e wy ⟨rfl, rfl⟩)
        | (go_at_call 96; (with_reducible show Calls _ _ #[v30, _] _ _); refine (endedA_g _ _ _ db ho30.rd (by have := HDL.out; omega) (by have h1 := HUL.out; have h2 := HRL.out; have h3 := HDL.out; have h4 := HPL.out; have h5 := HAL.out; have h6 := HTB.out; simp only [List.length_append, List.length_cons, List.length_nil, List.length_take, List.length_drop, List.length_replicate, fixB_length] <;> omega) HZD.out).mono ?_; rintro e w31 ⟨v31, rfl, hof31, hx31⟩; have ho31 := hof31.more (base' := wS.heap.size) (Ext.size hE30); have hE31 := hE30.trans hx31; clear c0 c2 c3 c4 c5 c6 c7; have c0 := hb.one' (j := 0) rfl hE31; have c2 := hb.one' (j := 2) rfl hE31; have c3 := hb.one' (j := 3) rfl hE31; have c4 := hb.one' (j := 4) rfl hE31; have c5 := hb.one' (j := 5) rfl hE31; have c6 := hb.one' (j := 6) rfl hE31; have c7 := hb.one' (j := 7) rfl hE31)
        | ((with_reducible show Calls _ _ #[_, Value.int .u32 524288] _ _); go_at_call 83; refine (has_g _ _ _ false HKP.out).mono ?_; rintro e wy ⟨rfl, rfl⟩)
        | ((with_reducible show Calls _ _ #[_, Value.int .u32 1048576] _ _); go_at_call 83; refine (has_g _ _ _ true HKA.out).mono ?_; rintro e wy ⟨rfl, rfl⟩)
        | (go_at_call 150; refine (attrsA_g _ _ _ _ ps ho31.rd (HA.out.ext (HX.out.trans hE31)) (by have h1 := HUL.out; have h2 := HRL.out; have h3 := HDL.out; have h4 := HPL.out; have h5 := HAL.out; have h6 := HTB.out; simp only [List.length_append, List.length_cons, List.length_nil, List.length_take, List.length_drop, List.length_replicate, fixB_length] <;> omega) HAL.out).mono ?_; rintro e w32 ⟨v32, rfl, hof32, hx32⟩; have ho32 := hof32.more (base' := wS.heap.size) (Ext.size hE31); have hE32 := hE31.trans hx32)
        | fail)
      go_ret2
      refine ⟨_, rfl, ?_, HX.out.trans hE32⟩
      have e4 : answerB ⟨caps, most, ch, user, resp, db, pl, ps⟩ = [] ++ fixB caps 4 ++ fixB most 4 ++ [UInt8.ofNat ch.toNat] ++ List.replicate 23 0 ++ (user ++ [0]) ++ textB resp ++ (db ++ [0]) ++ textB (attrsB ps) := by
        simp only [answerB, respB, endB, attB, HKL.out, HKD.out, HKP.out, HKA.out, ↓reduceIte, Bool.false_eq_true]
        simp
      rw [e4]
      exact ho32.more (Ext.size HX.out)
    · go_wp2_with (first
        | ((with_reducible show Calls _ _ #[_, Value.int .u32 8] _ _); go_at_call 83; refine (has_g _ _ _ true HKD.out).mono ?_; rintro e wy ⟨rfl, rfl⟩)
        | (go_at_call 96; (with_reducible show Calls _ _ #[v30, _] _ _); refine (endedA_g _ _ _ db ho30.rd (by have := HDL.out; omega) (by have h1 := HUL.out; have h2 := HRL.out; have h3 := HDL.out; have h4 := HPL.out; have h5 := HAL.out; have h6 := HTB.out; simp only [List.length_append, List.length_cons, List.length_nil, List.length_take, List.length_drop, List.length_replicate, fixB_length] <;> omega) HZD.out).mono ?_; rintro e w31 ⟨v31, rfl, hof31, hx31⟩; have ho31 := hof31.more (base' := wS.heap.size) (Ext.size hE30); have hE31 := hE30.trans hx31; clear c0 c2 c3 c4 c5 c6 c7; have c0 := hb.one' (j := 0) rfl hE31; have c2 := hb.one' (j := 2) rfl hE31; have c3 := hb.one' (j := 3) rfl hE31; have c4 := hb.one' (j := 4) rfl hE31; have c5 := hb.one' (j := 5) rfl hE31; have c6 := hb.one' (j := 6) rfl hE31; have c7 := hb.one' (j := 7) rfl hE31)
        | ((with_reducible show Calls _ _ #[_, Value.int .u32 524288] _ _); go_at_call 83; refine (has_g _ _ _ true HKP.out).mono ?_; rintro e wy ⟨rfl, rfl⟩)
        | (go_at_call 96; (with_reducible show Calls _ _ #[v31, _] _ _); refine (endedA_g _ _ _ pl ho31.rd (by have := HPL.out; omega) (by have h1 := HUL.out; have h2 := HRL.out; have h3 := HDL.out; have h4 := HPL.out; have h5 := HAL.out; have h6 := HTB.out; simp only [List.length_append, List.length_cons, List.length_nil, List.length_take, List.length_drop, List.length_replicate, fixB_length] <;> omega) HZP.out).mono ?_; rintro e w32 ⟨v32, rfl, hof32, hx32⟩; have ho32 := hof32.more (base' := wS.heap.size) (Ext.size hE31); have hE32 := hE31.trans hx32; clear c0 c2 c3 c4 c5 c6 c7; have c0 := hb.one' (j := 0) rfl hE32; have c2 := hb.one' (j := 2) rfl hE32; have c3 := hb.one' (j := 3) rfl hE32; have c4 := hb.one' (j := 4) rfl hE32; have c5 := hb.one' (j := 5) rfl hE32; have c6 := hb.one' (j := 6) rfl hE32; have c7 := hb.one' (j := 7) rfl hE32)
        | ((with_reducible show Calls _ _ #[_, Value.int .u32 1048576] _ _); go_at_call 83; refine (has_g _ _ _ false HKA.out).mono ?_; rintro e wy ⟨rfl, rfl⟩)
        | fail)
      go_ret2
      refine ⟨_, rfl, ?_, HX.out.trans hE32⟩
      have e4 : answerB ⟨caps, most, ch, user, resp, db, pl, ps⟩ = [] ++ fixB caps 4 ++ fixB most 4 ++ [UInt8.ofNat ch.toNat] ++ List.replicate 23 0 ++ (user ++ [0]) ++ textB resp ++ (db ++ [0]) ++ (pl ++ [0]) := by
        simp only [answerB, respB, endB, attB, HKL.out, HKD.out, HKP.out, HKA.out, ↓reduceIte, Bool.false_eq_true]
        simp
      rw [e4]
      exact ho32.more (Ext.size HX.out)
    · go_wp2_with (first
        | ((with_reducible show Calls _ _ #[_, Value.int .u32 8] _ _); go_at_call 83; refine (has_g _ _ _ true HKD.out).mono ?_; rintro e wy ⟨rfl, rfl⟩)
        | (go_at_call 96; (with_reducible show Calls _ _ #[v30, _] _ _); refine (endedA_g _ _ _ db ho30.rd (by have := HDL.out; omega) (by have h1 := HUL.out; have h2 := HRL.out; have h3 := HDL.out; have h4 := HPL.out; have h5 := HAL.out; have h6 := HTB.out; simp only [List.length_append, List.length_cons, List.length_nil, List.length_take, List.length_drop, List.length_replicate, fixB_length] <;> omega) HZD.out).mono ?_; rintro e w31 ⟨v31, rfl, hof31, hx31⟩; have ho31 := hof31.more (base' := wS.heap.size) (Ext.size hE30); have hE31 := hE30.trans hx31; clear c0 c2 c3 c4 c5 c6 c7; have c0 := hb.one' (j := 0) rfl hE31; have c2 := hb.one' (j := 2) rfl hE31; have c3 := hb.one' (j := 3) rfl hE31; have c4 := hb.one' (j := 4) rfl hE31; have c5 := hb.one' (j := 5) rfl hE31; have c6 := hb.one' (j := 6) rfl hE31; have c7 := hb.one' (j := 7) rfl hE31)
        | ((with_reducible show Calls _ _ #[_, Value.int .u32 524288] _ _); go_at_call 83; refine (has_g _ _ _ true HKP.out).mono ?_; rintro e wy ⟨rfl, rfl⟩)
        | (go_at_call 96; (with_reducible show Calls _ _ #[v31, _] _ _); refine (endedA_g _ _ _ pl ho31.rd (by have := HPL.out; omega) (by have h1 := HUL.out; have h2 := HRL.out; have h3 := HDL.out; have h4 := HPL.out; have h5 := HAL.out; have h6 := HTB.out; simp only [List.length_append, List.length_cons, List.length_nil, List.length_take, List.length_drop, List.length_replicate, fixB_length] <;> omega) HZP.out).mono ?_; rintro e w32 ⟨v32, rfl, hof32, hx32⟩; have ho32 := hof32.more (base' := wS.heap.size) (Ext.size hE31); have hE32 := hE31.trans hx32; clear c0 c2 c3 c4 c5 c6 c7; have c0 := hb.one' (j := 0) rfl hE32; have c2 := hb.one' (j := 2) rfl hE32; have c3 := hb.one' (j := 3) rfl hE32; have c4 := hb.one' (j := 4) rfl hE32; have c5 := hb.one' (j := 5) rfl hE32; have c6 := hb.one' (j := 6) rfl hE32; have c7 := hb.one' (j := 7) rfl hE32)
        | ((with_reducible show Calls _ _ #[_, Value.int .u32 1048576] _ _); go_at_call 83; refine (has_g _ _ _ true HKA.out).mono ?_; rintro e wy ⟨rfl, rfl⟩)
        | (go_at_call 150; refine (attrsA_g _ _ _ _ ps ho32.rd (HA.out.ext (HX.out.trans hE32)) (by have h1 := HUL.out; have h2 := HRL.out; have h3 := HDL.out; have h4 := HPL.out; have h5 := HAL.out; have h6 := HTB.out; simp only [List.length_append, List.length_cons, List.length_nil, List.length_take, List.length_drop, List.length_replicate, fixB_length] <;> omega) HAL.out).mono ?_; rintro e w33 ⟨v33, rfl, hof33, hx33⟩; have ho33 := hof33.more (base' := wS.heap.size) (Ext.size hE32); have hE33 := hE32.trans hx33)
        | fail)
      go_ret2
      refine ⟨_, rfl, ?_, HX.out.trans hE33⟩
      have e4 : answerB ⟨caps, most, ch, user, resp, db, pl, ps⟩ = [] ++ fixB caps 4 ++ fixB most 4 ++ [UInt8.ofNat ch.toNat] ++ List.replicate 23 0 ++ (user ++ [0]) ++ textB resp ++ (db ++ [0]) ++ (pl ++ [0]) ++ textB (attrsB ps) := by
        simp only [answerB, respB, endB, attB, HKL.out, HKD.out, HKP.out, HKA.out, ↓reduceIte, Bool.false_eq_true]
        simp
      rw [e4]
      exact ho33.more (Ext.size HX.out)
end Go.Proofs.YtbodppfpmpmadaaGreat

