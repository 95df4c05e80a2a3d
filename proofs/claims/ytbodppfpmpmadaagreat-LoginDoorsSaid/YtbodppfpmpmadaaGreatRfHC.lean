import Derived.Test.YtbodppfpmpmadaaGreatRfGC
namespace Go.Proofs.YtbodppfpmpmadaaGreat
open Go.RowKit

def greF (ver n pl : List UInt8) (caps : Int) : Bool := !ver.contains 0 && (checkE n == 0 && (hasC caps 33280 && (!pl.contains 0 && (pl.isEmpty || hasC caps 524288))))

set_option maxRecDepth 100000 in
set_option maxHeartbeats 2000000 in
theorem greetingR_c (w : World) (ver n pl : List UInt8) (thr caps ch st : Int) (vn : Value) (hn : Rd w vn n) (hv : ver.length ≤ 10000) (hp : pl.length ≤ 10000) (b : Bool) (hb : greF ver n pl caps = b) :
    Calls Tryz.prog 101 #[.agg #[.string (strL ver), .int .u32 thr, vn, .int .u32 caps, .int .u8 ch, .int .u16 st, .string (strL pl)]] w fun e w' => e = .returned (.bool b) ∧ Ext w w' := by
  have HN := Lib.hid hn
  obtain ⟨An, cn, rfl, _⟩ := hn
  have HV := Lib.hid (show ver.length ≤ 1000000 by omega)
  have HP := Lib.hid (show pl.length ≤ 1000000 by omega)
  clear hv hp
  unfold greF at hb
  obtain ⟨p1, h1⟩ : ∃ p, ver.contains 0 = p := ⟨_, rfl⟩
  obtain ⟨x2, h2⟩ : ∃ x, checkE n = x := ⟨_, rfl⟩
  obtain ⟨p2, hp2⟩ : ∃ p, (x2 == 0) = p := ⟨_, rfl⟩
  obtain ⟨p3, h3⟩ : ∃ p, hasC caps 33280 = p := ⟨_, rfl⟩
  obtain ⟨p4, h4⟩ : ∃ p, pl.contains 0 = p := ⟨_, rfl⟩
  obtain ⟨p5, h5⟩ : ∃ p, hasC caps 524288 = p := ⟨_, rfl⟩
  obtain ⟨q, hq⟩ : ∃ q, (strL pl).toList.isEmpty = q := ⟨_, rfl⟩
  have hq2 : pl.isEmpty = q := by rw [← hq, strL_tl]
  rw [h1, h2, hp2, h3, h4, h5, hq2] at hb
  have H1 := Lib.hid h1
  have H2 := Lib.hid h2
  have H3 := Lib.hid h3
  have H4 := Lib.hid h4
  have H5 := Lib.hid ((hasB_plugin _).trans h5)
  clear h1 h2 h3 h4 h5 hq2
  have HBB := Lib.hid hb
  clear hb
  cases p1
  cases p2
  rotate_left
  cases p3
  rotate_left
  cases p4
  cases q
  cases p5
  all_goals
    go_enter Tryz.func101, Tryz.ntmps101
    go_wp2_with fail
    generalize hW0 : w.alloc _ = wS
    have hb : Box wS w.heap.size [.string (strL ver), .int .u32 thr, .slice An n.length cn, .int .u32 caps, .int .u8 ch, .int .u16 st, .string (strL pl)] := by rw [← hW0]; exact Box.new w _ _
    have hx0 : Ext w wS := by rw [← hW0]; exact (Ext.refl w).alloc _
    clear hW0
    have HX0 := Lib.hid hx0
    clear hx0
    have c0 := hb.one' (j := 0) rfl (Ext.refl wS)
    have c2 := hb.one' (j := 2) rfl (Ext.refl wS)
    have c3 := hb.one' (j := 3) rfl (Ext.refl wS)
    have c6 := hb.one' (j := 6) rfl (Ext.refl wS)
    go_wp2_with (first
      | ((with_reducible show Calls _ _ #[Value.string (strL ver)] _ _); go_at_call 156; refine (plain12R_c _ ver HV.out).mono ?_; rw [H1.out]; rintro e wx ⟨rfl, rfl⟩)
      | ((with_reducible show Calls _ _ #[Value.string (strL pl)] _ _); go_at_call 156; refine (plain12R_c _ pl HP.out).mono ?_; rw [H4.out]; rintro e wx ⟨rfl, rfl⟩)
      | (go_at_call 61; refine (check_r _ _ n x2 (HN.out.ext HX0.out) H2.out).mono ?_; rintro e wy ⟨rfl, rfl⟩)
      | (go_at_call 116; refine (baseR_c _ caps _ H3.out).mono ?_; rintro e wy ⟨rfl, rfl⟩)
      | ((with_reducible show Calls _ _ #[_, Value.int .u32 524288] _ _); go_at_call 104; refine (hasR_at _ _ _ _ H5.out).mono ?_; rintro e wy ⟨rfl, rfl⟩)
      | fail)
    go_ret
    exact ⟨by rw [← HBB.out]; simp, HX0.out⟩

set_option maxRecDepth 100000 in
set_option maxHeartbeats 2000000 in
theorem appendGreetingR_z (w : World) (ver n pl : List UInt8) (thr caps ch st : Int) (vn : Value) (hn : Rd w vn n) (hv : ver.length ≤ 10000) (hp : pl.length ≤ 10000) (h : greF ver n pl caps = false) :
    Calls Tryz.prog 58 #[.slice none 0 0, .agg #[.string (strL ver), .int .u32 thr, vn, .int .u32 caps, .int .u8 ch, .int .u16 st, .string (strL pl)]] w (RetBE w [] 2) := by
  have HN := Lib.hid hn
  obtain ⟨An, cn, rfl, _⟩ := hn
  have HF := Lib.hid (fun w1 hr => greetingR_c w1 ver n pl thr caps ch st (.slice An n.length cn) hr hv hp false h)
  clear hv hp h
  go_enter Tryz.func58, Tryz.ntmps58
  go_wp2_with fail
  generalize hW0 : w.alloc _ = wS
  have hb : Box wS w.heap.size [.string (strL ver), .int .u32 thr, .slice An n.length cn, .int .u32 caps, .int .u8 ch, .int .u16 st, .string (strL pl)] := by rw [← hW0]; exact Box.new w _ _
  have hx0 : Ext w wS := by rw [← hW0]; exact (Ext.refl w).alloc _
  clear hW0
  have HX := Lib.hid hx0
  clear hx0
  go_wp2_with (first
    | (go_at_call 101; refine (HF.out _ (HN.out.ext HX.out)).mono ?_; rintro e w1 ⟨rfl, hE⟩)
    | fail)
  go_ret2
  exact ⟨_, rfl, Own.nil _ _, HX.out.trans hE⟩

set_option linter.unusedSimpArgs false in
set_option maxRecDepth 100000 in
set_option maxHeartbeats 8000000 in
theorem appendGreetingR_g (w : World) (ver n pl : List UInt8) (thr caps ch st : Int) (vn : Value) (hn : Rd w vn n) (hzv : ver.contains 0 = false) (hzp : pl.contains 0 = false) (h20 : n.length = 20)
    (hgr : greF ver n pl caps = true) (ht : 0 ≤ thr ∧ thr < 4294967296) (hcaps : 0 ≤ caps ∧ caps < 4294967296) (hch : 0 ≤ ch ∧ ch < 256) (hst : 0 ≤ st ∧ st < 65536) (hpl : pl.length ≤ 10000) (hvl : ver.length ≤ 10000) :
    Calls Tryz.prog 58 #[.slice none 0 0, .agg #[.string (strL ver), .int .u32 thr, vn, .int .u32 caps, .int .u8 ch, .int .u16 st, .string (strL pl)]] w (RetBE w (greetBs ver thr n caps ch st pl) 0) := by
  have HN := Lib.hid hn
  obtain ⟨An, cn, rfl, hcn, hcm, _, _⟩ := id hn
  have hcn8 : (8 : Int) ≤ (cn : Int) := by omega
  have hn20 : (8 : Int) ≤ (n.length : Int) := by omega
  have HN8 := Lib.hid (rd_take8 hn 8 (by omega))
  have HZV := Lib.hid hzv
  have HZP := Lib.hid hzp
  have HPL := Lib.hid hpl
  have HVL := Lib.hid hvl
  have HNL := Lib.hid (show n.length = 20 from h20)
  have HCH := Lib.hid hch
  have HGR := Lib.hid hgr
  obtain ⟨lo, hlo⟩ : ∃ lo, caps % 65536 = lo := ⟨_, rfl⟩
  obtain ⟨hi, hhi⟩ : ∃ hi, caps / 65536 = hi := ⟨_, rfl⟩
  have HWT := Lib.hid (show IntKind.u64.wrap thr = thr from IntWalk.u64_in _ (by omega))
  have HWC := Lib.hid (show IntKind.u64.wrap caps = caps from IntWalk.u64_in _ (by omega))
  have HWL := Lib.hid (show (IntKind.u64.wrap caps).tmod 65536 = lo by rw [HWC.out, Int.tmod_eq_emod_of_nonneg hcaps.1]; exact hlo)
  have HWS := Lib.hid (show IntKind.u64.wrap st = st from IntWalk.u64_in _ (by omega))
  have HWH := Lib.hid (show (IntKind.u64.wrap caps).tdiv 65536 = hi by rw [HWC.out, Int.tdiv_eq_ediv_of_nonneg hcaps.1]; exact hhi)
  have HWI := Lib.hid (show IntKind.u64.wrap hi = hi from IntWalk.u64_in _ (by omega))
  have HFT := Lib.hid (fixOk_of thr 4 (by omega) (by omega) ht.1 ht.2)
  have HFL := Lib.hid (fixOk_of lo 2 (by omega) (by omega) (by omega) (show lo < 65536 by omega))
  have HFS := Lib.hid (fixOk_of st 2 (by omega) (by omega) hst.1 hst.2)
  have HFH := Lib.hid (fixOk_of hi 2 (by omega) (by omega) (by omega) (show hi < 65536 by omega))
  have HLO := Lib.hid hlo
  have HHI := Lib.hid hhi
  obtain ⟨kp, hkp⟩ : ∃ k, hasC caps 524288 = k := ⟨_, rfl⟩
  have HKP := Lib.hid hkp
  clear hzv hzp h20 hpl hvl hgr hlo hhi hkp hcn hn
  go_enter Tryz.func58, Tryz.ntmps58
  go_wp2_with fail
  generalize hW0 : w.alloc _ = wS
  have hb : Box wS w.heap.size [.string (strL ver), .int .u32 thr, .slice An n.length cn, .int .u32 caps, .int .u8 ch, .int .u16 st, .string (strL pl)] := by rw [← hW0]; exact Box.new w _ _
  have hx0 : Ext w wS := by rw [← hW0]; exact (Ext.refl w).alloc _
  clear hW0
  have HX := Lib.hid hx0
  clear hx0
  go_wp2_with (first
    | (go_at_call 101; refine (greetingR_c _ ver n pl thr caps ch st _ (HN.out.ext HX.out) HVL.out HPL.out true HGR.out).mono ?_; rintro e w1 ⟨rfl, hE⟩)
    | fail)
  replace hb := hb.ext hE
  have HX1 := Lib.hid (HX.out.trans hE)
  clear HX hE
  have HX := HX1
  clear HX1
  have hE := Ext.refl w1
  go_region_held3 (fun W' => W'.cell? ⟨w.heap.size, 0, none⟩ = some (.string (strL ver)) ∧ Ext w1 W') ((refine hb.holdA (i := 0) rfl ?_; repeat' (first | exact hE | (with_reducible refine Ext.drew ?_) | (with_reducible refine Ext.alloc ?_ _))))
    (first
      | ((with_reducible show (if Region.wanted (⟨some 13, _, _, _, _, _⟩ : Oper) _ = true then _ else _)); go_must (refine step_append_none (base := w1.heap.size) (l := []) bt ?_ (by rfl) _ _ (by rfl) (by rfl) (by rfl) ?_; ((first | exact own_nil _ _ _ (by first | rfl | (simp; done)) (by first | exact Nat.le_refl _ | (simp; done) | (simp; omega)) | exact Own.ext (own_nil _ _ _ (by first | rfl | (simp; done)) (by first | exact Nat.le_refl _ | (simp; done) | (simp; omega))) ((Ext.refl _).alloc _) | exact Own.ext (own_nil _ _ _ (by first | rfl | (simp; done)) (by first | exact Nat.le_refl _ | (simp; done) | (simp; omega))) (((Ext.refl _).alloc _).alloc _) | exact Own.ext (own_nil _ _ _ (by first | rfl | (simp; done)) (by first | exact Nat.le_refl _ | (simp; done) | (simp; omega))) (Ext.refl _).drew | exact Own.ext (own_nil _ _ _ (by first | rfl | (simp; done)) (by first | exact Nat.le_refl _ | (simp; done) | (simp; omega))) ((Ext.refl _).alloc _).drew | exact Own.ext (own_nil _ _ _ (by first | rfl | (simp; done)) (by first | exact Nat.le_refl _ | (simp; done) | (simp; omega))) (((Ext.refl _).alloc _).alloc _).drew | exact Own.ext (own_nil _ _ _ (by first | rfl | (simp; done)) (by first | exact Nat.le_refl _ | (simp; done) | (simp; omega))) (((Ext.refl _).alloc _).drew).drew | exact Own.ext (own_nil _ _ _ (by first | rfl | (simp; done)) (by first | exact Nat.le_refl _ | (simp; done) | (simp; omega))) ((Ext.refl _).drew).drew))))
      | ((with_reducible show (if Region.wanted (⟨some 15, _, _, _, _, _⟩ : Oper) _ = true then _ else _)); go_must (refine step_append_rdg (l := []) (m := [10]) bt ?_ ?_ (by rfl) _ _ (by rfl) (by rfl) (by rfl) (by have h1 := HPL.out; have h2 := HNL.out; have h3 := HVL.out; simp only [List.length_append, List.length_cons, List.length_nil, List.length_take, List.length_drop, List.length_replicate, fixB_length] <;> omega) (Ext.size (w := w1) (by repeat' (first | exact hE | (with_reducible refine Ext.drew ?_) | (with_reducible refine Ext.alloc ?_ _)))) ?_; ((first | exact own_nil _ _ _ (by first | rfl | (simp; done)) (by first | exact Nat.le_refl _ | (simp; done) | (simp; omega)) | exact Own.ext (own_nil _ _ _ (by first | rfl | (simp; done)) (by first | exact Nat.le_refl _ | (simp; done) | (simp; omega))) ((Ext.refl _).alloc _) | exact Own.ext (own_nil _ _ _ (by first | rfl | (simp; done)) (by first | exact Nat.le_refl _ | (simp; done) | (simp; omega))) (((Ext.refl _).alloc _).alloc _) | exact Own.ext (own_nil _ _ _ (by first | rfl | (simp; done)) (by first | exact Nat.le_refl _ | (simp; done) | (simp; omega))) (Ext.refl _).drew | exact Own.ext (own_nil _ _ _ (by first | rfl | (simp; done)) (by first | exact Nat.le_refl _ | (simp; done) | (simp; omega))) ((Ext.refl _).alloc _).drew | exact Own.ext (own_nil _ _ _ (by first | rfl | (simp; done)) (by first | exact Nat.le_refl _ | (simp; done) | (simp; omega))) (((Ext.refl _).alloc _).alloc _).drew | exact Own.ext (own_nil _ _ _ (by first | rfl | (simp; done)) (by first | exact Nat.le_refl _ | (simp; done) | (simp; omega))) (((Ext.refl _).alloc _).drew).drew | exact Own.ext (own_nil _ _ _ (by first | rfl | (simp; done)) (by first | exact Nat.le_refl _ | (simp; done) | (simp; omega))) ((Ext.refl _).drew).drew)); ((first | exact rd_lit _ _ [10] (by rfl) (by simp) 1 _ (by rfl) (by first | rfl | (simp; done)) | exact Rd.ext (rd_lit _ _ [10] (by rfl) (by simp) 1 _ (by rfl) (by first | rfl | (simp; done))) ((Ext.refl _).alloc _) | exact Rd.ext (rd_lit _ _ [10] (by rfl) (by simp) 1 _ (by rfl) (by first | rfl | (simp; done))) (((Ext.refl _).alloc _).alloc _) | exact Rd.ext (rd_lit _ _ [10] (by rfl) (by simp) 1 _ (by rfl) (by first | rfl | (simp; done))) (Ext.refl _).drew | exact Rd.ext (rd_lit _ _ [10] (by rfl) (by simp) 1 _ (by rfl) (by first | rfl | (simp; done))) ((Ext.refl _).alloc _).drew | exact Rd.ext (rd_lit _ _ [10] (by rfl) (by simp) 1 _ (by rfl) (by first | rfl | (simp; done))) (((Ext.refl _).alloc _).alloc _).drew)); intro v2 w2 ho2 hb2 hg2; replace hE : Ext w1 w2 := Ext.below (by repeat' (first | exact hE | (with_reducible refine Ext.drew ?_) | (with_reducible refine Ext.alloc ?_ _))) hb2 (Nat.le_refl _)))
      | (go_at_call 102; go_must (refine (ended12R_c _ _ ([] ++ [10]) ver (ho2.ext (by repeat' (first | exact (Ext.refl _) | (with_reducible refine Ext.drew ?_) | (with_reducible refine Ext.alloc ?_ _)))).rd (by have h3 := HVL.out; omega) (by simp) HZV.out).mono ?_; rintro e w3 ⟨v3, rfl, hof3, hx3⟩; have ho3 := hof3.more (base' := w1.heap.size) (Ext.size (w := w1) (by repeat' (first | exact hE | (with_reducible refine Ext.drew ?_) | (with_reducible refine Ext.alloc ?_ _)))); replace hE : Ext w1 w3 := Ext.trans (by repeat' (first | exact hE | (with_reducible refine Ext.drew ?_) | (with_reducible refine Ext.alloc ?_ _))) hx3))
      | fail)
  all_goals
    have HO3 := Lib.hid ho3
    have HE3 := Lib.hid hE
    have c1 := hb.one' (j := 1) rfl hE
    have c2 := hb.one' (j := 2) rfl hE
    clear hE ho3
    go_wp2_with (first
      | (go_at_call 103; go_loud ((try rw [HWT.out]); refine (fixed12R_c _ _ ([] ++ [10] ++ (ver ++ [0])) thr 4 HO3.out.rd (by have h1 := HPL.out; have h2 := HNL.out; have h3 := HVL.out; simp only [List.length_append, List.length_cons, List.length_nil, List.length_take, List.length_drop, List.length_replicate, fixB_length] <;> omega) HFT.out).mono ?_; rintro e w30 ⟨v30, rfl, hof30, hx30⟩; have ho30 := hof30.more (base' := w1.heap.size) (Ext.size HE3.out); have hE30 := HE3.out.trans hx30; clear c1 c2; have c2 := hb.one' (j := 2) rfl hE30))
      | ((with_reducible show AtS 27); refine wpl_cut_hi bt HN.out 8 (by omega) (by have := HNL.out; omega) rfl _ _ _ rfl rfl rfl ?_; intro A4 m4 k4 hr4; rw [show (8 : Int).toNat = 8 from rfl] at hr4)
      | ((with_reducible show AtS 28); refine wpl_append_rd bt ho30 (hr4.ext (HX.out.trans hE30)) rfl _ _ rfl rfl rfl (by have h1 := HPL.out; have h2 := HNL.out; have h3 := HVL.out; simp only [List.length_append, List.length_cons, List.length_nil, List.length_take, List.length_drop, List.length_replicate, fixB_length] <;> omega) (Ext.size hE30) ?_; intro v31 w31 ho31 hb31; have hE31 := hE30.below hb31 (Nat.le_refl _))
      | ((with_reducible show AtS 30); refine wpl_append_rd bt (ho31.ext ((Ext.refl _).alloc _)) (rd_lit _ _ [0] (by rfl) (by simp) 1 _ (by rfl) (by rfl)) rfl _ _ rfl rfl rfl (by have h1 := HPL.out; have h2 := HNL.out; have h3 := HVL.out; simp only [List.length_append, List.length_cons, List.length_nil, List.length_take, List.length_drop, List.length_replicate, fixB_length] <;> omega) (Ext.size (hE31.alloc _)) ?_; intro v32 w32 ho32 hb32; have hE32 := (hE31.alloc _).below hb32 (Nat.le_refl _))
      | fail)
    have HO31 := Lib.hid ho32
    have hE := hE32
    clear c2 ho30 hof30 ho31 hb31 hb32 hE30 hE31 hE32 hx30
    have ho32 := HO31.out
    clear HO31
    go_region_held3 (fun W' => W'.cell? ⟨w.heap.size, 3, none⟩ = some (.int .u32 caps) ∧ W'.cell? ⟨w.heap.size, 4, none⟩ = some (.int .u8 ch) ∧ Ext w1 W') ((refine hb.hold2 (i := 3) (j := 4) rfl rfl ?_; repeat' (first | exact hE | (with_reducible refine Ext.drew ?_) | (with_reducible refine Ext.alloc ?_ _))))
      (first
        | ((with_reducible show Calls _ _ #[v32, _, _] _ _); go_at_call 103; go_must ((try rw [HWL.out]); (try rw [HWI.out]); refine (fixed12R_c _ _ ([] ++ [10] ++ (ver ++ [0]) ++ fixB thr 4 ++ n.take 8 ++ [0]) lo 2 (ho32.ext (by repeat' (first | exact (Ext.refl _) | (with_reducible refine Ext.drew ?_) | (with_reducible refine Ext.alloc ?_ _)))).rd (by have h1 := HPL.out; have h2 := HNL.out; have h3 := HVL.out; simp only [List.length_append, List.length_cons, List.length_nil, List.length_take, List.length_drop, List.length_replicate, fixB_length] <;> omega) HFL.out).mono ?_; rintro e w41 ⟨v41, rfl, hof41, hx41⟩; have ho41 := hof41.more (base' := w1.heap.size) (Ext.size (w := w1) (by repeat' (first | exact hE | (with_reducible refine Ext.drew ?_) | (with_reducible refine Ext.alloc ?_ _)))); replace hE : Ext w1 w41 := Ext.trans (by repeat' (first | exact hE | (with_reducible refine Ext.drew ?_) | (with_reducible refine Ext.alloc ?_ _))) hx41))
        | ((with_reducible show (if Region.wanted (⟨some 40, _, _, _, _, _⟩ : Oper) _ = true then _ else _)); go_must (refine step_append_rdg (m := [UInt8.ofNat ch.toNat]) bt (ho41.ext (by repeat' (first | exact (Ext.refl _) | (with_reducible refine Ext.drew ?_) | (with_reducible refine Ext.alloc ?_ _)))) ?_ (by rfl) _ _ (by rfl) (by rfl) (by rfl) (by have h1 := HPL.out; have h2 := HNL.out; have h3 := HVL.out; simp only [List.length_append, List.length_cons, List.length_nil, List.length_take, List.length_drop, List.length_replicate, fixB_length] <;> omega) (Ext.size (w := w1) (by repeat' (first | exact hE | (with_reducible refine Ext.drew ?_) | (with_reducible refine Ext.alloc ?_ _)))) ?_; ((first | exact rd_byte _ ch HCH.out _ (by first | rfl | (simp; done)) | exact Rd.ext (rd_byte _ ch HCH.out _ (by first | rfl | (simp; done))) ((Ext.refl _).alloc _) | exact Rd.ext (rd_byte _ ch HCH.out _ (by first | rfl | (simp; done))) (((Ext.refl _).alloc _).alloc _) | exact Rd.ext (rd_byte _ ch HCH.out _ (by first | rfl | (simp; done))) (Ext.refl _).drew | exact Rd.ext (rd_byte _ ch HCH.out _ (by first | rfl | (simp; done))) ((Ext.refl _).alloc _).drew | exact Rd.ext (rd_byte _ ch HCH.out _ (by first | rfl | (simp; done))) (((Ext.refl _).alloc _).alloc _).drew | (refine Rd.ext ?_ hx41; (first | exact rd_byte _ ch HCH.out _ (by first | rfl | (simp; done)) | exact Rd.ext (rd_byte _ ch HCH.out _ (by first | rfl | (simp; done))) ((Ext.refl _).alloc _) | exact Rd.ext (rd_byte _ ch HCH.out _ (by first | rfl | (simp; done))) (((Ext.refl _).alloc _).alloc _) | exact Rd.ext (rd_byte _ ch HCH.out _ (by first | rfl | (simp; done))) (Ext.refl _).drew | exact Rd.ext (rd_byte _ ch HCH.out _ (by first | rfl | (simp; done))) ((Ext.refl _).alloc _).drew | exact Rd.ext (rd_byte _ ch HCH.out _ (by first | rfl | (simp; done))) (((Ext.refl _).alloc _).alloc _).drew)))); intro v42 w42 ho42 hb42 hg42; replace hE : Ext w1 w42 := Ext.below (by repeat' (first | exact hE | (with_reducible refine Ext.drew ?_) | (with_reducible refine Ext.alloc ?_ _))) hb42 (Nat.le_refl _)))
        | fail)
    all_goals
      (try go_wp2_with fail)
      go_region_held3 (fun W' => W'.cell? ⟨w.heap.size, 5, none⟩ = some (.int .u16 st) ∧ W'.cell? ⟨w.heap.size, 3, none⟩ = some (.int .u32 caps) ∧ Ext w1 W') ((refine hb.hold2 (i := 5) (j := 3) rfl rfl ?_; repeat' (first | exact hE | (with_reducible refine Ext.drew ?_) | (with_reducible refine Ext.alloc ?_ _))))
        (first
          | ((with_reducible show Calls _ _ #[v42, _, _] _ _); go_at_call 103; go_must ((try rw [HWS.out]); (try rw [HWI.out]); refine (fixed12R_c _ _ ([] ++ [10] ++ (ver ++ [0]) ++ fixB thr 4 ++ n.take 8 ++ [0] ++ fixB lo 2 ++ [UInt8.ofNat ch.toNat]) st 2 (ho42.ext (by repeat' (first | exact (Ext.refl _) | (with_reducible refine Ext.drew ?_) | (with_reducible refine Ext.alloc ?_ _)))).rd (by have h1 := HPL.out; have h2 := HNL.out; have h3 := HVL.out; simp only [List.length_append, List.length_cons, List.length_nil, List.length_take, List.length_drop, List.length_replicate, fixB_length] <;> omega) HFS.out).mono ?_; rintro e w43 ⟨v43, rfl, hof43, hx43⟩; have ho43 := hof43.more (base' := w1.heap.size) (Ext.size (w := w1) (by repeat' (first | exact hE | (with_reducible refine Ext.drew ?_) | (with_reducible refine Ext.alloc ?_ _)))); replace hE : Ext w1 w43 := Ext.trans (by repeat' (first | exact hE | (with_reducible refine Ext.drew ?_) | (with_reducible refine Ext.alloc ?_ _))) hx43))
          | ((with_reducible show Calls _ _ #[v43, _, _] _ _); go_at_call 103; go_must ((try rw [HWH.out]); (try rw [HWI.out]); refine (fixed12R_c _ _ ([] ++ [10] ++ (ver ++ [0]) ++ fixB thr 4 ++ n.take 8 ++ [0] ++ fixB lo 2 ++ [UInt8.ofNat ch.toNat] ++ fixB st 2) hi 2 (ho43.ext (by repeat' (first | exact (Ext.refl _) | (with_reducible refine Ext.drew ?_) | (with_reducible refine Ext.alloc ?_ _)))).rd (by have h1 := HPL.out; have h2 := HNL.out; have h3 := HVL.out; simp only [List.length_append, List.length_cons, List.length_nil, List.length_take, List.length_drop, List.length_replicate, fixB_length] <;> omega) HFH.out).mono ?_; rintro e w44 ⟨v44, rfl, hof44, hx44⟩; have ho44 := hof44.more (base' := w1.heap.size) (Ext.size (w := w1) (by repeat' (first | exact hE | (with_reducible refine Ext.drew ?_) | (with_reducible refine Ext.alloc ?_ _)))); replace hE : Ext w1 w44 := Ext.trans (by repeat' (first | exact hE | (with_reducible refine Ext.drew ?_) | (with_reducible refine Ext.alloc ?_ _))) hx44))
          | fail)
      all_goals
        have c3 := hb.one' (j := 3) rfl hE
        have hoI := Lib.hid (ho44)
        have HE := Lib.hid hE
        clear ho44 hE
        cases kp
        · go_wp2_with (first
              | (go_at_call 104; refine (hasR_at _ _ _ false ((hasB_plugin _).trans HKP.out)).mono ?_; rintro e wy ⟨rfl, rfl⟩)
              | ((with_reducible show AtS 57); refine wpl_append_rd bt (hoI.out.ext ((Ext.refl _).alloc _)) (rd_lit _ _ [0] (by rfl) (by simp) 1 _ (by rfl) (by rfl)) rfl _ _ rfl rfl rfl (by have h1 := HPL.out; have h2 := HNL.out; have h3 := HVL.out; simp only [List.length_append, List.length_cons, List.length_nil, List.length_take, List.length_drop, List.length_replicate, fixB_length] <;> omega) (Ext.size (HE.out.alloc _)) ?_; intro v20 w20 ho20 hb20; have hE20 := (HE.out.alloc _).below hb20 (Nat.le_refl _))
              | ((with_reducible show AtS 58); refine wpl_append_zeros bt Tryz.underlying3 ho20 10 (by omega) rfl _ _ rfl rfl _ rfl (by have h1 := HPL.out; have h2 := HNL.out; have h3 := HVL.out; simp only [List.length_append, List.length_cons, List.length_nil, List.length_take, List.length_drop, List.length_replicate, fixB_length] <;> omega) (Ext.size hE20) ?_; intro v21 w21 ho21 hb21 hg21; have hE21 := hE20.below hb21 (Nat.le_refl _); have c2 := hb.one' (j := 2) rfl hE21)
              | ((with_reducible show AtS 62); refine wpl_cut_lo bt HN.out 8 (by omega) (by have := HNL.out; omega) rfl _ _ _ rfl rfl rfl ?_; intro A5 m5 k5 hr5; rw [show (8 : Int).toNat = 8 from rfl] at hr5)
              | ((with_reducible show AtS 63); refine wpl_append_rd bt ho21 (hr5.ext (HX.out.trans hE21)) rfl _ _ rfl rfl rfl (by have h1 := HPL.out; have h2 := HNL.out; have h3 := HVL.out; simp only [List.length_append, List.length_cons, List.length_nil, List.length_take, List.length_drop, List.length_replicate, fixB_length] <;> omega) (Ext.size hE21) ?_; intro v22 w22 ho22 hb22; have hE22 := hE21.below hb22 (Nat.le_refl _); clear c2)
              | ((with_reducible show AtS 65); refine wpl_append_rd bt (ho22.ext ((Ext.refl _).alloc _)) (rd_lit _ _ [0] (by rfl) (by simp) 1 _ (by rfl) (by rfl)) rfl _ _ rfl rfl rfl (by have h1 := HPL.out; have h2 := HNL.out; have h3 := HVL.out; simp only [List.length_append, List.length_cons, List.length_nil, List.length_take, List.length_drop, List.length_replicate, fixB_length] <;> omega) (Ext.size (hE22.alloc _)) ?_; intro v23 w23 ho23 hb23; have hE23 := (hE22.alloc _).below hb23 (Nat.le_refl _); clear c3; have c6 := hb.one' (j := 6) rfl hE23)
              | fail)
          go_ret2
          refine ⟨_, rfl, ?_, HX.out.trans hE23⟩
          have e4 : greetBs ver thr n caps ch st pl = [] ++ [10] ++ (ver ++ [0]) ++ fixB thr 4 ++ n.take 8 ++ [0] ++ fixB lo 2 ++ [UInt8.ofNat ch.toNat] ++ fixB st 2 ++ fixB hi 2 ++ [0] ++ List.replicate 10 0 ++ n.drop 8 ++ [0] := by
            unfold greetBs endB
            rw [HKP.out, HLO.out, HHI.out]
            simp
          rw [e4]
          exact ho23.more (Ext.size HX.out)
        · go_wp2_with (first
              | (go_at_call 104; refine (hasR_at _ _ _ true ((hasB_plugin _).trans HKP.out)).mono ?_; rintro e wy ⟨rfl, rfl⟩)
              | ((with_reducible show AtS 57); refine wpl_append_rd bt (hoI.out.ext ((Ext.refl _).alloc _)) (rd_lit _ _ [21] (by rfl) (by simp) 1 _ (by rfl) (by rfl)) rfl _ _ rfl rfl rfl (by have h1 := HPL.out; have h2 := HNL.out; have h3 := HVL.out; simp only [List.length_append, List.length_cons, List.length_nil, List.length_take, List.length_drop, List.length_replicate, fixB_length] <;> omega) (Ext.size (HE.out.alloc _)) ?_; intro v20 w20 ho20 hb20; have hE20 := (HE.out.alloc _).below hb20 (Nat.le_refl _))
              | ((with_reducible show AtS 58); refine wpl_append_zeros bt Tryz.underlying3 ho20 10 (by omega) rfl _ _ rfl rfl _ rfl (by have h1 := HPL.out; have h2 := HNL.out; have h3 := HVL.out; simp only [List.length_append, List.length_cons, List.length_nil, List.length_take, List.length_drop, List.length_replicate, fixB_length] <;> omega) (Ext.size hE20) ?_; intro v21 w21 ho21 hb21 hg21; have hE21 := hE20.below hb21 (Nat.le_refl _); have c2 := hb.one' (j := 2) rfl hE21)
              | ((with_reducible show AtS 62); refine wpl_cut_lo bt HN.out 8 (by omega) (by have := HNL.out; omega) rfl _ _ _ rfl rfl rfl ?_; intro A5 m5 k5 hr5; rw [show (8 : Int).toNat = 8 from rfl] at hr5)
              | ((with_reducible show AtS 63); refine wpl_append_rd bt ho21 (hr5.ext (HX.out.trans hE21)) rfl _ _ rfl rfl rfl (by have h1 := HPL.out; have h2 := HNL.out; have h3 := HVL.out; simp only [List.length_append, List.length_cons, List.length_nil, List.length_take, List.length_drop, List.length_replicate, fixB_length] <;> omega) (Ext.size hE21) ?_; intro v22 w22 ho22 hb22; have hE22 := hE21.below hb22 (Nat.le_refl _); clear c2)
              | ((with_reducible show AtS 65); refine wpl_append_rd bt (ho22.ext ((Ext.refl _).alloc _)) (rd_lit _ _ [0] (by rfl) (by simp) 1 _ (by rfl) (by rfl)) rfl _ _ rfl rfl rfl (by have h1 := HPL.out; have h2 := HNL.out; have h3 := HVL.out; simp only [List.length_append, List.length_cons, List.length_nil, List.length_take, List.length_drop, List.length_replicate, fixB_length] <;> omega) (Ext.size (hE22.alloc _)) ?_; intro v23 w23 ho23 hb23; have hE23 := (hE22.alloc _).below hb23 (Nat.le_refl _); clear c3; have c6 := hb.one' (j := 6) rfl hE23)
              | (go_at_call 102; refine (ended12R_c _ _ _ pl ho23.rd (by have := HPL.out; omega) (by have h1 := HPL.out; have h2 := HNL.out; have h3 := HVL.out; simp only [List.length_append, List.length_cons, List.length_nil, List.length_take, List.length_drop, List.length_replicate, fixB_length] <;> omega) HZP.out).mono ?_; rintro e w24 ⟨v24, rfl, ho24, hx24⟩)
              | fail)
          go_ret2
          refine ⟨_, rfl, ?_, HX.out.trans (hE23.trans hx24)⟩
          have e4 : greetBs ver thr n caps ch st pl = [] ++ [10] ++ (ver ++ [0]) ++ fixB thr 4 ++ n.take 8 ++ [0] ++ fixB lo 2 ++ [UInt8.ofNat ch.toNat] ++ fixB st 2 ++ fixB hi 2 ++ [21] ++ List.replicate 10 0 ++ n.drop 8 ++ [0] ++ (pl ++ [0]) := by
            unfold greetBs endB
            rw [HKP.out, HLO.out, HHI.out]
            simp
          rw [e4]
          exact ho24.more (Nat.le_trans (Ext.size HX.out) (Ext.size hE23))
end Go.Proofs.YtbodppfpmpmadaaGreat

