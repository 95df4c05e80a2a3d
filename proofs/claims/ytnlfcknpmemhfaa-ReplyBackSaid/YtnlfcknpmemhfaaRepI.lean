/- The statement on writing: any reply is written as the document says, or refused. (Printed by gen_repI.py.) -/
import Derived.Test.YtnlfcknpmemhfaaRepH
import Derived.Test.YtnlfcknpmemhfaaLoad
namespace Go.Proofs.Ytnlfcknpmemhfaa
open Go.RowKit

theorem Box.at {W0 W : World} {g j : Nat} {cs : List Value} {v : Value} (h : Box W0 g cs) (hv : cs[j]? = some v) (e : Ext W0 W) : W.cell? ⟨g, j, none⟩ = some v := (h.held1 hv e).1

set_option maxRecDepth 100000 in
set_option maxHeartbeats 8000000 in
theorem replyWrites_c (w : World) (v : Value) (l : List UInt8) (c : Int) (a i st wn : Int) (info : ByteArray) (vt : Value) (trk : List UInt8) (k : Bool) (ec : Int) (es et : ByteArray) (ea eb pi px py pz : Int) (f : ByteArray) (hr : Rd w v l) (ht : Rd w vt trk)
    (h1 : info.size ≤ maxLen) (h2 : es.size ≤ maxLen) (h3 : et.size ≤ maxLen) (h4 : f.size ≤ maxLen)
    (ha : 0 ≤ a ∧ a < 18446744073709551616) (hii : 0 ≤ i ∧ i < 18446744073709551616) (hst : 0 ≤ st ∧ st < 65536) (hwn : 0 ≤ wn ∧ wn < 65536) (hec : 0 ≤ ec ∧ ec < 65536) (hea : 0 ≤ ea ∧ ea < 65536) (heb : 0 ≤ eb ∧ eb < 65536)
    (hpi : 0 ≤ pi ∧ pi < 4294967296) (hpx : 0 ≤ px ∧ px < 65536) (hpy : 0 ≤ py ∧ py < 65536) (hpz : 0 ≤ pz ∧ pz < 65536) :
    Calls Try.prog 3 #[v, .int .u32 c, .agg (rep17 a i st wn info vt k ec es et ea eb pi px py pz f).toArray] w (RetTrue w) := by
  have HR := Lib.hid hr
  have HT := Lib.hid ht
  have H1 := Lib.hid h1
  have H2 := Lib.hid h2
  have H3 := Lib.hid h3
  have H4 := Lib.hid h4
  obtain ⟨A, cap, rfl, hle, hm, hA, hc⟩ := hr
  unfold maxLen at hm
  clear hA hc h1 h2 h3 h4 ht
  obtain ⟨q, hq⟩ : ∃ q, smallB info trk es et f = q := ⟨_, rfl⟩
  have HS := Lib.hid hq
  by_cases hb : 3000 < l.length
  · clear hq
    unfold rep17
    go_enter Try.func3, Try.ntmps3
    go_wp2_with fail
    generalize hW0 : w.alloc _ = W0
    have hbox : Box W0 w.heap.size (rep17 a i st wn info vt k ec es et ea eb pi px py pz f) := by rw [← hW0]; exact Box.new w _ _
    have hx0 : Ext w W0 := by rw [← hW0]; exact (Ext.refl w).alloc _
    clear hW0
    have hE := Ext.refl W0
    go_wp2_with (first
      | (go_at_call 14; refine (lives14_c _).mono ?_; rintro e w1 ⟨rfl, hx1⟩; replace hE := hE.trans hx1)
      | fail)
    go_ret
    exact ⟨rfl, hx0.trans hE⟩
  have HB := Lib.hid (show decide (3000 < (l.length : Int)) = false by simp; omega)
  cases q with
  | false =>
    clear hq
    unfold rep17
    go_enter Try.func3, Try.ntmps3
    go_wp2_with fail
    generalize hW0 : w.alloc _ = W0
    have hbox : Box W0 w.heap.size (rep17 a i st wn info vt k ec es et ea eb pi px py pz f) := by rw [← hW0]; exact Box.new w _ _
    have hx0 : Ext w W0 := by rw [← hW0]; exact (Ext.refl w).alloc _
    clear hW0
    have hE := Ext.refl W0
    go_wp2_with (first
      | (go_at_call 14; refine (lives14_c _).mono ?_; rintro e w1 ⟨rfl, hx1⟩; replace hE := hE.trans hx1)
      | ((with_reducible show wpList _ _ _ (⟨some 17, _, _, _, _, _⟩ :: _) _ _); refine wpl_load_g (j := 3) rfl rfl HB.out _ _ rfl _ _ rfl (rep17 a i st wn info vt k ec es et ea eb pi px py pz f) _ (hbox.ext hE).range Try.underlying36 rfl (by kernel_rfl) ?_)
      | (go_at_call 15; refine (small_c _ a i st wn info vt trk k ec es et ea eb pi px py pz f (HT.out.ext (hx0.trans hE)) false HS.out H1.out H2.out H3.out H4.out).mono ?_; rintro e w2 ⟨rfl, hx2⟩; replace hE := hE.trans hx2)
      | fail)
    go_ret
    exact ⟨rfl, hx0.trans hE⟩
  | true =>
    have hsz : info.size ≤ 3000 ∧ trk.length ≤ 3000 ∧ es.size ≤ 3000 ∧ et.size ≤ 3000 ∧ f.size ≤ 3000 := by simpa [smallB] using hq
    obtain ⟨s1, s2, s3, s4, s5⟩ := hsz
    obtain ⟨L1, n1, hL1, hok, hokR⟩ := ok_both l trk c a i st wn info k (by omega) s1 s2 ha hii hst hwn
    obtain ⟨L2, n2, hL2, herr, herrR⟩ := err_both l ec es et (by omega) s3 s4 hec
    obtain ⟨L3, n3, hL3, hfile, hfileR⟩ := file_both l f (by omega) s5
    clear hq
    unfold rep17
    go_enter Try.func3, Try.ntmps3
    go_wp2_with fail
    generalize hW0 : w.alloc _ = W0
    have hbox : Box W0 w.heap.size (rep17 a i st wn info vt k ec es et ea eb pi px py pz f) := by rw [← hW0]; exact Box.new w _ _
    have hx0 : Ext w W0 := by rw [← hW0]; exact (Ext.refl w).alloc _
    clear hW0
    have hE := Ext.refl W0
    go_wp2_with (first
      | (go_at_call 14; refine (lives14_c _).mono ?_; rintro e w1 ⟨rfl, hx1⟩; replace hE := hE.trans hx1)
      | ((with_reducible show wpList _ _ _ (⟨some 17, _, _, _, _, _⟩ :: _) _ _); refine wpl_load_g (j := 3) rfl rfl HB.out _ _ rfl _ _ rfl (rep17 a i st wn info vt k ec es et ea eb pi px py pz f) _ (hbox.ext hE).range Try.underlying36 rfl (by kernel_rfl) ?_)
      | (go_at_call 15; refine (small_c _ a i st wn info vt trk k ec es et ea eb pi px py pz f (HT.out.ext (hx0.trans hE)) true HS.out H1.out H2.out H3.out H4.out).mono ?_; rintro e w2 ⟨rfl, hx2⟩; replace hE := hE.trans hx2)
      | fail)
    go_region_held3 (fun W' => W'.cell? ⟨w.heap.size, 0, none⟩ = some (.int .u64 a) ∧ W'.cell? ⟨w.heap.size, 1, none⟩ = some (.int .u64 i) ∧ W'.cell? ⟨w.heap.size, 2, none⟩ = some (.int .u16 st) ∧ W'.cell? ⟨w.heap.size, 3, none⟩ = some (.int .u16 wn) ∧ W'.cell? ⟨w.heap.size, 4, none⟩ = some (.string info) ∧ W'.cell? ⟨w.heap.size, 5, none⟩ = some (vt) ∧ W'.cell? ⟨w.heap.size, 6, none⟩ = some (.bool k) ∧ Ext W0 W') (first | (exact ⟨hbox.at (by rfl) hE, hbox.at (by rfl) hE, hbox.at (by rfl) hE, hbox.at (by rfl) hE, hbox.at (by rfl) hE, hbox.at (by rfl) hE, hbox.at (by rfl) hE, hE⟩) | (exact ⟨hbox.at (by rfl) hE.drew, hbox.at (by rfl) hE.drew, hbox.at (by rfl) hE.drew, hbox.at (by rfl) hE.drew, hbox.at (by rfl) hE.drew, hbox.at (by rfl) hE.drew, hbox.at (by rfl) hE.drew, hE.drew⟩) | fail)
      (first
        | (go_at_call 17; refine (own_c _ _ _ (HR.out.ext (hx0.trans (hE.drew))) (by omega)).mono ?_; rintro e wo ⟨vo, rfl, ho', hxo⟩; have ho := ho'.rd; clear ho'; replace hE := (hE.drew).trans hxo; (try replace hz := hz.ext hxo); (try replace hq := hq.ext hxo))
        | (go_at_call 16; refine (hok _ _ _ ho (HT.out.ext (hx0.trans hE))).mono ?_; rintro e wx ⟨vx, rfl, hox', hxx⟩; have hox := hox'.rd; clear hox'; replace hE := hE.trans hxx)
        | fail)
    clear hok
    as_aux_lemma =>
    have c0 := hbox.at (j := 0) (by rfl) hE
    have c1 := hbox.at (j := 1) (by rfl) hE
    have c2 := hbox.at (j := 2) (by rfl) hE
    have c3 := hbox.at (j := 3) (by rfl) hE
    have c4 := hbox.at (j := 4) (by rfl) hE
    have c5 := hbox.at (j := 5) (by rfl) hE
    have c6 := hbox.at (j := 6) (by rfl) hE
    go_wp2_with (first
      | (go_at_call 18; refine (hokR _ _ _ (HR.out.ext (hx0.trans hE)) (HT.out.ext (hx0.trans hE))).mono ?_; rintro e wy ⟨vy, rfl, hoy', hxy⟩; have hoy := hoy'.rd; clear hoy'; replace hox := hox.ext hxy; replace hE := hE.trans hxy)
      | (go_at_call 19; refine (same_c _ _ _ _ _ hox hoy true (by simp)).mono ?_; rintro e wq ⟨rfl, rfl⟩)
      | fail)
    clear c0 c1 c2 c3 c4 c5 c6
    clear hox hoy ho hokR
    as_aux_lemma =>
    go_region_held3 (fun W' => W'.cell? ⟨w.heap.size, 7, none⟩ = some (.int .u16 ec) ∧ W'.cell? ⟨w.heap.size, 8, none⟩ = some (.string es) ∧ W'.cell? ⟨w.heap.size, 9, none⟩ = some (.string et) ∧ Ext W0 W') (first | (exact ⟨hbox.at (by rfl) hE, hbox.at (by rfl) hE, hbox.at (by rfl) hE, hE⟩) | (exact ⟨hbox.at (by rfl) hE.drew, hbox.at (by rfl) hE.drew, hbox.at (by rfl) hE.drew, hE.drew⟩) | fail)
      (first
        | (go_at_call 17; refine (own_c _ _ _ (HR.out.ext (hx0.trans (hE.drew))) (by omega)).mono ?_; rintro e wo ⟨vo, rfl, ho', hxo⟩; have ho := ho'.rd; clear ho'; replace hE := (hE.drew).trans hxo; (try replace hz := hz.ext hxo); (try replace hq := hq.ext hxo))
        | (go_at_call 20; refine (herr _ _ ho).mono ?_; rintro e wx ⟨vx, rfl, hox', hxx⟩; have hox := hox'.rd; clear hox'; replace hE := hE.trans hxx)
        | fail)
    clear herr
    have c7 := hbox.at (j := 7) (by rfl) hE
    have c8 := hbox.at (j := 8) (by rfl) hE
    have c9 := hbox.at (j := 9) (by rfl) hE
    go_wp2_with (first
      | (go_at_call 21; refine (herrR _ _ (HR.out.ext (hx0.trans hE))).mono ?_; rintro e wy ⟨vy, rfl, hoy', hxy⟩; have hoy := hoy'.rd; clear hoy'; replace hox := hox.ext hxy; replace hE := hE.trans hxy)
      | (go_at_call 19; refine (same_c _ _ _ _ _ hox hoy true (by simp)).mono ?_; rintro e wq ⟨rfl, rfl⟩)
      | fail)
    clear c7 c8 c9
    clear hox hoy ho herrR
    as_aux_lemma =>
    go_region_held3 (fun W' => W'.cell? ⟨w.heap.size, 16, none⟩ = some (.string f) ∧ Ext W0 W') (first | (exact ⟨hbox.at (by rfl) hE, hE⟩) | (exact ⟨hbox.at (by rfl) hE.drew, hE.drew⟩) | fail)
      (first
        | (go_at_call 17; refine (own_c _ _ _ (HR.out.ext (hx0.trans (hE.drew))) (by omega)).mono ?_; rintro e wo ⟨vo, rfl, ho', hxo⟩; have ho := ho'.rd; clear ho'; replace hE := (hE.drew).trans hxo; (try replace hz := hz.ext hxo); (try replace hq := hq.ext hxo))
        | (go_at_call 22; refine (hfile _ _ ho).mono ?_; rintro e wx ⟨vx, rfl, hox', hxx⟩; have hox := hox'.rd; clear hox'; replace hE := hE.trans hxx)
        | fail)
    clear hfile
    have c16 := hbox.at (j := 16) (by rfl) hE
    go_wp2_with (first
      | (go_at_call 23; refine (hfileR _ _ (HR.out.ext (hx0.trans hE))).mono ?_; rintro e wy ⟨vy, rfl, hoy', hxy⟩; have hoy := hoy'.rd; clear hoy'; replace hox := hox.ext hxy; replace hE := hE.trans hxy)
      | fail)
    clear c16
    clear ho hfileR
    as_aux_lemma =>
    go_region_held3 (fun W' => W'.cell? ⟨w.heap.size, 10, none⟩ = some (.int .u16 ea) ∧ W'.cell? ⟨w.heap.size, 11, none⟩ = some (.int .u16 eb) ∧ W'.cell? ⟨w.heap.size, 12, none⟩ = some (.int .u32 pi) ∧ W'.cell? ⟨w.heap.size, 13, none⟩ = some (.int .u16 px) ∧ W'.cell? ⟨w.heap.size, 14, none⟩ = some (.int .u16 py) ∧ W'.cell? ⟨w.heap.size, 15, none⟩ = some (.int .u16 pz) ∧ Ext W0 W') (first | (exact ⟨hbox.at (by rfl) hE, hbox.at (by rfl) hE, hbox.at (by rfl) hE, hbox.at (by rfl) hE, hbox.at (by rfl) hE, hbox.at (by rfl) hE, hE⟩) | (exact ⟨hbox.at (by rfl) hE.drew, hbox.at (by rfl) hE.drew, hbox.at (by rfl) hE.drew, hbox.at (by rfl) hE.drew, hbox.at (by rfl) hE.drew, hbox.at (by rfl) hE.drew, hE.drew⟩) | fail)
      (first
        | ((with_reducible show Calls _ _ #[vx, vy] _ _); go_at_call 19; refine (same_c _ _ _ _ _ (hox.ext (Ext.refl _).drew) (hoy.ext (Ext.refl _).drew) true (by simp)).mono ?_; rintro e wq ⟨rfl, rfl⟩; replace hE := hE.drew)
        | (go_at_call 17; refine (own_c _ _ _ (HR.out.ext (hx0.trans (hE))) (by omega)).mono ?_; rintro e wo ⟨vo, rfl, ho', hxo⟩; have ho := ho'.rd; clear ho'; replace hE := (hE).trans hxo; (try replace hz := hz.ext hxo); (try replace hq := hq.ext hxo))
        | (go_at_call 24; refine (appendEof_c _ _ _ ea eb ho (by omega) hea heb).mono ?_; rintro e wx ⟨ve, rfl, ho9, hx9⟩; have he := ho9.rd; clear ho9; replace hE := hE.trans hx9; (try replace hz := hz.ext hx9))
        | (go_at_call 25; refine (appendEofR_c _ _ _ ea eb (HR.out.ext (hx0.trans hE)) (by omega) hea heb).mono ?_; rintro e wx ⟨vz, rfl, ho9, hx9⟩; have hz := ho9.rd; clear ho9; replace hE := hE.trans hx9; (try replace ho := ho.ext hx9); (try replace he := he.ext hx9))
        | ((with_reducible show Calls _ _ #[ve, vz] _ _); go_at_call 19; refine (same_c _ _ _ _ _ he hz true (by simp)).mono ?_; rintro e wq ⟨rfl, rfl⟩)
        | (go_at_call 26; refine (appendPrep_c _ _ _ pi px py pz ho (by omega) hpi hpx hpy hpz).mono ?_; rintro e wx ⟨vp, rfl, ho9, hx9⟩; have hp := ho9.rd; clear ho9; replace hE := hE.trans hx9; (try replace hq := hq.ext hx9))
        | (go_at_call 27; refine (appendPrepR_c _ _ _ pi px py pz (HR.out.ext (hx0.trans hE)) (by omega) hpi hpx hpy hpz).mono ?_; rintro e wx ⟨vq, rfl, ho9, hx9⟩; have hq := ho9.rd; clear ho9; replace hE := hE.trans hx9; (try replace ho := ho.ext hx9); (try replace hp := hp.ext hx9))
        | ((with_reducible show Calls _ _ #[vp, vq] _ _); go_at_call 19; refine (same_c _ _ _ _ _ hp hq true (by simp)).mono ?_; rintro e wq ⟨rfl, rfl⟩)
        | fail)
    all_goals
      as_aux_lemma =>
      go_wp2_with fail
      go_ret
      exact ⟨rfl, hx0.trans hE⟩
end Go.Proofs.Ytnlfcknpmemhfaa
