/- The statement on replies that are written and read back. (Printed by gen_repM.py.) -/
import Derived.Test.YtnlfcknpmemhfaaRepL
import Derived.Test.YtnlfcknpmemhfaaRepI
namespace Go.Proofs.Ytnlfcknpmemhfaa
open Go.RowKit

theorem backOk (w : World) (v : Value) (c a i st wn : Int) (info : ByteArray) (trk : List UInt8) (k : Bool) (ha : 0 ≤ a ∧ a < 18446744073709551616) (hi : 0 ≤ i ∧ i < 18446744073709551616) (hst : 0 ≤ st ∧ st < 65536) (hwn : 0 ≤ wn ∧ wn < 65536)
    (hn : info.size ≤ 3000) (ht : trk.length ≤ 3000) (h : trk = [] ∨ trackB c st = true) (hr : Rd w v (okHead k a i st wn ++ okTail c st info.data.toList trk)) :
    Calls Try.prog 50 #[v, .int .u32 c] w fun e w' => ∃ vt, e = .returned (.tuple #[.agg #[.int .u64 a, .int .u64 i, .int .u16 st, .int .u16 wn, .string info, vt], .int .i64 0]) ∧ Rd w' vt trk ∧ Ext w w' := by
  have h1 := okS_back c a i st wn info.data.toList trk k ha hi hst hwn (by rw [size_toList]; omega) (by omega) h
  have hl := okLen [] trk c a i st wn info k (by simp) hn ht
  rw [List.nil_append] at hl
  have := rOkP w v _ c a i st wn _ _ 0 hr (by omega) h1
  rw [strL_of] at this
  exact this
theorem backErr (w : World) (v : Value) (c : Int) (s t : ByteArray) (hc : 0 ≤ c ∧ c < 65536) (hs : s.size = 5) (ht : t.size ≤ 3000) (hr : Rd w v (errB c s.data.toList t.data.toList)) :
    Calls Try.prog 51 #[v] w fun e w' => e = .returned (.tuple #[.agg #[.int .u16 c, .string s, .string t], .int .i64 0]) ∧ Ext w w' := by
  have h3 : (fixB c 2).length = 2 := fixB_length c 2
  have := rErrP w v _ c _ _ 0 hr (by simp [errB]; omega) (errS_back c s.data.toList t.data.toList hc (by rw [size_toList]; exact hs))
  rw [strL_of, strL_of] at this
  exact this
theorem backFile (w : World) (v : Value) (s : ByteArray) (h : s.toList ≠ []) (hr : Rd w v (fileB s.data.toList)) :
    Calls Try.prog 52 #[v] w fun e w' => e = .returned (.tuple #[.string s, .int .i64 0]) ∧ Ext w w' := by
  rw [ByteArray.toList_eq] at h
  have := readFile_len w v _ _ _ hr (fileS_back s.data.toList h)
  unfold RetS at this
  rw [strL_of] at this
  exact this
theorem backEof (w : World) (v : Value) (x y : Int) (hx : 0 ≤ x ∧ x < 65536) (hy : 0 ≤ y ∧ y < 65536) (hr : Rd w v (eofB x y)) :
    Calls Try.prog 56 #[v] w fun e w' => e = .returned (.tuple #[.agg #[.int .u16 x, .int .u16 y], .int .i64 0]) ∧ Ext w w' := by
  have h1 : (fixB x 2).length = 2 := fixB_length x 2
  have h2 : (fixB y 2).length = 2 := fixB_length y 2
  exact rEofP w v _ x y 0 hr (by simp [eofB]; omega) (eofS_back x y hx hy)
theorem backPrep (w : World) (v : Value) (i x y z : Int) (hi : 0 ≤ i ∧ i < 4294967296) (hx : 0 ≤ x ∧ x < 65536) (hy : 0 ≤ y ∧ y < 65536) (hz : 0 ≤ z ∧ z < 65536) (hr : Rd w v (prepB i x y z)) :
    Calls Try.prog 58 #[v] w fun e w' => e = .returned (.tuple #[.agg #[.int .u32 i, .int .u16 x, .int .u16 y, .int .u16 z], .int .i64 0]) ∧ Ext w w' := by
  have h0 : (fixB i 4).length = 4 := fixB_length i 4
  have h1 : (fixB x 2).length = 2 := fixB_length x 2
  have h2 : (fixB y 2).length = 2 := fixB_length y 2
  have h3 : (fixB z 2).length = 2 := fixB_length z 2
  exact rPrepP w v _ i x y z 0 hr (by simp [prepB]; omega) (prepS_back i x y z hi hx hy hz)

set_option maxRecDepth 100000 in
set_option maxHeartbeats 16000000 in
theorem replyBack_c (w : World) (c : Int) (a i st wn : Int) (info : ByteArray) (vt : Value) (trk : List UInt8) (k : Bool) (ec : Int) (es et : ByteArray) (ea eb pi px py pz : Int) (f : ByteArray) (hcc : 0 ≤ c ∧ c < 4294967296) (ht : Rd w vt trk)
    (h1 : info.size ≤ maxLen) (h2 : es.size ≤ maxLen) (h3 : et.size ≤ maxLen) (h4 : f.size ≤ maxLen)
    (ha : 0 ≤ a ∧ a < 18446744073709551616) (hii : 0 ≤ i ∧ i < 18446744073709551616) (hst : 0 ≤ st ∧ st < 65536) (hwn : 0 ≤ wn ∧ wn < 65536) (hec : 0 ≤ ec ∧ ec < 65536) (hea : 0 ≤ ea ∧ ea < 65536) (heb : 0 ≤ eb ∧ eb < 65536)
    (hpi : 0 ≤ pi ∧ pi < 4294967296) (hpx : 0 ≤ px ∧ px < 65536) (hpy : 0 ≤ py ∧ py < 65536) (hpz : 0 ≤ pz ∧ pz < 65536) :
    Calls Try.prog 13 #[.int .u32 c, .agg (rep17 a i st wn info vt k ec es et ea eb pi px py pz f).toArray] w (RetTrue w) := by
  have HT := Lib.hid ht
  have H1 := Lib.hid h1
  have H2 := Lib.hid h2
  have H3 := Lib.hid h3
  have H4 := Lib.hid h4
  obtain ⟨A, cap, rfl, hle, hm, hA, hc⟩ := ht
  unfold maxLen at hm
  clear hA hc h1 h2 h3 h4
  obtain ⟨q, hq⟩ : ∃ q, smallB info trk es et f = q := ⟨_, rfl⟩
  have HS := Lib.hid hq
  cases q with
  | false =>
    clear hq
    unfold rep17
    go_enter Try.func13, Try.ntmps13
    go_wp2_with fail
    generalize hW0 : w.alloc _ = W0
    have hbox : Box W0 w.heap.size (rep17 a i st wn info (.slice A trk.length cap) k ec es et ea eb pi px py pz f) := by rw [← hW0]; exact Box.new w _ _
    have hx0 : Ext w W0 := by rw [← hW0]; exact (Ext.refl w).alloc _
    clear hW0
    have hE := Ext.refl W0
    go_wp2_with (first
      | (go_at_call 14; refine (lives14_c _).mono ?_; rintro e w1 ⟨rfl, hx⟩; replace hE := hE.trans hx)
      | ((with_reducible show wpList _ _ _ (⟨some 20, _, _, _, _, _⟩ :: _) _ _); refine wpl_load_p rfl _ _ rfl _ _ rfl (rep17 a i st wn info (.slice A trk.length cap) k ec es et ea eb pi px py pz f) _ (hbox.ext hE).range Try.underlying36 rfl (by kernel_rfl) ?_)
      | (go_at_call 15; refine (small_c _ a i st wn info _ trk k ec es et ea eb pi px py pz f (HT.out.ext (hx0.trans hE)) false HS.out H1.out H2.out H3.out H4.out).mono ?_; rintro e w2 ⟨rfl, hx⟩; replace hE := hE.trans hx; (try clear c6); have c6 := hbox.at (j := 6) (by rfl) hE)
      | fail)
    go_ret
    exact ⟨rfl, hx0.trans hE⟩
  | true =>
    have hsz : info.size ≤ 3000 ∧ trk.length ≤ 3000 ∧ es.size ≤ 3000 ∧ et.size ≤ 3000 ∧ f.size ≤ 3000 := by simpa [smallB] using hq
    obtain ⟨s1, s2, s3, s4, s5⟩ := hsz
    have o1 := has_or c 16777216 hcc.1 hcc.2 (by omega) (by omega)
    have o2 := has_or c 128 hcc.1 hcc.2 (by omega) (by omega)
    have o3 := has_not c hcc.1 hcc.2
    have O1 := Lib.hid o1
    have O2 := Lib.hid o2
    have O3' := Lib.hid o3
    have HTk := Lib.hid s2
    clear hq o1 o2 o3
    unfold rep17
    go_enter Try.func13, Try.ntmps13
    go_wp2_with fail
    generalize hW0 : w.alloc _ = W0
    have hbox : Box W0 w.heap.size (rep17 a i st wn info (.slice A trk.length cap) k ec es et ea eb pi px py pz f) := by rw [← hW0]; exact Box.new w _ _
    have hx0 : Ext w W0 := by rw [← hW0]; exact (Ext.refl w).alloc _
    clear hW0
    have hE := Ext.refl W0
    go_wp2_with (first
      | (go_at_call 14; refine (lives14_c _).mono ?_; rintro e w1 ⟨rfl, hx⟩; replace hE := hE.trans hx)
      | ((with_reducible show wpList _ _ _ (⟨some 20, _, _, _, _, _⟩ :: _) _ _); refine wpl_load_p rfl _ _ rfl _ _ rfl (rep17 a i st wn info (.slice A trk.length cap) k ec es et ea eb pi px py pz f) _ (hbox.ext hE).range Try.underlying36 rfl (by kernel_rfl) ?_)
      | (go_at_call 15; refine (small_c _ a i st wn info _ trk k ec es et ea eb pi px py pz f (HT.out.ext (hx0.trans hE)) true HS.out H1.out H2.out H3.out H4.out).mono ?_; rintro e w2 ⟨rfl, hx⟩; replace hE := hE.trans hx; (try clear c6); have c6 := hbox.at (j := 6) (by rfl) hE)
      | ((with_reducible show wpList _ _ _ (⟨some 26, _, _, _, _, _⟩ :: _) _ _); refine wpl_load_p rfl _ _ rfl _ 0 rfl [.int .u64 a, .int .u64 i, .int .u16 st, .int .u16 wn, .string info, .slice A trk.length cap] _ ((hbox.ext hE).part 6 rfl) Try.underlying28 rfl (by kernel_rfl) ?_)
      | fail)
    by_cases hgood : trk = [] ∨ trackB c st = true
    · have hlen := okLen [] trk c a i st wn info true (by simp) s1 s2
      rw [List.nil_append] at hlen
      replace hlen : (okHead true a i st wn ++ okTail c st info.data.toList trk).length < 16777215 := by omega
      cases k with
      | true =>
        as_aux_lemma =>
        go_wp2_with (first
          | ((with_reducible show wpList _ _ _ (⟨some 73, _, _, _, _, _⟩ :: _) _ _); refine wpl_load_p rfl _ _ rfl _ 7 rfl [.int .u16 ec, .string es, .string et] _ ((hbox.ext hE).part 3 rfl) Try.underlying30 rfl (by kernel_rfl) ?_)
          | (go_at_call 16; refine (appendOk_good _ _ _ [] trk c a i st wn info true (Rd.nil _) (HT.out.ext (hx0.trans hE)) (by simp) (by omega) (by omega) ha hii hst hwn hgood).mono ?_; rintro e w2 ⟨v1, rfl, ho, hx⟩; have r1 := ho.rd; clear ho; rw [List.nil_append] at r1; replace hE := hE.trans hx; (try clear c6); have c6 := hbox.at (j := 6) (by rfl) hE)
          | (go_at_call 50; refine (backOk _ _ c a i st wn info trk true ha hii hst hwn s1 s2 hgood r1).mono ?_; rintro e w2 ⟨vt1, rfl, T1, hx⟩; obtain ⟨A1, p1, rfl, _, _, _, _⟩ := id T1; replace hE := hE.trans hx; (try replace r1 := r1.ext hx); (try clear c6); have c6 := hbox.at (j := 6) (by rfl) hE)
          | ((with_reducible show wpList _ _ _ (⟨none, Op.store 28 (.tmp 7) _, _, _, _, _⟩ :: _) _ _); refine wpl_store_box rfl _ _ _ rfl _ [.int .u64 a, .int .u64 i, .int .u16 st, .int .u16 wn, .string info, .slice A1 trk.length p1] rfl rfl (BoxF.new _ _ _) rfl (by kernel_rfl) (by rfl) ?_; intro w3 B1 O3; have hx := ((Ext.refl _).alloc _).on O3 (Nat.le_refl _); replace hE := hE.trans hx; (try replace r1 := r1.ext hx); (try replace T1 := T1.ext hx); (try clear c6); have c6 := hbox.at (j := 6) (by rfl) hE)
          | ((with_reducible show wpList _ _ _ (⟨some 40, _, _, _, _, _⟩ :: _) _ _); refine wpl_load_box rfl _ _ rfl _ rfl B1 Try.underlying28 rfl (by kernel_rfl) ?_)
          | ((with_reducible show wpList _ _ _ (⟨some 42, _, _, _, _, _⟩ :: _) _ _); refine wpl_load_p rfl _ _ rfl _ 0 rfl [.int .u64 a, .int .u64 i, .int .u16 st, .int .u16 wn, .string info, .slice A trk.length cap] _ ((hbox.ext hE).part 6 rfl) Try.underlying28 rfl (by kernel_rfl) ?_)
          | (go_at_call 54; refine (sameOk_c _ a i st wn info _ _ trk T1 (HT.out.ext (hx0.trans hE))).mono ?_; rintro e w2 ⟨rfl, hx⟩; replace hE := hE.trans hx; (try replace r1 := r1.ext hx); (try clear c6); have c6 := hbox.at (j := 6) (by rfl) hE)
          | (go_at_call 42; refine (last_at _ _ _ _ 1 r1 (last_okk _ _ _ _ _ _ O1.out hlen)).mono ?_; rintro e wx ⟨rfl, rfl⟩)
          | fail)
        clear r1 T1 B1 hlen
        by_cases h5 : es.size = 5
        · have c16 := hbox.at (j := 16) (by rfl) hE
          go_wp2_with (first
            | (go_at_call 20; refine (appendErr_good _ _ [] ec es et (Rd.nil _) (by simp) h5 (by omega) hec).mono ?_; rintro e w2 ⟨v2, rfl, ho, hx⟩; have r2 := ho.rd; clear ho; rw [List.nil_append] at r2; replace hE := hE.trans hx; (try clear c16); have c16 := hbox.at (j := 16) (by rfl) hE)
            | (go_at_call 51; refine (backErr _ _ ec es et hec h5 s4 r2).mono ?_; rintro e w2 ⟨rfl, hx⟩; replace hE := hE.trans hx; (try replace r2 := r2.ext hx); (try clear c16); have c16 := hbox.at (j := 16) (by rfl) hE)
            | ((with_reducible show wpList _ _ _ (⟨none, Op.store 30 (.tmp 9) _, _, _, _, _⟩ :: _) _ _); refine wpl_store_box rfl _ _ _ rfl _ [.int .u16 ec, .string es, .string et] rfl rfl (BoxF.new _ _ _) rfl (by kernel_rfl) (by rfl) ?_; intro w3 B2 O3; have hx := ((Ext.refl _).alloc _).on O3 (Nat.le_refl _); replace hE := hE.trans hx; (try replace r2 := r2.ext hx); (try clear c16); have c16 := hbox.at (j := 16) (by rfl) hE)
            | ((with_reducible show wpList _ _ _ (⟨some 84, _, _, _, _, _⟩ :: _) _ _); refine wpl_load_box rfl _ _ rfl _ rfl B2 Try.underlying30 rfl (by kernel_rfl) ?_)
            | ((with_reducible show wpList _ _ _ (⟨some 86, _, _, _, _, _⟩ :: _) _ _); refine wpl_load_p rfl _ _ rfl _ 7 rfl [.int .u16 ec, .string es, .string et] _ ((hbox.ext hE).part 3 rfl) Try.underlying30 rfl (by kernel_rfl) ?_)
            | ((with_reducible show Calls _ _ #[v2, _] _ _); go_at_call 41; refine (first_at _ _ _ _ 2 r2 (first_err _ _ _ _)).mono ?_; rintro e wx ⟨rfl, rfl⟩)
            | ((with_reducible show Calls _ _ #[v2, _] _ _); go_at_call 42; refine (last_at _ _ _ _ 2 r2 (last_err _ _ _ _)).mono ?_; rintro e wx ⟨rfl, rfl⟩)
            | fail)
          by_cases hf : f.toList ≠ []
          · as_aux_lemma =>
            have hf0 : (f.toList == []) = false := by simpa using hf
            go_wp2_with (first
              | (go_at_call 22; refine (appendFile_good _ _ [] f (Rd.nil _) (by simp) (by omega) hf).mono ?_; rintro e w2 ⟨v3, rfl, ho, hx⟩; have r3 := ho.rd; clear ho; rw [List.nil_append] at r3; replace hE := hE.trans hx; (try clear c16); have c16 := hbox.at (j := 16) (by rfl) hE)
              | (go_at_call 52; refine (backFile _ _ f hf r3).mono ?_; rintro e w2 ⟨rfl, hx⟩; replace hE := hE.trans hx; (try replace r3 := r3.ext hx); (try clear c16); have c16 := hbox.at (j := 16) (by rfl) hE)
              | (go_at_call 41; refine (first_at _ _ _ _ 4 r3 (first_file _ _ O2.out)).mono ?_; rintro e wx ⟨rfl, rfl⟩)
              | ((with_reducible show wpList _ _ _ (⟨some 133, _, _, _, _, _⟩ :: _) _ _); refine wpl_load_p rfl _ _ rfl _ 10 rfl [.int .u16 ea, .int .u16 eb] _ ((hbox.ext hE).part 2 rfl) Try.underlying32 rfl (by kernel_rfl) ?_)
              | (go_at_call 24; refine (appendEof_c _ _ [] ea eb (Rd.nil _) (by simp) hea heb).mono ?_; rintro e w2 ⟨v4, rfl, ho, hx⟩; have r4 := ho.rd; clear ho; rw [List.nil_append] at r4; replace hE := hE.trans hx)
              | (go_at_call 56; refine (backEof _ _ ea eb hea heb r4).mono ?_; rintro e w2 ⟨rfl, hx⟩; replace hE := hE.trans hx; (try replace r4 := r4.ext hx))
              | ((with_reducible show wpList _ _ _ (⟨none, Op.store 32 (.tmp 14) _, _, _, _, _⟩ :: _) _ _); refine wpl_store_box rfl _ _ _ rfl _ [.int .u16 ea, .int .u16 eb] rfl rfl (BoxF.new _ _ _) rfl (by kernel_rfl) (by rfl) ?_; intro w3 B3 O3; have hx := ((Ext.refl _).alloc _).on O3 (Nat.le_refl _); replace hE := hE.trans hx; (try replace r4 := r4.ext hx))
              | ((with_reducible show wpList _ _ _ (⟨some 141, _, _, _, _, _⟩ :: _) _ _); refine wpl_load_p rfl _ _ rfl _ 12 rfl [.int .u32 pi, .int .u16 px, .int .u16 py, .int .u16 pz] _ ((hbox.ext hE).part 4 rfl) Try.underlying34 rfl (by kernel_rfl) ?_)
              | (go_at_call 26; refine (appendPrep_c _ _ [] pi px py pz (Rd.nil _) (by simp) hpi hpx hpy hpz).mono ?_; rintro e w2 ⟨v5, rfl, ho, hx⟩; have r5 := ho.rd; clear ho; rw [List.nil_append] at r5; replace hE := hE.trans hx; (try replace r4 := r4.ext hx); (try replace B3 := B3.ext hx))
              | (go_at_call 58; refine (backPrep _ _ pi px py pz hpi hpx hpy hpz r5).mono ?_; rintro e w2 ⟨rfl, hx⟩; replace hE := hE.trans hx; (try replace r4 := r4.ext hx); (try replace B3 := B3.ext hx))
              | ((with_reducible show wpList _ _ _ (⟨none, Op.store 34 (.tmp 16) _, _, _, _, _⟩ :: _) _ _); refine wpl_store_box rfl _ _ _ rfl _ [.int .u32 pi, .int .u16 px, .int .u16 py, .int .u16 pz] rfl rfl (BoxF.new _ _ _) rfl (by kernel_rfl) (by rfl) ?_; intro w3 B4 O3; have hx := ((Ext.refl _).alloc _).on O3 (Nat.le_refl _); replace hE := hE.trans hx; (try replace r4 := r4.ext hx); (try replace B3 := B3.ext hx); have b0 := B4.at (j := 0) (by rfl); have b1 := B4.at (j := 1) (by rfl); have b2 := B4.at (j := 2) (by rfl); have b3 := B4.at (j := 3) (by rfl); (try clear c12); have c12 := hbox.at (j := 12) (by rfl) hE; (try clear c13); have c13 := hbox.at (j := 13) (by rfl) hE; (try clear c14); have c14 := hbox.at (j := 14) (by rfl) hE; (try clear c15); have c15 := hbox.at (j := 15) (by rfl) hE)
              | ((with_reducible show wpList _ _ _ (⟨some 148, _, _, _, _, _⟩ :: _) _ _); refine wpl_load_box rfl _ _ rfl _ rfl B3 Try.underlying32 rfl (by kernel_rfl) ?_)
              | ((with_reducible show wpList _ _ _ (⟨some 150, _, _, _, _, _⟩ :: _) _ _); refine wpl_load_p rfl _ _ rfl _ 10 rfl [.int .u16 ea, .int .u16 eb] _ ((hbox.ext hE).part 2 rfl) Try.underlying32 rfl (by kernel_rfl) ?_)
              | (go_at_call 42; refine (last_at _ _ _ _ 3 r4 (last_eof _ _ _ O3'.out)).mono ?_; rintro e wx ⟨rfl, rfl⟩)
              | fail)
            go_ret
            exact ⟨rfl, hx0.trans hE⟩
          · as_aux_lemma =>
            obtain rfl : f = ⟨#[]⟩ := by
              have h0 : f.toList = [] := by simpa using hf
              rw [ByteArray.toList_eq] at h0
              obtain ⟨⟨d⟩⟩ := f
              simp at h0
              subst h0
              rfl
            go_wp2_with (first
              | (go_at_call 22; refine (appendFile_bad _ _).mono ?_; rintro e w2 ⟨v3, rfl, ho, hx⟩; clear ho; replace hE := hE.trans hx)
              | ((with_reducible show wpList _ _ _ (⟨some 133, _, _, _, _, _⟩ :: _) _ _); refine wpl_load_p rfl _ _ rfl _ 10 rfl [.int .u16 ea, .int .u16 eb] _ ((hbox.ext hE).part 2 rfl) Try.underlying32 rfl (by kernel_rfl) ?_)
              | (go_at_call 24; refine (appendEof_c _ _ [] ea eb (Rd.nil _) (by simp) hea heb).mono ?_; rintro e w2 ⟨v4, rfl, ho, hx⟩; have r4 := ho.rd; clear ho; rw [List.nil_append] at r4; replace hE := hE.trans hx)
              | (go_at_call 56; refine (backEof _ _ ea eb hea heb r4).mono ?_; rintro e w2 ⟨rfl, hx⟩; replace hE := hE.trans hx; (try replace r4 := r4.ext hx))
              | ((with_reducible show wpList _ _ _ (⟨none, Op.store 32 (.tmp 14) _, _, _, _, _⟩ :: _) _ _); refine wpl_store_box rfl _ _ _ rfl _ [.int .u16 ea, .int .u16 eb] rfl rfl (BoxF.new _ _ _) rfl (by kernel_rfl) (by rfl) ?_; intro w3 B3 O3; have hx := ((Ext.refl _).alloc _).on O3 (Nat.le_refl _); replace hE := hE.trans hx; (try replace r4 := r4.ext hx))
              | ((with_reducible show wpList _ _ _ (⟨some 141, _, _, _, _, _⟩ :: _) _ _); refine wpl_load_p rfl _ _ rfl _ 12 rfl [.int .u32 pi, .int .u16 px, .int .u16 py, .int .u16 pz] _ ((hbox.ext hE).part 4 rfl) Try.underlying34 rfl (by kernel_rfl) ?_)
              | (go_at_call 26; refine (appendPrep_c _ _ [] pi px py pz (Rd.nil _) (by simp) hpi hpx hpy hpz).mono ?_; rintro e w2 ⟨v5, rfl, ho, hx⟩; have r5 := ho.rd; clear ho; rw [List.nil_append] at r5; replace hE := hE.trans hx; (try replace r4 := r4.ext hx); (try replace B3 := B3.ext hx))
              | (go_at_call 58; refine (backPrep _ _ pi px py pz hpi hpx hpy hpz r5).mono ?_; rintro e w2 ⟨rfl, hx⟩; replace hE := hE.trans hx; (try replace r4 := r4.ext hx); (try replace B3 := B3.ext hx))
              | ((with_reducible show wpList _ _ _ (⟨none, Op.store 34 (.tmp 16) _, _, _, _, _⟩ :: _) _ _); refine wpl_store_box rfl _ _ _ rfl _ [.int .u32 pi, .int .u16 px, .int .u16 py, .int .u16 pz] rfl rfl (BoxF.new _ _ _) rfl (by kernel_rfl) (by rfl) ?_; intro w3 B4 O3; have hx := ((Ext.refl _).alloc _).on O3 (Nat.le_refl _); replace hE := hE.trans hx; (try replace r4 := r4.ext hx); (try replace B3 := B3.ext hx); have b0 := B4.at (j := 0) (by rfl); have b1 := B4.at (j := 1) (by rfl); have b2 := B4.at (j := 2) (by rfl); have b3 := B4.at (j := 3) (by rfl); (try clear c12); have c12 := hbox.at (j := 12) (by rfl) hE; (try clear c13); have c13 := hbox.at (j := 13) (by rfl) hE; (try clear c14); have c14 := hbox.at (j := 14) (by rfl) hE; (try clear c15); have c15 := hbox.at (j := 15) (by rfl) hE)
              | ((with_reducible show wpList _ _ _ (⟨some 148, _, _, _, _, _⟩ :: _) _ _); refine wpl_load_box rfl _ _ rfl _ rfl B3 Try.underlying32 rfl (by kernel_rfl) ?_)
              | ((with_reducible show wpList _ _ _ (⟨some 150, _, _, _, _, _⟩ :: _) _ _); refine wpl_load_p rfl _ _ rfl _ 10 rfl [.int .u16 ea, .int .u16 eb] _ ((hbox.ext hE).part 2 rfl) Try.underlying32 rfl (by kernel_rfl) ?_)
              | (go_at_call 42; refine (last_at _ _ _ _ 3 r4 (last_eof _ _ _ O3'.out)).mono ?_; rintro e wx ⟨rfl, rfl⟩)
              | fail)
            go_ret
            exact ⟨rfl, hx0.trans hE⟩
        · have c16 := hbox.at (j := 16) (by rfl) hE
          go_wp2_with (first
            | (go_at_call 20; refine (appendErr_bad _ _ ec es et (by omega) (by omega)).mono ?_; rintro e w2 ⟨v2, rfl, ho, hx⟩; clear ho; replace hE := hE.trans hx; (try clear c16); have c16 := hbox.at (j := 16) (by rfl) hE)
            | fail)
          by_cases hf : f.toList ≠ []
          · as_aux_lemma =>
            have hf0 : (f.toList == []) = false := by simpa using hf
            go_wp2_with (first
              | (go_at_call 22; refine (appendFile_good _ _ [] f (Rd.nil _) (by simp) (by omega) hf).mono ?_; rintro e w2 ⟨v3, rfl, ho, hx⟩; have r3 := ho.rd; clear ho; rw [List.nil_append] at r3; replace hE := hE.trans hx; (try clear c16); have c16 := hbox.at (j := 16) (by rfl) hE)
              | (go_at_call 52; refine (backFile _ _ f hf r3).mono ?_; rintro e w2 ⟨rfl, hx⟩; replace hE := hE.trans hx; (try replace r3 := r3.ext hx); (try clear c16); have c16 := hbox.at (j := 16) (by rfl) hE)
              | (go_at_call 41; refine (first_at _ _ _ _ 4 r3 (first_file _ _ O2.out)).mono ?_; rintro e wx ⟨rfl, rfl⟩)
              | ((with_reducible show wpList _ _ _ (⟨some 133, _, _, _, _, _⟩ :: _) _ _); refine wpl_load_p rfl _ _ rfl _ 10 rfl [.int .u16 ea, .int .u16 eb] _ ((hbox.ext hE).part 2 rfl) Try.underlying32 rfl (by kernel_rfl) ?_)
              | (go_at_call 24; refine (appendEof_c _ _ [] ea eb (Rd.nil _) (by simp) hea heb).mono ?_; rintro e w2 ⟨v4, rfl, ho, hx⟩; have r4 := ho.rd; clear ho; rw [List.nil_append] at r4; replace hE := hE.trans hx)
              | (go_at_call 56; refine (backEof _ _ ea eb hea heb r4).mono ?_; rintro e w2 ⟨rfl, hx⟩; replace hE := hE.trans hx; (try replace r4 := r4.ext hx))
              | ((with_reducible show wpList _ _ _ (⟨none, Op.store 32 (.tmp 14) _, _, _, _, _⟩ :: _) _ _); refine wpl_store_box rfl _ _ _ rfl _ [.int .u16 ea, .int .u16 eb] rfl rfl (BoxF.new _ _ _) rfl (by kernel_rfl) (by rfl) ?_; intro w3 B3 O3; have hx := ((Ext.refl _).alloc _).on O3 (Nat.le_refl _); replace hE := hE.trans hx; (try replace r4 := r4.ext hx))
              | ((with_reducible show wpList _ _ _ (⟨some 141, _, _, _, _, _⟩ :: _) _ _); refine wpl_load_p rfl _ _ rfl _ 12 rfl [.int .u32 pi, .int .u16 px, .int .u16 py, .int .u16 pz] _ ((hbox.ext hE).part 4 rfl) Try.underlying34 rfl (by kernel_rfl) ?_)
              | (go_at_call 26; refine (appendPrep_c _ _ [] pi px py pz (Rd.nil _) (by simp) hpi hpx hpy hpz).mono ?_; rintro e w2 ⟨v5, rfl, ho, hx⟩; have r5 := ho.rd; clear ho; rw [List.nil_append] at r5; replace hE := hE.trans hx; (try replace r4 := r4.ext hx); (try replace B3 := B3.ext hx))
              | (go_at_call 58; refine (backPrep _ _ pi px py pz hpi hpx hpy hpz r5).mono ?_; rintro e w2 ⟨rfl, hx⟩; replace hE := hE.trans hx; (try replace r4 := r4.ext hx); (try replace B3 := B3.ext hx))
              | ((with_reducible show wpList _ _ _ (⟨none, Op.store 34 (.tmp 16) _, _, _, _, _⟩ :: _) _ _); refine wpl_store_box rfl _ _ _ rfl _ [.int .u32 pi, .int .u16 px, .int .u16 py, .int .u16 pz] rfl rfl (BoxF.new _ _ _) rfl (by kernel_rfl) (by rfl) ?_; intro w3 B4 O3; have hx := ((Ext.refl _).alloc _).on O3 (Nat.le_refl _); replace hE := hE.trans hx; (try replace r4 := r4.ext hx); (try replace B3 := B3.ext hx); have b0 := B4.at (j := 0) (by rfl); have b1 := B4.at (j := 1) (by rfl); have b2 := B4.at (j := 2) (by rfl); have b3 := B4.at (j := 3) (by rfl); (try clear c12); have c12 := hbox.at (j := 12) (by rfl) hE; (try clear c13); have c13 := hbox.at (j := 13) (by rfl) hE; (try clear c14); have c14 := hbox.at (j := 14) (by rfl) hE; (try clear c15); have c15 := hbox.at (j := 15) (by rfl) hE)
              | ((with_reducible show wpList _ _ _ (⟨some 148, _, _, _, _, _⟩ :: _) _ _); refine wpl_load_box rfl _ _ rfl _ rfl B3 Try.underlying32 rfl (by kernel_rfl) ?_)
              | ((with_reducible show wpList _ _ _ (⟨some 150, _, _, _, _, _⟩ :: _) _ _); refine wpl_load_p rfl _ _ rfl _ 10 rfl [.int .u16 ea, .int .u16 eb] _ ((hbox.ext hE).part 2 rfl) Try.underlying32 rfl (by kernel_rfl) ?_)
              | (go_at_call 42; refine (last_at _ _ _ _ 3 r4 (last_eof _ _ _ O3'.out)).mono ?_; rintro e wx ⟨rfl, rfl⟩)
              | fail)
            go_ret
            exact ⟨rfl, hx0.trans hE⟩
          · as_aux_lemma =>
            obtain rfl : f = ⟨#[]⟩ := by
              have h0 : f.toList = [] := by simpa using hf
              rw [ByteArray.toList_eq] at h0
              obtain ⟨⟨d⟩⟩ := f
              simp at h0
              subst h0
              rfl
            go_wp2_with (first
              | (go_at_call 22; refine (appendFile_bad _ _).mono ?_; rintro e w2 ⟨v3, rfl, ho, hx⟩; clear ho; replace hE := hE.trans hx)
              | ((with_reducible show wpList _ _ _ (⟨some 133, _, _, _, _, _⟩ :: _) _ _); refine wpl_load_p rfl _ _ rfl _ 10 rfl [.int .u16 ea, .int .u16 eb] _ ((hbox.ext hE).part 2 rfl) Try.underlying32 rfl (by kernel_rfl) ?_)
              | (go_at_call 24; refine (appendEof_c _ _ [] ea eb (Rd.nil _) (by simp) hea heb).mono ?_; rintro e w2 ⟨v4, rfl, ho, hx⟩; have r4 := ho.rd; clear ho; rw [List.nil_append] at r4; replace hE := hE.trans hx)
              | (go_at_call 56; refine (backEof _ _ ea eb hea heb r4).mono ?_; rintro e w2 ⟨rfl, hx⟩; replace hE := hE.trans hx; (try replace r4 := r4.ext hx))
              | ((with_reducible show wpList _ _ _ (⟨none, Op.store 32 (.tmp 14) _, _, _, _, _⟩ :: _) _ _); refine wpl_store_box rfl _ _ _ rfl _ [.int .u16 ea, .int .u16 eb] rfl rfl (BoxF.new _ _ _) rfl (by kernel_rfl) (by rfl) ?_; intro w3 B3 O3; have hx := ((Ext.refl _).alloc _).on O3 (Nat.le_refl _); replace hE := hE.trans hx; (try replace r4 := r4.ext hx))
              | ((with_reducible show wpList _ _ _ (⟨some 141, _, _, _, _, _⟩ :: _) _ _); refine wpl_load_p rfl _ _ rfl _ 12 rfl [.int .u32 pi, .int .u16 px, .int .u16 py, .int .u16 pz] _ ((hbox.ext hE).part 4 rfl) Try.underlying34 rfl (by kernel_rfl) ?_)
              | (go_at_call 26; refine (appendPrep_c _ _ [] pi px py pz (Rd.nil _) (by simp) hpi hpx hpy hpz).mono ?_; rintro e w2 ⟨v5, rfl, ho, hx⟩; have r5 := ho.rd; clear ho; rw [List.nil_append] at r5; replace hE := hE.trans hx; (try replace r4 := r4.ext hx); (try replace B3 := B3.ext hx))
              | (go_at_call 58; refine (backPrep _ _ pi px py pz hpi hpx hpy hpz r5).mono ?_; rintro e w2 ⟨rfl, hx⟩; replace hE := hE.trans hx; (try replace r4 := r4.ext hx); (try replace B3 := B3.ext hx))
              | ((with_reducible show wpList _ _ _ (⟨none, Op.store 34 (.tmp 16) _, _, _, _, _⟩ :: _) _ _); refine wpl_store_box rfl _ _ _ rfl _ [.int .u32 pi, .int .u16 px, .int .u16 py, .int .u16 pz] rfl rfl (BoxF.new _ _ _) rfl (by kernel_rfl) (by rfl) ?_; intro w3 B4 O3; have hx := ((Ext.refl _).alloc _).on O3 (Nat.le_refl _); replace hE := hE.trans hx; (try replace r4 := r4.ext hx); (try replace B3 := B3.ext hx); have b0 := B4.at (j := 0) (by rfl); have b1 := B4.at (j := 1) (by rfl); have b2 := B4.at (j := 2) (by rfl); have b3 := B4.at (j := 3) (by rfl); (try clear c12); have c12 := hbox.at (j := 12) (by rfl) hE; (try clear c13); have c13 := hbox.at (j := 13) (by rfl) hE; (try clear c14); have c14 := hbox.at (j := 14) (by rfl) hE; (try clear c15); have c15 := hbox.at (j := 15) (by rfl) hE)
              | ((with_reducible show wpList _ _ _ (⟨some 148, _, _, _, _, _⟩ :: _) _ _); refine wpl_load_box rfl _ _ rfl _ rfl B3 Try.underlying32 rfl (by kernel_rfl) ?_)
              | ((with_reducible show wpList _ _ _ (⟨some 150, _, _, _, _, _⟩ :: _) _ _); refine wpl_load_p rfl _ _ rfl _ 10 rfl [.int .u16 ea, .int .u16 eb] _ ((hbox.ext hE).part 2 rfl) Try.underlying32 rfl (by kernel_rfl) ?_)
              | (go_at_call 42; refine (last_at _ _ _ _ 3 r4 (last_eof _ _ _ O3'.out)).mono ?_; rintro e wx ⟨rfl, rfl⟩)
              | fail)
            go_ret
            exact ⟨rfl, hx0.trans hE⟩
      | false =>
        as_aux_lemma =>
        go_wp2_with (first
          | ((with_reducible show wpList _ _ _ (⟨some 73, _, _, _, _, _⟩ :: _) _ _); refine wpl_load_p rfl _ _ rfl _ 7 rfl [.int .u16 ec, .string es, .string et] _ ((hbox.ext hE).part 3 rfl) Try.underlying30 rfl (by kernel_rfl) ?_)
          | (go_at_call 16; refine (appendOk_good _ _ _ [] trk c a i st wn info false (Rd.nil _) (HT.out.ext (hx0.trans hE)) (by simp) (by omega) (by omega) ha hii hst hwn hgood).mono ?_; rintro e w2 ⟨v1, rfl, ho, hx⟩; have r1 := ho.rd; clear ho; rw [List.nil_append] at r1; replace hE := hE.trans hx; (try clear c6); have c6 := hbox.at (j := 6) (by rfl) hE)
          | (go_at_call 50; refine (backOk _ _ c a i st wn info trk false ha hii hst hwn s1 s2 hgood r1).mono ?_; rintro e w2 ⟨vt1, rfl, T1, hx⟩; obtain ⟨A1, p1, rfl, _, _, _, _⟩ := id T1; replace hE := hE.trans hx; (try replace r1 := r1.ext hx); (try clear c6); have c6 := hbox.at (j := 6) (by rfl) hE)
          | ((with_reducible show wpList _ _ _ (⟨none, Op.store 28 (.tmp 7) _, _, _, _, _⟩ :: _) _ _); refine wpl_store_box rfl _ _ _ rfl _ [.int .u64 a, .int .u64 i, .int .u16 st, .int .u16 wn, .string info, .slice A1 trk.length p1] rfl rfl (BoxF.new _ _ _) rfl (by kernel_rfl) (by rfl) ?_; intro w3 B1 O3; have hx := ((Ext.refl _).alloc _).on O3 (Nat.le_refl _); replace hE := hE.trans hx; (try replace r1 := r1.ext hx); (try replace T1 := T1.ext hx); (try clear c6); have c6 := hbox.at (j := 6) (by rfl) hE)
          | ((with_reducible show wpList _ _ _ (⟨some 40, _, _, _, _, _⟩ :: _) _ _); refine wpl_load_box rfl _ _ rfl _ rfl B1 Try.underlying28 rfl (by kernel_rfl) ?_)
          | ((with_reducible show wpList _ _ _ (⟨some 42, _, _, _, _, _⟩ :: _) _ _); refine wpl_load_p rfl _ _ rfl _ 0 rfl [.int .u64 a, .int .u64 i, .int .u16 st, .int .u16 wn, .string info, .slice A trk.length cap] _ ((hbox.ext hE).part 6 rfl) Try.underlying28 rfl (by kernel_rfl) ?_)
          | (go_at_call 54; refine (sameOk_c _ a i st wn info _ _ trk T1 (HT.out.ext (hx0.trans hE))).mono ?_; rintro e w2 ⟨rfl, hx⟩; replace hE := hE.trans hx; (try replace r1 := r1.ext hx); (try clear c6); have c6 := hbox.at (j := 6) (by rfl) hE)
          | (go_at_call 41; refine (first_at _ _ _ _ 1 r1 (first_ok _ _ _ _ _ _)).mono ?_; rintro e wx ⟨rfl, rfl⟩)
          | fail)
        clear r1 T1 B1 hlen
        by_cases h5 : es.size = 5
        · have c16 := hbox.at (j := 16) (by rfl) hE
          go_wp2_with (first
            | (go_at_call 20; refine (appendErr_good _ _ [] ec es et (Rd.nil _) (by simp) h5 (by omega) hec).mono ?_; rintro e w2 ⟨v2, rfl, ho, hx⟩; have r2 := ho.rd; clear ho; rw [List.nil_append] at r2; replace hE := hE.trans hx; (try clear c16); have c16 := hbox.at (j := 16) (by rfl) hE)
            | (go_at_call 51; refine (backErr _ _ ec es et hec h5 s4 r2).mono ?_; rintro e w2 ⟨rfl, hx⟩; replace hE := hE.trans hx; (try replace r2 := r2.ext hx); (try clear c16); have c16 := hbox.at (j := 16) (by rfl) hE)
            | ((with_reducible show wpList _ _ _ (⟨none, Op.store 30 (.tmp 9) _, _, _, _, _⟩ :: _) _ _); refine wpl_store_box rfl _ _ _ rfl _ [.int .u16 ec, .string es, .string et] rfl rfl (BoxF.new _ _ _) rfl (by kernel_rfl) (by rfl) ?_; intro w3 B2 O3; have hx := ((Ext.refl _).alloc _).on O3 (Nat.le_refl _); replace hE := hE.trans hx; (try replace r2 := r2.ext hx); (try clear c16); have c16 := hbox.at (j := 16) (by rfl) hE)
            | ((with_reducible show wpList _ _ _ (⟨some 84, _, _, _, _, _⟩ :: _) _ _); refine wpl_load_box rfl _ _ rfl _ rfl B2 Try.underlying30 rfl (by kernel_rfl) ?_)
            | ((with_reducible show wpList _ _ _ (⟨some 86, _, _, _, _, _⟩ :: _) _ _); refine wpl_load_p rfl _ _ rfl _ 7 rfl [.int .u16 ec, .string es, .string et] _ ((hbox.ext hE).part 3 rfl) Try.underlying30 rfl (by kernel_rfl) ?_)
            | ((with_reducible show Calls _ _ #[v2, _] _ _); go_at_call 41; refine (first_at _ _ _ _ 2 r2 (first_err _ _ _ _)).mono ?_; rintro e wx ⟨rfl, rfl⟩)
            | ((with_reducible show Calls _ _ #[v2, _] _ _); go_at_call 42; refine (last_at _ _ _ _ 2 r2 (last_err _ _ _ _)).mono ?_; rintro e wx ⟨rfl, rfl⟩)
            | fail)
          by_cases hf : f.toList ≠ []
          · as_aux_lemma =>
            have hf0 : (f.toList == []) = false := by simpa using hf
            go_wp2_with (first
              | (go_at_call 22; refine (appendFile_good _ _ [] f (Rd.nil _) (by simp) (by omega) hf).mono ?_; rintro e w2 ⟨v3, rfl, ho, hx⟩; have r3 := ho.rd; clear ho; rw [List.nil_append] at r3; replace hE := hE.trans hx; (try clear c16); have c16 := hbox.at (j := 16) (by rfl) hE)
              | (go_at_call 52; refine (backFile _ _ f hf r3).mono ?_; rintro e w2 ⟨rfl, hx⟩; replace hE := hE.trans hx; (try replace r3 := r3.ext hx); (try clear c16); have c16 := hbox.at (j := 16) (by rfl) hE)
              | (go_at_call 41; refine (first_at _ _ _ _ 4 r3 (first_file _ _ O2.out)).mono ?_; rintro e wx ⟨rfl, rfl⟩)
              | ((with_reducible show wpList _ _ _ (⟨some 133, _, _, _, _, _⟩ :: _) _ _); refine wpl_load_p rfl _ _ rfl _ 10 rfl [.int .u16 ea, .int .u16 eb] _ ((hbox.ext hE).part 2 rfl) Try.underlying32 rfl (by kernel_rfl) ?_)
              | (go_at_call 24; refine (appendEof_c _ _ [] ea eb (Rd.nil _) (by simp) hea heb).mono ?_; rintro e w2 ⟨v4, rfl, ho, hx⟩; have r4 := ho.rd; clear ho; rw [List.nil_append] at r4; replace hE := hE.trans hx)
              | (go_at_call 56; refine (backEof _ _ ea eb hea heb r4).mono ?_; rintro e w2 ⟨rfl, hx⟩; replace hE := hE.trans hx; (try replace r4 := r4.ext hx))
              | ((with_reducible show wpList _ _ _ (⟨none, Op.store 32 (.tmp 14) _, _, _, _, _⟩ :: _) _ _); refine wpl_store_box rfl _ _ _ rfl _ [.int .u16 ea, .int .u16 eb] rfl rfl (BoxF.new _ _ _) rfl (by kernel_rfl) (by rfl) ?_; intro w3 B3 O3; have hx := ((Ext.refl _).alloc _).on O3 (Nat.le_refl _); replace hE := hE.trans hx; (try replace r4 := r4.ext hx))
              | ((with_reducible show wpList _ _ _ (⟨some 141, _, _, _, _, _⟩ :: _) _ _); refine wpl_load_p rfl _ _ rfl _ 12 rfl [.int .u32 pi, .int .u16 px, .int .u16 py, .int .u16 pz] _ ((hbox.ext hE).part 4 rfl) Try.underlying34 rfl (by kernel_rfl) ?_)
              | (go_at_call 26; refine (appendPrep_c _ _ [] pi px py pz (Rd.nil _) (by simp) hpi hpx hpy hpz).mono ?_; rintro e w2 ⟨v5, rfl, ho, hx⟩; have r5 := ho.rd; clear ho; rw [List.nil_append] at r5; replace hE := hE.trans hx; (try replace r4 := r4.ext hx); (try replace B3 := B3.ext hx))
              | (go_at_call 58; refine (backPrep _ _ pi px py pz hpi hpx hpy hpz r5).mono ?_; rintro e w2 ⟨rfl, hx⟩; replace hE := hE.trans hx; (try replace r4 := r4.ext hx); (try replace B3 := B3.ext hx))
              | ((with_reducible show wpList _ _ _ (⟨none, Op.store 34 (.tmp 16) _, _, _, _, _⟩ :: _) _ _); refine wpl_store_box rfl _ _ _ rfl _ [.int .u32 pi, .int .u16 px, .int .u16 py, .int .u16 pz] rfl rfl (BoxF.new _ _ _) rfl (by kernel_rfl) (by rfl) ?_; intro w3 B4 O3; have hx := ((Ext.refl _).alloc _).on O3 (Nat.le_refl _); replace hE := hE.trans hx; (try replace r4 := r4.ext hx); (try replace B3 := B3.ext hx); have b0 := B4.at (j := 0) (by rfl); have b1 := B4.at (j := 1) (by rfl); have b2 := B4.at (j := 2) (by rfl); have b3 := B4.at (j := 3) (by rfl); (try clear c12); have c12 := hbox.at (j := 12) (by rfl) hE; (try clear c13); have c13 := hbox.at (j := 13) (by rfl) hE; (try clear c14); have c14 := hbox.at (j := 14) (by rfl) hE; (try clear c15); have c15 := hbox.at (j := 15) (by rfl) hE)
              | ((with_reducible show wpList _ _ _ (⟨some 148, _, _, _, _, _⟩ :: _) _ _); refine wpl_load_box rfl _ _ rfl _ rfl B3 Try.underlying32 rfl (by kernel_rfl) ?_)
              | ((with_reducible show wpList _ _ _ (⟨some 150, _, _, _, _, _⟩ :: _) _ _); refine wpl_load_p rfl _ _ rfl _ 10 rfl [.int .u16 ea, .int .u16 eb] _ ((hbox.ext hE).part 2 rfl) Try.underlying32 rfl (by kernel_rfl) ?_)
              | (go_at_call 42; refine (last_at _ _ _ _ 3 r4 (last_eof _ _ _ O3'.out)).mono ?_; rintro e wx ⟨rfl, rfl⟩)
              | fail)
            go_ret
            exact ⟨rfl, hx0.trans hE⟩
          · as_aux_lemma =>
            obtain rfl : f = ⟨#[]⟩ := by
              have h0 : f.toList = [] := by simpa using hf
              rw [ByteArray.toList_eq] at h0
              obtain ⟨⟨d⟩⟩ := f
              simp at h0
              subst h0
              rfl
            go_wp2_with (first
              | (go_at_call 22; refine (appendFile_bad _ _).mono ?_; rintro e w2 ⟨v3, rfl, ho, hx⟩; clear ho; replace hE := hE.trans hx)
              | ((with_reducible show wpList _ _ _ (⟨some 133, _, _, _, _, _⟩ :: _) _ _); refine wpl_load_p rfl _ _ rfl _ 10 rfl [.int .u16 ea, .int .u16 eb] _ ((hbox.ext hE).part 2 rfl) Try.underlying32 rfl (by kernel_rfl) ?_)
              | (go_at_call 24; refine (appendEof_c _ _ [] ea eb (Rd.nil _) (by simp) hea heb).mono ?_; rintro e w2 ⟨v4, rfl, ho, hx⟩; have r4 := ho.rd; clear ho; rw [List.nil_append] at r4; replace hE := hE.trans hx)
              | (go_at_call 56; refine (backEof _ _ ea eb hea heb r4).mono ?_; rintro e w2 ⟨rfl, hx⟩; replace hE := hE.trans hx; (try replace r4 := r4.ext hx))
              | ((with_reducible show wpList _ _ _ (⟨none, Op.store 32 (.tmp 14) _, _, _, _, _⟩ :: _) _ _); refine wpl_store_box rfl _ _ _ rfl _ [.int .u16 ea, .int .u16 eb] rfl rfl (BoxF.new _ _ _) rfl (by kernel_rfl) (by rfl) ?_; intro w3 B3 O3; have hx := ((Ext.refl _).alloc _).on O3 (Nat.le_refl _); replace hE := hE.trans hx; (try replace r4 := r4.ext hx))
              | ((with_reducible show wpList _ _ _ (⟨some 141, _, _, _, _, _⟩ :: _) _ _); refine wpl_load_p rfl _ _ rfl _ 12 rfl [.int .u32 pi, .int .u16 px, .int .u16 py, .int .u16 pz] _ ((hbox.ext hE).part 4 rfl) Try.underlying34 rfl (by kernel_rfl) ?_)
              | (go_at_call 26; refine (appendPrep_c _ _ [] pi px py pz (Rd.nil _) (by simp) hpi hpx hpy hpz).mono ?_; rintro e w2 ⟨v5, rfl, ho, hx⟩; have r5 := ho.rd; clear ho; rw [List.nil_append] at r5; replace hE := hE.trans hx; (try replace r4 := r4.ext hx); (try replace B3 := B3.ext hx))
              | (go_at_call 58; refine (backPrep _ _ pi px py pz hpi hpx hpy hpz r5).mono ?_; rintro e w2 ⟨rfl, hx⟩; replace hE := hE.trans hx; (try replace r4 := r4.ext hx); (try replace B3 := B3.ext hx))
              | ((with_reducible show wpList _ _ _ (⟨none, Op.store 34 (.tmp 16) _, _, _, _, _⟩ :: _) _ _); refine wpl_store_box rfl _ _ _ rfl _ [.int .u32 pi, .int .u16 px, .int .u16 py, .int .u16 pz] rfl rfl (BoxF.new _ _ _) rfl (by kernel_rfl) (by rfl) ?_; intro w3 B4 O3; have hx := ((Ext.refl _).alloc _).on O3 (Nat.le_refl _); replace hE := hE.trans hx; (try replace r4 := r4.ext hx); (try replace B3 := B3.ext hx); have b0 := B4.at (j := 0) (by rfl); have b1 := B4.at (j := 1) (by rfl); have b2 := B4.at (j := 2) (by rfl); have b3 := B4.at (j := 3) (by rfl); (try clear c12); have c12 := hbox.at (j := 12) (by rfl) hE; (try clear c13); have c13 := hbox.at (j := 13) (by rfl) hE; (try clear c14); have c14 := hbox.at (j := 14) (by rfl) hE; (try clear c15); have c15 := hbox.at (j := 15) (by rfl) hE)
              | ((with_reducible show wpList _ _ _ (⟨some 148, _, _, _, _, _⟩ :: _) _ _); refine wpl_load_box rfl _ _ rfl _ rfl B3 Try.underlying32 rfl (by kernel_rfl) ?_)
              | ((with_reducible show wpList _ _ _ (⟨some 150, _, _, _, _, _⟩ :: _) _ _); refine wpl_load_p rfl _ _ rfl _ 10 rfl [.int .u16 ea, .int .u16 eb] _ ((hbox.ext hE).part 2 rfl) Try.underlying32 rfl (by kernel_rfl) ?_)
              | (go_at_call 42; refine (last_at _ _ _ _ 3 r4 (last_eof _ _ _ O3'.out)).mono ?_; rintro e wx ⟨rfl, rfl⟩)
              | fail)
            go_ret
            exact ⟨rfl, hx0.trans hE⟩
        · have c16 := hbox.at (j := 16) (by rfl) hE
          go_wp2_with (first
            | (go_at_call 20; refine (appendErr_bad _ _ ec es et (by omega) (by omega)).mono ?_; rintro e w2 ⟨v2, rfl, ho, hx⟩; clear ho; replace hE := hE.trans hx; (try clear c16); have c16 := hbox.at (j := 16) (by rfl) hE)
            | fail)
          by_cases hf : f.toList ≠ []
          · as_aux_lemma =>
            have hf0 : (f.toList == []) = false := by simpa using hf
            go_wp2_with (first
              | (go_at_call 22; refine (appendFile_good _ _ [] f (Rd.nil _) (by simp) (by omega) hf).mono ?_; rintro e w2 ⟨v3, rfl, ho, hx⟩; have r3 := ho.rd; clear ho; rw [List.nil_append] at r3; replace hE := hE.trans hx; (try clear c16); have c16 := hbox.at (j := 16) (by rfl) hE)
              | (go_at_call 52; refine (backFile _ _ f hf r3).mono ?_; rintro e w2 ⟨rfl, hx⟩; replace hE := hE.trans hx; (try replace r3 := r3.ext hx); (try clear c16); have c16 := hbox.at (j := 16) (by rfl) hE)
              | (go_at_call 41; refine (first_at _ _ _ _ 4 r3 (first_file _ _ O2.out)).mono ?_; rintro e wx ⟨rfl, rfl⟩)
              | ((with_reducible show wpList _ _ _ (⟨some 133, _, _, _, _, _⟩ :: _) _ _); refine wpl_load_p rfl _ _ rfl _ 10 rfl [.int .u16 ea, .int .u16 eb] _ ((hbox.ext hE).part 2 rfl) Try.underlying32 rfl (by kernel_rfl) ?_)
              | (go_at_call 24; refine (appendEof_c _ _ [] ea eb (Rd.nil _) (by simp) hea heb).mono ?_; rintro e w2 ⟨v4, rfl, ho, hx⟩; have r4 := ho.rd; clear ho; rw [List.nil_append] at r4; replace hE := hE.trans hx)
              | (go_at_call 56; refine (backEof _ _ ea eb hea heb r4).mono ?_; rintro e w2 ⟨rfl, hx⟩; replace hE := hE.trans hx; (try replace r4 := r4.ext hx))
              | ((with_reducible show wpList _ _ _ (⟨none, Op.store 32 (.tmp 14) _, _, _, _, _⟩ :: _) _ _); refine wpl_store_box rfl _ _ _ rfl _ [.int .u16 ea, .int .u16 eb] rfl rfl (BoxF.new _ _ _) rfl (by kernel_rfl) (by rfl) ?_; intro w3 B3 O3; have hx := ((Ext.refl _).alloc _).on O3 (Nat.le_refl _); replace hE := hE.trans hx; (try replace r4 := r4.ext hx))
              | ((with_reducible show wpList _ _ _ (⟨some 141, _, _, _, _, _⟩ :: _) _ _); refine wpl_load_p rfl _ _ rfl _ 12 rfl [.int .u32 pi, .int .u16 px, .int .u16 py, .int .u16 pz] _ ((hbox.ext hE).part 4 rfl) Try.underlying34 rfl (by kernel_rfl) ?_)
              | (go_at_call 26; refine (appendPrep_c _ _ [] pi px py pz (Rd.nil _) (by simp) hpi hpx hpy hpz).mono ?_; rintro e w2 ⟨v5, rfl, ho, hx⟩; have r5 := ho.rd; clear ho; rw [List.nil_append] at r5; replace hE := hE.trans hx; (try replace r4 := r4.ext hx); (try replace B3 := B3.ext hx))
              | (go_at_call 58; refine (backPrep _ _ pi px py pz hpi hpx hpy hpz r5).mono ?_; rintro e w2 ⟨rfl, hx⟩; replace hE := hE.trans hx; (try replace r4 := r4.ext hx); (try replace B3 := B3.ext hx))
              | ((with_reducible show wpList _ _ _ (⟨none, Op.store 34 (.tmp 16) _, _, _, _, _⟩ :: _) _ _); refine wpl_store_box rfl _ _ _ rfl _ [.int .u32 pi, .int .u16 px, .int .u16 py, .int .u16 pz] rfl rfl (BoxF.new _ _ _) rfl (by kernel_rfl) (by rfl) ?_; intro w3 B4 O3; have hx := ((Ext.refl _).alloc _).on O3 (Nat.le_refl _); replace hE := hE.trans hx; (try replace r4 := r4.ext hx); (try replace B3 := B3.ext hx); have b0 := B4.at (j := 0) (by rfl); have b1 := B4.at (j := 1) (by rfl); have b2 := B4.at (j := 2) (by rfl); have b3 := B4.at (j := 3) (by rfl); (try clear c12); have c12 := hbox.at (j := 12) (by rfl) hE; (try clear c13); have c13 := hbox.at (j := 13) (by rfl) hE; (try clear c14); have c14 := hbox.at (j := 14) (by rfl) hE; (try clear c15); have c15 := hbox.at (j := 15) (by rfl) hE)
              | ((with_reducible show wpList _ _ _ (⟨some 148, _, _, _, _, _⟩ :: _) _ _); refine wpl_load_box rfl _ _ rfl _ rfl B3 Try.underlying32 rfl (by kernel_rfl) ?_)
              | ((with_reducible show wpList _ _ _ (⟨some 150, _, _, _, _, _⟩ :: _) _ _); refine wpl_load_p rfl _ _ rfl _ 10 rfl [.int .u16 ea, .int .u16 eb] _ ((hbox.ext hE).part 2 rfl) Try.underlying32 rfl (by kernel_rfl) ?_)
              | (go_at_call 42; refine (last_at _ _ _ _ 3 r4 (last_eof _ _ _ O3'.out)).mono ?_; rintro e wx ⟨rfl, rfl⟩)
              | fail)
            go_ret
            exact ⟨rfl, hx0.trans hE⟩
          · as_aux_lemma =>
            obtain rfl : f = ⟨#[]⟩ := by
              have h0 : f.toList = [] := by simpa using hf
              rw [ByteArray.toList_eq] at h0
              obtain ⟨⟨d⟩⟩ := f
              simp at h0
              subst h0
              rfl
            go_wp2_with (first
              | (go_at_call 22; refine (appendFile_bad _ _).mono ?_; rintro e w2 ⟨v3, rfl, ho, hx⟩; clear ho; replace hE := hE.trans hx)
              | ((with_reducible show wpList _ _ _ (⟨some 133, _, _, _, _, _⟩ :: _) _ _); refine wpl_load_p rfl _ _ rfl _ 10 rfl [.int .u16 ea, .int .u16 eb] _ ((hbox.ext hE).part 2 rfl) Try.underlying32 rfl (by kernel_rfl) ?_)
              | (go_at_call 24; refine (appendEof_c _ _ [] ea eb (Rd.nil _) (by simp) hea heb).mono ?_; rintro e w2 ⟨v4, rfl, ho, hx⟩; have r4 := ho.rd; clear ho; rw [List.nil_append] at r4; replace hE := hE.trans hx)
              | (go_at_call 56; refine (backEof _ _ ea eb hea heb r4).mono ?_; rintro e w2 ⟨rfl, hx⟩; replace hE := hE.trans hx; (try replace r4 := r4.ext hx))
              | ((with_reducible show wpList _ _ _ (⟨none, Op.store 32 (.tmp 14) _, _, _, _, _⟩ :: _) _ _); refine wpl_store_box rfl _ _ _ rfl _ [.int .u16 ea, .int .u16 eb] rfl rfl (BoxF.new _ _ _) rfl (by kernel_rfl) (by rfl) ?_; intro w3 B3 O3; have hx := ((Ext.refl _).alloc _).on O3 (Nat.le_refl _); replace hE := hE.trans hx; (try replace r4 := r4.ext hx))
              | ((with_reducible show wpList _ _ _ (⟨some 141, _, _, _, _, _⟩ :: _) _ _); refine wpl_load_p rfl _ _ rfl _ 12 rfl [.int .u32 pi, .int .u16 px, .int .u16 py, .int .u16 pz] _ ((hbox.ext hE).part 4 rfl) Try.underlying34 rfl (by kernel_rfl) ?_)
              | (go_at_call 26; refine (appendPrep_c _ _ [] pi px py pz (Rd.nil _) (by simp) hpi hpx hpy hpz).mono ?_; rintro e w2 ⟨v5, rfl, ho, hx⟩; have r5 := ho.rd; clear ho; rw [List.nil_append] at r5; replace hE := hE.trans hx; (try replace r4 := r4.ext hx); (try replace B3 := B3.ext hx))
              | (go_at_call 58; refine (backPrep _ _ pi px py pz hpi hpx hpy hpz r5).mono ?_; rintro e w2 ⟨rfl, hx⟩; replace hE := hE.trans hx; (try replace r4 := r4.ext hx); (try replace B3 := B3.ext hx))
              | ((with_reducible show wpList _ _ _ (⟨none, Op.store 34 (.tmp 16) _, _, _, _, _⟩ :: _) _ _); refine wpl_store_box rfl _ _ _ rfl _ [.int .u32 pi, .int .u16 px, .int .u16 py, .int .u16 pz] rfl rfl (BoxF.new _ _ _) rfl (by kernel_rfl) (by rfl) ?_; intro w3 B4 O3; have hx := ((Ext.refl _).alloc _).on O3 (Nat.le_refl _); replace hE := hE.trans hx; (try replace r4 := r4.ext hx); (try replace B3 := B3.ext hx); have b0 := B4.at (j := 0) (by rfl); have b1 := B4.at (j := 1) (by rfl); have b2 := B4.at (j := 2) (by rfl); have b3 := B4.at (j := 3) (by rfl); (try clear c12); have c12 := hbox.at (j := 12) (by rfl) hE; (try clear c13); have c13 := hbox.at (j := 13) (by rfl) hE; (try clear c14); have c14 := hbox.at (j := 14) (by rfl) hE; (try clear c15); have c15 := hbox.at (j := 15) (by rfl) hE)
              | ((with_reducible show wpList _ _ _ (⟨some 148, _, _, _, _, _⟩ :: _) _ _); refine wpl_load_box rfl _ _ rfl _ rfl B3 Try.underlying32 rfl (by kernel_rfl) ?_)
              | ((with_reducible show wpList _ _ _ (⟨some 150, _, _, _, _, _⟩ :: _) _ _); refine wpl_load_p rfl _ _ rfl _ 10 rfl [.int .u16 ea, .int .u16 eb] _ ((hbox.ext hE).part 2 rfl) Try.underlying32 rfl (by kernel_rfl) ?_)
              | (go_at_call 42; refine (last_at _ _ _ _ 3 r4 (last_eof _ _ _ O3'.out)).mono ?_; rintro e wx ⟨rfl, rfl⟩)
              | fail)
            go_ret
            exact ⟨rfl, hx0.trans hE⟩
    · have hp : 0 < trk.length := List.length_pos_iff.2 fun e => hgood (.inl e)
      have htr : trackB c st = false := by simpa using fun e => hgood (.inr e)
      as_aux_lemma =>
      go_wp2_with (first
        | ((with_reducible show wpList _ _ _ (⟨some 73, _, _, _, _, _⟩ :: _) _ _); refine wpl_load_p rfl _ _ rfl _ 7 rfl [.int .u16 ec, .string es, .string et] _ ((hbox.ext hE).part 3 rfl) Try.underlying30 rfl (by kernel_rfl) ?_)
        | (go_at_call 16; refine (appendOk_bad _ _ _ trk c a i st wn info _ (HT.out.ext (hx0.trans hE)) hp htr).mono ?_; rintro e w2 ⟨v1, rfl, ho, hx⟩; clear ho; replace hE := hE.trans hx)
        | fail)
      by_cases h5 : es.size = 5
      · have c16 := hbox.at (j := 16) (by rfl) hE
        go_wp2_with (first
          | (go_at_call 20; refine (appendErr_good _ _ [] ec es et (Rd.nil _) (by simp) h5 (by omega) hec).mono ?_; rintro e w2 ⟨v2, rfl, ho, hx⟩; have r2 := ho.rd; clear ho; rw [List.nil_append] at r2; replace hE := hE.trans hx; (try clear c16); have c16 := hbox.at (j := 16) (by rfl) hE)
          | (go_at_call 51; refine (backErr _ _ ec es et hec h5 s4 r2).mono ?_; rintro e w2 ⟨rfl, hx⟩; replace hE := hE.trans hx; (try replace r2 := r2.ext hx); (try clear c16); have c16 := hbox.at (j := 16) (by rfl) hE)
          | ((with_reducible show wpList _ _ _ (⟨none, Op.store 30 (.tmp 9) _, _, _, _, _⟩ :: _) _ _); refine wpl_store_box rfl _ _ _ rfl _ [.int .u16 ec, .string es, .string et] rfl rfl (BoxF.new _ _ _) rfl (by kernel_rfl) (by rfl) ?_; intro w3 B2 O3; have hx := ((Ext.refl _).alloc _).on O3 (Nat.le_refl _); replace hE := hE.trans hx; (try replace r2 := r2.ext hx); (try clear c16); have c16 := hbox.at (j := 16) (by rfl) hE)
          | ((with_reducible show wpList _ _ _ (⟨some 84, _, _, _, _, _⟩ :: _) _ _); refine wpl_load_box rfl _ _ rfl _ rfl B2 Try.underlying30 rfl (by kernel_rfl) ?_)
          | ((with_reducible show wpList _ _ _ (⟨some 86, _, _, _, _, _⟩ :: _) _ _); refine wpl_load_p rfl _ _ rfl _ 7 rfl [.int .u16 ec, .string es, .string et] _ ((hbox.ext hE).part 3 rfl) Try.underlying30 rfl (by kernel_rfl) ?_)
          | ((with_reducible show Calls _ _ #[v2, _] _ _); go_at_call 41; refine (first_at _ _ _ _ 2 r2 (first_err _ _ _ _)).mono ?_; rintro e wx ⟨rfl, rfl⟩)
          | ((with_reducible show Calls _ _ #[v2, _] _ _); go_at_call 42; refine (last_at _ _ _ _ 2 r2 (last_err _ _ _ _)).mono ?_; rintro e wx ⟨rfl, rfl⟩)
          | fail)
        by_cases hf : f.toList ≠ []
        · as_aux_lemma =>
          have hf0 : (f.toList == []) = false := by simpa using hf
          go_wp2_with (first
            | (go_at_call 22; refine (appendFile_good _ _ [] f (Rd.nil _) (by simp) (by omega) hf).mono ?_; rintro e w2 ⟨v3, rfl, ho, hx⟩; have r3 := ho.rd; clear ho; rw [List.nil_append] at r3; replace hE := hE.trans hx; (try clear c16); have c16 := hbox.at (j := 16) (by rfl) hE)
            | (go_at_call 52; refine (backFile _ _ f hf r3).mono ?_; rintro e w2 ⟨rfl, hx⟩; replace hE := hE.trans hx; (try replace r3 := r3.ext hx); (try clear c16); have c16 := hbox.at (j := 16) (by rfl) hE)
            | (go_at_call 41; refine (first_at _ _ _ _ 4 r3 (first_file _ _ O2.out)).mono ?_; rintro e wx ⟨rfl, rfl⟩)
            | ((with_reducible show wpList _ _ _ (⟨some 133, _, _, _, _, _⟩ :: _) _ _); refine wpl_load_p rfl _ _ rfl _ 10 rfl [.int .u16 ea, .int .u16 eb] _ ((hbox.ext hE).part 2 rfl) Try.underlying32 rfl (by kernel_rfl) ?_)
            | (go_at_call 24; refine (appendEof_c _ _ [] ea eb (Rd.nil _) (by simp) hea heb).mono ?_; rintro e w2 ⟨v4, rfl, ho, hx⟩; have r4 := ho.rd; clear ho; rw [List.nil_append] at r4; replace hE := hE.trans hx)
            | (go_at_call 56; refine (backEof _ _ ea eb hea heb r4).mono ?_; rintro e w2 ⟨rfl, hx⟩; replace hE := hE.trans hx; (try replace r4 := r4.ext hx))
            | ((with_reducible show wpList _ _ _ (⟨none, Op.store 32 (.tmp 14) _, _, _, _, _⟩ :: _) _ _); refine wpl_store_box rfl _ _ _ rfl _ [.int .u16 ea, .int .u16 eb] rfl rfl (BoxF.new _ _ _) rfl (by kernel_rfl) (by rfl) ?_; intro w3 B3 O3; have hx := ((Ext.refl _).alloc _).on O3 (Nat.le_refl _); replace hE := hE.trans hx; (try replace r4 := r4.ext hx))
            | ((with_reducible show wpList _ _ _ (⟨some 141, _, _, _, _, _⟩ :: _) _ _); refine wpl_load_p rfl _ _ rfl _ 12 rfl [.int .u32 pi, .int .u16 px, .int .u16 py, .int .u16 pz] _ ((hbox.ext hE).part 4 rfl) Try.underlying34 rfl (by kernel_rfl) ?_)
            | (go_at_call 26; refine (appendPrep_c _ _ [] pi px py pz (Rd.nil _) (by simp) hpi hpx hpy hpz).mono ?_; rintro e w2 ⟨v5, rfl, ho, hx⟩; have r5 := ho.rd; clear ho; rw [List.nil_append] at r5; replace hE := hE.trans hx; (try replace r4 := r4.ext hx); (try replace B3 := B3.ext hx))
            | (go_at_call 58; refine (backPrep _ _ pi px py pz hpi hpx hpy hpz r5).mono ?_; rintro e w2 ⟨rfl, hx⟩; replace hE := hE.trans hx; (try replace r4 := r4.ext hx); (try replace B3 := B3.ext hx))
            | ((with_reducible show wpList _ _ _ (⟨none, Op.store 34 (.tmp 16) _, _, _, _, _⟩ :: _) _ _); refine wpl_store_box rfl _ _ _ rfl _ [.int .u32 pi, .int .u16 px, .int .u16 py, .int .u16 pz] rfl rfl (BoxF.new _ _ _) rfl (by kernel_rfl) (by rfl) ?_; intro w3 B4 O3; have hx := ((Ext.refl _).alloc _).on O3 (Nat.le_refl _); replace hE := hE.trans hx; (try replace r4 := r4.ext hx); (try replace B3 := B3.ext hx); have b0 := B4.at (j := 0) (by rfl); have b1 := B4.at (j := 1) (by rfl); have b2 := B4.at (j := 2) (by rfl); have b3 := B4.at (j := 3) (by rfl); (try clear c12); have c12 := hbox.at (j := 12) (by rfl) hE; (try clear c13); have c13 := hbox.at (j := 13) (by rfl) hE; (try clear c14); have c14 := hbox.at (j := 14) (by rfl) hE; (try clear c15); have c15 := hbox.at (j := 15) (by rfl) hE)
            | ((with_reducible show wpList _ _ _ (⟨some 148, _, _, _, _, _⟩ :: _) _ _); refine wpl_load_box rfl _ _ rfl _ rfl B3 Try.underlying32 rfl (by kernel_rfl) ?_)
            | ((with_reducible show wpList _ _ _ (⟨some 150, _, _, _, _, _⟩ :: _) _ _); refine wpl_load_p rfl _ _ rfl _ 10 rfl [.int .u16 ea, .int .u16 eb] _ ((hbox.ext hE).part 2 rfl) Try.underlying32 rfl (by kernel_rfl) ?_)
            | (go_at_call 42; refine (last_at _ _ _ _ 3 r4 (last_eof _ _ _ O3'.out)).mono ?_; rintro e wx ⟨rfl, rfl⟩)
            | fail)
          go_ret
          exact ⟨rfl, hx0.trans hE⟩
        · as_aux_lemma =>
          obtain rfl : f = ⟨#[]⟩ := by
            have h0 : f.toList = [] := by simpa using hf
            rw [ByteArray.toList_eq] at h0
            obtain ⟨⟨d⟩⟩ := f
            simp at h0
            subst h0
            rfl
          go_wp2_with (first
            | (go_at_call 22; refine (appendFile_bad _ _).mono ?_; rintro e w2 ⟨v3, rfl, ho, hx⟩; clear ho; replace hE := hE.trans hx)
            | ((with_reducible show wpList _ _ _ (⟨some 133, _, _, _, _, _⟩ :: _) _ _); refine wpl_load_p rfl _ _ rfl _ 10 rfl [.int .u16 ea, .int .u16 eb] _ ((hbox.ext hE).part 2 rfl) Try.underlying32 rfl (by kernel_rfl) ?_)
            | (go_at_call 24; refine (appendEof_c _ _ [] ea eb (Rd.nil _) (by simp) hea heb).mono ?_; rintro e w2 ⟨v4, rfl, ho, hx⟩; have r4 := ho.rd; clear ho; rw [List.nil_append] at r4; replace hE := hE.trans hx)
            | (go_at_call 56; refine (backEof _ _ ea eb hea heb r4).mono ?_; rintro e w2 ⟨rfl, hx⟩; replace hE := hE.trans hx; (try replace r4 := r4.ext hx))
            | ((with_reducible show wpList _ _ _ (⟨none, Op.store 32 (.tmp 14) _, _, _, _, _⟩ :: _) _ _); refine wpl_store_box rfl _ _ _ rfl _ [.int .u16 ea, .int .u16 eb] rfl rfl (BoxF.new _ _ _) rfl (by kernel_rfl) (by rfl) ?_; intro w3 B3 O3; have hx := ((Ext.refl _).alloc _).on O3 (Nat.le_refl _); replace hE := hE.trans hx; (try replace r4 := r4.ext hx))
            | ((with_reducible show wpList _ _ _ (⟨some 141, _, _, _, _, _⟩ :: _) _ _); refine wpl_load_p rfl _ _ rfl _ 12 rfl [.int .u32 pi, .int .u16 px, .int .u16 py, .int .u16 pz] _ ((hbox.ext hE).part 4 rfl) Try.underlying34 rfl (by kernel_rfl) ?_)
            | (go_at_call 26; refine (appendPrep_c _ _ [] pi px py pz (Rd.nil _) (by simp) hpi hpx hpy hpz).mono ?_; rintro e w2 ⟨v5, rfl, ho, hx⟩; have r5 := ho.rd; clear ho; rw [List.nil_append] at r5; replace hE := hE.trans hx; (try replace r4 := r4.ext hx); (try replace B3 := B3.ext hx))
            | (go_at_call 58; refine (backPrep _ _ pi px py pz hpi hpx hpy hpz r5).mono ?_; rintro e w2 ⟨rfl, hx⟩; replace hE := hE.trans hx; (try replace r4 := r4.ext hx); (try replace B3 := B3.ext hx))
            | ((with_reducible show wpList _ _ _ (⟨none, Op.store 34 (.tmp 16) _, _, _, _, _⟩ :: _) _ _); refine wpl_store_box rfl _ _ _ rfl _ [.int .u32 pi, .int .u16 px, .int .u16 py, .int .u16 pz] rfl rfl (BoxF.new _ _ _) rfl (by kernel_rfl) (by rfl) ?_; intro w3 B4 O3; have hx := ((Ext.refl _).alloc _).on O3 (Nat.le_refl _); replace hE := hE.trans hx; (try replace r4 := r4.ext hx); (try replace B3 := B3.ext hx); have b0 := B4.at (j := 0) (by rfl); have b1 := B4.at (j := 1) (by rfl); have b2 := B4.at (j := 2) (by rfl); have b3 := B4.at (j := 3) (by rfl); (try clear c12); have c12 := hbox.at (j := 12) (by rfl) hE; (try clear c13); have c13 := hbox.at (j := 13) (by rfl) hE; (try clear c14); have c14 := hbox.at (j := 14) (by rfl) hE; (try clear c15); have c15 := hbox.at (j := 15) (by rfl) hE)
            | ((with_reducible show wpList _ _ _ (⟨some 148, _, _, _, _, _⟩ :: _) _ _); refine wpl_load_box rfl _ _ rfl _ rfl B3 Try.underlying32 rfl (by kernel_rfl) ?_)
            | ((with_reducible show wpList _ _ _ (⟨some 150, _, _, _, _, _⟩ :: _) _ _); refine wpl_load_p rfl _ _ rfl _ 10 rfl [.int .u16 ea, .int .u16 eb] _ ((hbox.ext hE).part 2 rfl) Try.underlying32 rfl (by kernel_rfl) ?_)
            | (go_at_call 42; refine (last_at _ _ _ _ 3 r4 (last_eof _ _ _ O3'.out)).mono ?_; rintro e wx ⟨rfl, rfl⟩)
            | fail)
          go_ret
          exact ⟨rfl, hx0.trans hE⟩
      · have c16 := hbox.at (j := 16) (by rfl) hE
        go_wp2_with (first
          | (go_at_call 20; refine (appendErr_bad _ _ ec es et (by omega) (by omega)).mono ?_; rintro e w2 ⟨v2, rfl, ho, hx⟩; clear ho; replace hE := hE.trans hx; (try clear c16); have c16 := hbox.at (j := 16) (by rfl) hE)
          | fail)
        by_cases hf : f.toList ≠ []
        · as_aux_lemma =>
          have hf0 : (f.toList == []) = false := by simpa using hf
          go_wp2_with (first
            | (go_at_call 22; refine (appendFile_good _ _ [] f (Rd.nil _) (by simp) (by omega) hf).mono ?_; rintro e w2 ⟨v3, rfl, ho, hx⟩; have r3 := ho.rd; clear ho; rw [List.nil_append] at r3; replace hE := hE.trans hx; (try clear c16); have c16 := hbox.at (j := 16) (by rfl) hE)
            | (go_at_call 52; refine (backFile _ _ f hf r3).mono ?_; rintro e w2 ⟨rfl, hx⟩; replace hE := hE.trans hx; (try replace r3 := r3.ext hx); (try clear c16); have c16 := hbox.at (j := 16) (by rfl) hE)
            | (go_at_call 41; refine (first_at _ _ _ _ 4 r3 (first_file _ _ O2.out)).mono ?_; rintro e wx ⟨rfl, rfl⟩)
            | ((with_reducible show wpList _ _ _ (⟨some 133, _, _, _, _, _⟩ :: _) _ _); refine wpl_load_p rfl _ _ rfl _ 10 rfl [.int .u16 ea, .int .u16 eb] _ ((hbox.ext hE).part 2 rfl) Try.underlying32 rfl (by kernel_rfl) ?_)
            | (go_at_call 24; refine (appendEof_c _ _ [] ea eb (Rd.nil _) (by simp) hea heb).mono ?_; rintro e w2 ⟨v4, rfl, ho, hx⟩; have r4 := ho.rd; clear ho; rw [List.nil_append] at r4; replace hE := hE.trans hx)
            | (go_at_call 56; refine (backEof _ _ ea eb hea heb r4).mono ?_; rintro e w2 ⟨rfl, hx⟩; replace hE := hE.trans hx; (try replace r4 := r4.ext hx))
            | ((with_reducible show wpList _ _ _ (⟨none, Op.store 32 (.tmp 14) _, _, _, _, _⟩ :: _) _ _); refine wpl_store_box rfl _ _ _ rfl _ [.int .u16 ea, .int .u16 eb] rfl rfl (BoxF.new _ _ _) rfl (by kernel_rfl) (by rfl) ?_; intro w3 B3 O3; have hx := ((Ext.refl _).alloc _).on O3 (Nat.le_refl _); replace hE := hE.trans hx; (try replace r4 := r4.ext hx))
            | ((with_reducible show wpList _ _ _ (⟨some 141, _, _, _, _, _⟩ :: _) _ _); refine wpl_load_p rfl _ _ rfl _ 12 rfl [.int .u32 pi, .int .u16 px, .int .u16 py, .int .u16 pz] _ ((hbox.ext hE).part 4 rfl) Try.underlying34 rfl (by kernel_rfl) ?_)
            | (go_at_call 26; refine (appendPrep_c _ _ [] pi px py pz (Rd.nil _) (by simp) hpi hpx hpy hpz).mono ?_; rintro e w2 ⟨v5, rfl, ho, hx⟩; have r5 := ho.rd; clear ho; rw [List.nil_append] at r5; replace hE := hE.trans hx; (try replace r4 := r4.ext hx); (try replace B3 := B3.ext hx))
            | (go_at_call 58; refine (backPrep _ _ pi px py pz hpi hpx hpy hpz r5).mono ?_; rintro e w2 ⟨rfl, hx⟩; replace hE := hE.trans hx; (try replace r4 := r4.ext hx); (try replace B3 := B3.ext hx))
            | ((with_reducible show wpList _ _ _ (⟨none, Op.store 34 (.tmp 16) _, _, _, _, _⟩ :: _) _ _); refine wpl_store_box rfl _ _ _ rfl _ [.int .u32 pi, .int .u16 px, .int .u16 py, .int .u16 pz] rfl rfl (BoxF.new _ _ _) rfl (by kernel_rfl) (by rfl) ?_; intro w3 B4 O3; have hx := ((Ext.refl _).alloc _).on O3 (Nat.le_refl _); replace hE := hE.trans hx; (try replace r4 := r4.ext hx); (try replace B3 := B3.ext hx); have b0 := B4.at (j := 0) (by rfl); have b1 := B4.at (j := 1) (by rfl); have b2 := B4.at (j := 2) (by rfl); have b3 := B4.at (j := 3) (by rfl); (try clear c12); have c12 := hbox.at (j := 12) (by rfl) hE; (try clear c13); have c13 := hbox.at (j := 13) (by rfl) hE; (try clear c14); have c14 := hbox.at (j := 14) (by rfl) hE; (try clear c15); have c15 := hbox.at (j := 15) (by rfl) hE)
            | ((with_reducible show wpList _ _ _ (⟨some 148, _, _, _, _, _⟩ :: _) _ _); refine wpl_load_box rfl _ _ rfl _ rfl B3 Try.underlying32 rfl (by kernel_rfl) ?_)
            | ((with_reducible show wpList _ _ _ (⟨some 150, _, _, _, _, _⟩ :: _) _ _); refine wpl_load_p rfl _ _ rfl _ 10 rfl [.int .u16 ea, .int .u16 eb] _ ((hbox.ext hE).part 2 rfl) Try.underlying32 rfl (by kernel_rfl) ?_)
            | (go_at_call 42; refine (last_at _ _ _ _ 3 r4 (last_eof _ _ _ O3'.out)).mono ?_; rintro e wx ⟨rfl, rfl⟩)
            | fail)
          go_ret
          exact ⟨rfl, hx0.trans hE⟩
        · as_aux_lemma =>
          obtain rfl : f = ⟨#[]⟩ := by
            have h0 : f.toList = [] := by simpa using hf
            rw [ByteArray.toList_eq] at h0
            obtain ⟨⟨d⟩⟩ := f
            simp at h0
            subst h0
            rfl
          go_wp2_with (first
            | (go_at_call 22; refine (appendFile_bad _ _).mono ?_; rintro e w2 ⟨v3, rfl, ho, hx⟩; clear ho; replace hE := hE.trans hx)
            | ((with_reducible show wpList _ _ _ (⟨some 133, _, _, _, _, _⟩ :: _) _ _); refine wpl_load_p rfl _ _ rfl _ 10 rfl [.int .u16 ea, .int .u16 eb] _ ((hbox.ext hE).part 2 rfl) Try.underlying32 rfl (by kernel_rfl) ?_)
            | (go_at_call 24; refine (appendEof_c _ _ [] ea eb (Rd.nil _) (by simp) hea heb).mono ?_; rintro e w2 ⟨v4, rfl, ho, hx⟩; have r4 := ho.rd; clear ho; rw [List.nil_append] at r4; replace hE := hE.trans hx)
            | (go_at_call 56; refine (backEof _ _ ea eb hea heb r4).mono ?_; rintro e w2 ⟨rfl, hx⟩; replace hE := hE.trans hx; (try replace r4 := r4.ext hx))
            | ((with_reducible show wpList _ _ _ (⟨none, Op.store 32 (.tmp 14) _, _, _, _, _⟩ :: _) _ _); refine wpl_store_box rfl _ _ _ rfl _ [.int .u16 ea, .int .u16 eb] rfl rfl (BoxF.new _ _ _) rfl (by kernel_rfl) (by rfl) ?_; intro w3 B3 O3; have hx := ((Ext.refl _).alloc _).on O3 (Nat.le_refl _); replace hE := hE.trans hx; (try replace r4 := r4.ext hx))
            | ((with_reducible show wpList _ _ _ (⟨some 141, _, _, _, _, _⟩ :: _) _ _); refine wpl_load_p rfl _ _ rfl _ 12 rfl [.int .u32 pi, .int .u16 px, .int .u16 py, .int .u16 pz] _ ((hbox.ext hE).part 4 rfl) Try.underlying34 rfl (by kernel_rfl) ?_)
            | (go_at_call 26; refine (appendPrep_c _ _ [] pi px py pz (Rd.nil _) (by simp) hpi hpx hpy hpz).mono ?_; rintro e w2 ⟨v5, rfl, ho, hx⟩; have r5 := ho.rd; clear ho; rw [List.nil_append] at r5; replace hE := hE.trans hx; (try replace r4 := r4.ext hx); (try replace B3 := B3.ext hx))
            | (go_at_call 58; refine (backPrep _ _ pi px py pz hpi hpx hpy hpz r5).mono ?_; rintro e w2 ⟨rfl, hx⟩; replace hE := hE.trans hx; (try replace r4 := r4.ext hx); (try replace B3 := B3.ext hx))
            | ((with_reducible show wpList _ _ _ (⟨none, Op.store 34 (.tmp 16) _, _, _, _, _⟩ :: _) _ _); refine wpl_store_box rfl _ _ _ rfl _ [.int .u32 pi, .int .u16 px, .int .u16 py, .int .u16 pz] rfl rfl (BoxF.new _ _ _) rfl (by kernel_rfl) (by rfl) ?_; intro w3 B4 O3; have hx := ((Ext.refl _).alloc _).on O3 (Nat.le_refl _); replace hE := hE.trans hx; (try replace r4 := r4.ext hx); (try replace B3 := B3.ext hx); have b0 := B4.at (j := 0) (by rfl); have b1 := B4.at (j := 1) (by rfl); have b2 := B4.at (j := 2) (by rfl); have b3 := B4.at (j := 3) (by rfl); (try clear c12); have c12 := hbox.at (j := 12) (by rfl) hE; (try clear c13); have c13 := hbox.at (j := 13) (by rfl) hE; (try clear c14); have c14 := hbox.at (j := 14) (by rfl) hE; (try clear c15); have c15 := hbox.at (j := 15) (by rfl) hE)
            | ((with_reducible show wpList _ _ _ (⟨some 148, _, _, _, _, _⟩ :: _) _ _); refine wpl_load_box rfl _ _ rfl _ rfl B3 Try.underlying32 rfl (by kernel_rfl) ?_)
            | ((with_reducible show wpList _ _ _ (⟨some 150, _, _, _, _, _⟩ :: _) _ _); refine wpl_load_p rfl _ _ rfl _ 10 rfl [.int .u16 ea, .int .u16 eb] _ ((hbox.ext hE).part 2 rfl) Try.underlying32 rfl (by kernel_rfl) ?_)
            | (go_at_call 42; refine (last_at _ _ _ _ 3 r4 (last_eof _ _ _ O3'.out)).mono ?_; rintro e wx ⟨rfl, rfl⟩)
            | fail)
          go_ret
          exact ⟨rfl, hx0.trans hE⟩
end Go.Proofs.Ytnlfcknpmemhfaa
