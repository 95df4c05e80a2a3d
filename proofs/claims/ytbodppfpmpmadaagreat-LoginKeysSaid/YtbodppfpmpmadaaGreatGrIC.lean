import Derived.Test.YtbodppfpmpmadaaGreatL10C
namespace Go.Proofs.YtbodppfpmpmadaaGreat
open Go.RowKit

theorem fixOk_of (x n : Int) (h1 : 1 ≤ n) (h8 : n ≤ 8) (h0 : 0 ≤ x) (hx : x < 2 ^ (8 * n).toNat) : fixOk x n = true := by
  unfold fixOk
  rw [Int.ediv_eq_zero_of_lt h0 hx]
  simp [h1, h8]
theorem rd_take8 {w : World} {A : Option Addr} {n cap : Nat} {l : List UInt8} (h : Rd w (.slice A n cap) l) (j : Nat) (hj : j ≤ l.length) : Rd w (.slice A j cap) (l.take j) := by
  obtain ⟨A', cap', hv, h1, h2, h3, h4⟩ := h
  injection hv with e1 e2 e3
  subst e1 e2 e3
  have hlen : (l.take j).length = j := by rw [List.length_take]; omega
  refine ⟨A, cap, by rw [hlen], by rw [hlen]; omega, h2, h3, fun hne => ?_⟩
  have hl : l ≠ [] := by intro e; subst e; simp at hne
  obtain ⟨b, o, hA, hc⟩ := h4 hl
  refine ⟨b, o, hA, fun i hi => ?_⟩
  rw [hlen] at hi
  rw [hc i (by omega)]
  congr 4
  rw [List.getD_eq_getElem?_getD, List.getD_eq_getElem?_getD, List.getElem?_take, if_pos hi]

set_option maxRecDepth 100000 in
set_option maxHeartbeats 2000000 in
theorem fineGreeting_t (w : World) (ver n pl : List UInt8) (thr caps ch st : Int) (vn : Value) (hn : Rd w vn n) (h1 : plainP [ver, pl] = true) (h2 : checkE n = 0) (h3 : hasC caps 33280 = true) (h4 : pl = [] ∨ hasC caps 524288 = true) :
    Calls Tryz.prog 95 #[.agg #[.string (strL ver), .int .u32 thr, vn, .int .u32 caps, .int .u8 ch, .int .u16 st, .string (strL pl)]] w fun e w' => e = .returned (.bool true) ∧ Ext w w' := by
  have HN := Lib.hid hn
  obtain ⟨An, cn, rfl, _⟩ := hn
  have H1 := Lib.hid h1
  have H2 := Lib.hid h2
  have H3 := Lib.hid h3
  have hq : ∃ q, (strL pl).toList.isEmpty = q ∧ (q = false → hasC caps 524288 = true) := ⟨_, rfl, fun hq => h4.resolve_left (fun e => by subst e; simp [strL_tl] at hq)⟩
  obtain ⟨q, hq1, hq2⟩ := hq
  have H4 := Lib.hid hq2
  clear h1 h2 h3 h4 hq2
  cases q
  all_goals
    go_enter Tryz.func95, Tryz.ntmps95
    go_wp2_with fail
    generalize hW0 : w.alloc _ = wS
    have hb : Box wS w.heap.size [.string (strL ver), .int .u32 thr, .slice An n.length cn, .int .u32 caps, .int .u8 ch, .int .u16 st, .string (strL pl)] := by rw [← hW0]; exact Box.new w _ _
    have hx0 : Ext w wS := by rw [← hW0]; exact (Ext.refl w).alloc _
    have hsz : w.heap.size + 1 = wS.heap.size := by rw [← hW0]; simp
    have HSZ := Lib.hid hsz
    have HX0 := Lib.hid hx0
    clear hW0 hsz hx0
    go_wp2_with (first
      | (go_at_call 143; refine (plain_g _ _ [ver, pl] true (texts_new _ _ _ (by rfl) _ _ _ HSZ.out (by rfl) (by simp)) H1.out).mono ?_; rintro e wT ⟨rfl, hq⟩; have hx1 : Ext wS wT := hq ▸ (Ext.refl wS).alloc _; clear hq; have c2 := hb.one' (j := 2) rfl hx1; have c3 := hb.one' (j := 3) rfl hx1; have c6 := hb.one' (j := 6) rfl hx1)
      | (go_at_call 39; refine (check_c _ _ n 0 (HN.out.ext (HX0.out.trans hx1)) H2.out).mono ?_; rintro e wy ⟨rfl, rfl⟩)
      | ((with_reducible show Calls _ _ #[_, Value.int .u32 33280] _ _); go_at_call 83; refine (has_g _ _ _ true H3.out).mono ?_; rintro e wy ⟨rfl, rfl⟩)
      | ((with_reducible show Calls _ _ #[_, Value.int .u32 524288] _ _); go_at_call 83; refine (has_g _ _ _ true (H4.out (by trivial))).mono ?_; rintro e wy ⟨rfl, rfl⟩)
      | fail)
    go_ret
    exact ⟨rfl, HX0.out.trans hx1⟩

def greetBs (ver : List UInt8) (thr : Int) (n : List UInt8) (caps ch st : Int) (pl : List UInt8) : List UInt8 :=
  [10] ++ (ver ++ [0]) ++ fixB thr 4 ++ n.take 8 ++ [0] ++ fixB (caps % 65536) 2 ++ [UInt8.ofNat ch.toNat] ++ fixB st 2 ++ fixB (caps / 65536) 2 ++ [if hasC caps 524288 then 21 else 0] ++ List.replicate 10 0 ++ n.drop 8 ++ [0] ++ endB (hasC caps 524288) pl

set_option linter.unusedSimpArgs false in
set_option maxRecDepth 100000 in
set_option maxHeartbeats 8000000 in
theorem appendGreeting_g (w : World) (ver n pl : List UInt8) (thr caps ch st : Int) (vn : Value) (hn : Rd w vn n) (hzv : ver.contains 0 = false) (hzp : pl.contains 0 = false) (h20 : n.length = 20) (hno : nonceOk n = true)
    (hc : hasC caps 33280 = true) (hpf : pl = [] ∨ hasC caps 524288 = true) (ht : 0 ≤ thr ∧ thr < 4294967296) (hcaps : 0 ≤ caps ∧ caps < 4294967296) (hch : 0 ≤ ch ∧ ch < 256) (hst : 0 ≤ st ∧ st < 65536) (hpl : pl.length ≤ 10000) (hvl : ver.length ≤ 10000) :
    Calls Tryz.prog 55 #[.slice none 0 0, .agg #[.string (strL ver), .int .u32 thr, vn, .int .u32 caps, .int .u8 ch, .int .u16 st, .string (strL pl)]] w (RetBE w (greetBs ver thr n caps ch st pl) 0) := by
  have HN := Lib.hid hn
  obtain ⟨An, cn, rfl, hcn, hcm, _, _⟩ := id hn
  have hcn8 : (8 : Int) ≤ (cn : Int) := by omega
  have hn20 : (8 : Int) ≤ (n.length : Int) := by omega
  have HN8 := Lib.hid (rd_take8 hn 8 (by omega))
  have HZV := Lib.hid hzv
  have HZP := Lib.hid hzp
  have HPL := Lib.hid hpl
  have HVL := Lib.hid hvl
  have HNL := Lib.hid (show n.length = 20 from h20)
  have HCC := Lib.hid hc
  have HPF := Lib.hid hpf
  have HCH := Lib.hid hch
  have hb1 : plainP [ver, pl] = true := by simp only [plainP, List.all_cons, List.all_nil, HZV.out, HZP.out]; rfl
  have HB1 := Lib.hid hb1
  have hck : checkE n = 0 := by
    unfold nonceOk at hno
    simp only [Bool.and_eq_true, Bool.not_eq_true'] at hno
    unfold checkE
    rw [if_pos ⟨h20, hno.1, hno.2⟩]
  have HCK := Lib.hid hck
  obtain ⟨lo, hlo⟩ : ∃ lo, bits .and .u32 caps 65535 = lo := ⟨_, rfl⟩
  have hlo2 : lo = caps % 65536 := by
    rw [← hlo, u32_and caps 65535 hcaps.1 hcaps.2 (by omega) (by omega)]
    rw [show (65535 : Int).toNat = 2 ^ 16 - 1 from rfl, Nat.and_two_pow_sub_one_eq_mod]
    omega
  obtain ⟨hi, hhi⟩ : ∃ hi, caps / 65536 = hi := ⟨_, rfl⟩
  have HWT := Lib.hid (show IntKind.u64.wrap thr = thr from IntWalk.u64_in _ (by omega))
  have HWL := Lib.hid (show IntKind.u64.wrap lo = lo from IntWalk.u64_in _ (by omega))
  have HWS := Lib.hid (show IntKind.u64.wrap st = st from IntWalk.u64_in _ (by omega))
  have HWH := Lib.hid (show IntKind.u64.wrap hi = hi from IntWalk.u64_in _ (by omega))
  have HFT := Lib.hid (fixOk_of thr 4 (by omega) (by omega) ht.1 ht.2)
  have HFL := Lib.hid (fixOk_of lo 2 (by omega) (by omega) (by omega) (show lo < 65536 by omega))
  have HFS := Lib.hid (fixOk_of st 2 (by omega) (by omega) hst.1 hst.2)
  have HFH := Lib.hid (fixOk_of hi 2 (by omega) (by omega) (by omega) (show hi < 65536 by omega))
  have HLO := Lib.hid hlo2
  have HHI := Lib.hid hhi
  obtain ⟨kp, hkp⟩ : ∃ k, hasC caps 524288 = k := ⟨_, rfl⟩
  have HKP := Lib.hid hkp
  clear hzv hzp h20 hno hpl hvl hc hpf hb1 hck hlo2 hkp hcn
  go_enter Tryz.func55, Tryz.ntmps55
  go_wp2_with fail
  generalize hW0 : w.alloc _ = wS
  have hb : Box wS w.heap.size [.string (strL ver), .int .u32 thr, .slice An n.length cn, .int .u32 caps, .int .u8 ch, .int .u16 st, .string (strL pl)] := by rw [← hW0]; exact Box.new w _ _
  have hx0 : Ext w wS := by rw [← hW0]; exact (Ext.refl w).alloc _
  clear hW0
  have HX := Lib.hid hx0
  clear hx0
  go_wp2_with (first
    | (go_at_call 95; refine (fineGreeting_t _ ver n pl thr caps ch st _ (HN.out.ext HX.out) HB1.out HCK.out HCC.out HPF.out).mono ?_; rintro e w1 ⟨rfl, hE⟩)
    | fail)
  go_region_held3 (fun W' => W'.cell? ⟨w.heap.size, 0, none⟩ = some (.string (strL ver)) ∧ Ext wS W') ((refine hb.holdA (i := 0) rfl ?_; repeat' (first | exact hE | (with_reducible refine Ext.drew ?_) | (with_reducible refine Ext.alloc ?_ _))))
    (first
      | (go_at_call 97; go_must (refine (cloneN_c _).mono ?_; rintro e wx ⟨rfl, rfl⟩))
      | ((with_reducible show (if Region.wanted (⟨some 14, _, _, _, _, _⟩ : Oper) _ = true then _ else _)); go_must (refine step_append_rdg (m := [10]) bt (Own.nil _ wS.heap.size) ?_ (by rfl) _ _ (by rfl) (by rfl) (by rfl) (by have h1 := HPL.out; have h2 := HNL.out; have h3 := HVL.out; simp only [List.length_append, List.length_cons, List.length_nil, List.length_take, List.length_drop, fixB_length] <;> omega) (Ext.size (w := wS) (by repeat' (first | exact hE | (with_reducible refine Ext.drew ?_) | (with_reducible refine Ext.alloc ?_ _)))) ?_; ((first | exact rd_lit _ _ [10] (by rfl) (by simp) 1 _ (by rfl) (by first | rfl | (simp; done)) | exact Rd.ext (rd_lit _ _ [10] (by rfl) (by simp) 1 _ (by rfl) (by first | rfl | (simp; done))) ((Ext.refl _).alloc _) | exact Rd.ext (rd_lit _ _ [10] (by rfl) (by simp) 1 _ (by rfl) (by first | rfl | (simp; done))) (((Ext.refl _).alloc _).alloc _) | exact Rd.ext (rd_lit _ _ [10] (by rfl) (by simp) 1 _ (by rfl) (by first | rfl | (simp; done))) (Ext.refl _).drew | exact Rd.ext (rd_lit _ _ [10] (by rfl) (by simp) 1 _ (by rfl) (by first | rfl | (simp; done))) ((Ext.refl _).alloc _).drew | exact Rd.ext (rd_lit _ _ [10] (by rfl) (by simp) 1 _ (by rfl) (by first | rfl | (simp; done))) (((Ext.refl _).alloc _).alloc _).drew)); intro v2 w2 ho2 hb2 hg2; replace hE : Ext wS w2 := Ext.below (by repeat' (first | exact hE | (with_reducible refine Ext.drew ?_) | (with_reducible refine Ext.alloc ?_ _))) hb2 (Nat.le_refl _)))
      | (go_at_call 96; go_must (refine (endedA_g _ _ ([] ++ [10]) ver (ho2.ext (by repeat' (first | exact (Ext.refl _) | (with_reducible refine Ext.drew ?_) | (with_reducible refine Ext.alloc ?_ _)))).rd (by have h3 := HVL.out; omega) (by simp) HZV.out).mono ?_; rintro e w3 ⟨v3, rfl, hof3, hx3⟩; have ho3 := hof3.more (base' := wS.heap.size) (Ext.size (w := wS) (by repeat' (first | exact hE | (with_reducible refine Ext.drew ?_) | (with_reducible refine Ext.alloc ?_ _)))); replace hE : Ext wS w3 := Ext.trans (by repeat' (first | exact hE | (with_reducible refine Ext.drew ?_) | (with_reducible refine Ext.alloc ?_ _))) hx3))
      | fail)
  all_goals
    (try go_wp2_with fail)
    go_region_held3 (fun W' => W'.cell? ⟨w.heap.size, 1, none⟩ = some (.int .u32 thr) ∧ W'.cell? ⟨w.heap.size, 2, none⟩ = some (.slice An n.length cn) ∧ Ext wS W') ((refine hb.hold2 (i := 1) (j := 2) rfl rfl ?_; repeat' (first | exact hE | (with_reducible refine Ext.drew ?_) | (with_reducible refine Ext.alloc ?_ _))))
      (first
        | ((with_reducible show Calls _ _ #[v3, _, _] _ _); go_at_call 98; go_must ((try rw [HWT.out]); refine (fixedA_g _ _ ([] ++ [10] ++ (ver ++ [0])) thr 4 (ho3.ext (by repeat' (first | exact (Ext.refl _) | (with_reducible refine Ext.drew ?_) | (with_reducible refine Ext.alloc ?_ _)))).rd (by have h1 := HPL.out; have h2 := HNL.out; have h3 := HVL.out; simp only [List.length_append, List.length_cons, List.length_nil, List.length_take, List.length_drop, fixB_length] <;> omega) HFT.out).mono ?_; rintro e w4 ⟨v4, rfl, hof4, hx4⟩; have ho4 := hof4.more (base' := wS.heap.size) (Ext.size (w := wS) (by repeat' (first | exact hE | (with_reducible refine Ext.drew ?_) | (with_reducible refine Ext.alloc ?_ _)))); replace hE : Ext wS w4 := Ext.trans (by repeat' (first | exact hE | (with_reducible refine Ext.drew ?_) | (with_reducible refine Ext.alloc ?_ _))) hx4))
        | ((with_reducible show (if Region.wanted (⟨some 26, _, _, _, _, _⟩ : Oper) _ = true then _ else _)); go_must (refine step_append_rdg (m := n.take 8) bt (ho4.ext (by repeat' (first | exact (Ext.refl _) | (with_reducible refine Ext.drew ?_) | (with_reducible refine Ext.alloc ?_ _)))) ?_ (by rfl) _ _ (by rfl) (by rfl) (by rfl) (by have h1 := HPL.out; have h2 := HNL.out; have h3 := HVL.out; simp only [List.length_append, List.length_cons, List.length_nil, List.length_take, List.length_drop, fixB_length] <;> omega) (Ext.size (w := wS) (by repeat' (first | exact hE | (with_reducible refine Ext.drew ?_) | (with_reducible refine Ext.alloc ?_ _)))) ?_; (exact (HN8.out.ext (HX.out.trans (by repeat' (first | exact hE | (with_reducible refine Ext.drew ?_) | (with_reducible refine Ext.alloc ?_ _)))))); intro v5 w5 ho5 hb5 hg5; replace hE : Ext wS w5 := Ext.below (by repeat' (first | exact hE | (with_reducible refine Ext.drew ?_) | (with_reducible refine Ext.alloc ?_ _))) hb5 (Nat.le_refl _)))
        | fail)
    all_goals
      (try go_wp2_with fail)
      go_region_held3 (fun W' => W'.cell? ⟨w.heap.size, 3, none⟩ = some (.int .u32 caps) ∧ W'.cell? ⟨w.heap.size, 4, none⟩ = some (.int .u8 ch) ∧ Ext wS W') ((refine hb.hold2 (i := 3) (j := 4) rfl rfl ?_; repeat' (first | exact hE | (with_reducible refine Ext.drew ?_) | (with_reducible refine Ext.alloc ?_ _))))
        (first
          | ((with_reducible show (if Region.wanted (⟨some 29, _, _, _, _, _⟩ : Oper) _ = true then _ else _)); go_must (refine step_append_rdg (m := [0]) bt (ho5.ext (by repeat' (first | exact (Ext.refl _) | (with_reducible refine Ext.drew ?_) | (with_reducible refine Ext.alloc ?_ _)))) ?_ (by rfl) _ _ (by rfl) (by rfl) (by rfl) (by have h1 := HPL.out; have h2 := HNL.out; have h3 := HVL.out; simp only [List.length_append, List.length_cons, List.length_nil, List.length_take, List.length_drop, fixB_length] <;> omega) (Ext.size (w := wS) (by repeat' (first | exact hE | (with_reducible refine Ext.drew ?_) | (with_reducible refine Ext.alloc ?_ _)))) ?_; ((first | exact rd_lit _ _ [0] (by rfl) (by simp) 1 _ (by rfl) (by first | rfl | (simp; done)) | exact Rd.ext (rd_lit _ _ [0] (by rfl) (by simp) 1 _ (by rfl) (by first | rfl | (simp; done))) ((Ext.refl _).alloc _) | exact Rd.ext (rd_lit _ _ [0] (by rfl) (by simp) 1 _ (by rfl) (by first | rfl | (simp; done))) (((Ext.refl _).alloc _).alloc _) | exact Rd.ext (rd_lit _ _ [0] (by rfl) (by simp) 1 _ (by rfl) (by first | rfl | (simp; done))) (Ext.refl _).drew | exact Rd.ext (rd_lit _ _ [0] (by rfl) (by simp) 1 _ (by rfl) (by first | rfl | (simp; done))) ((Ext.refl _).alloc _).drew | exact Rd.ext (rd_lit _ _ [0] (by rfl) (by simp) 1 _ (by rfl) (by first | rfl | (simp; done))) (((Ext.refl _).alloc _).alloc _).drew)); intro v6 w6 ho6 hb6 hg6; replace hE : Ext wS w6 := Ext.below (by repeat' (first | exact hE | (with_reducible refine Ext.drew ?_) | (with_reducible refine Ext.alloc ?_ _))) hb6 (Nat.le_refl _)))
          | ((with_reducible show Calls _ _ #[v6, _, _] _ _); go_at_call 98; go_must ((try rw [HWL.out]); refine (fixedA_g _ _ ([] ++ [10] ++ (ver ++ [0]) ++ fixB thr 4 ++ n.take 8 ++ [0]) lo 2 (ho6.ext (by repeat' (first | exact (Ext.refl _) | (with_reducible refine Ext.drew ?_) | (with_reducible refine Ext.alloc ?_ _)))).rd (by have h1 := HPL.out; have h2 := HNL.out; have h3 := HVL.out; simp only [List.length_append, List.length_cons, List.length_nil, List.length_take, List.length_drop, fixB_length] <;> omega) HFL.out).mono ?_; rintro e w7 ⟨v7, rfl, hof7, hx7⟩; have ho7 := hof7.more (base' := wS.heap.size) (Ext.size (w := wS) (by repeat' (first | exact hE | (with_reducible refine Ext.drew ?_) | (with_reducible refine Ext.alloc ?_ _)))); replace hE : Ext wS w7 := Ext.trans (by repeat' (first | exact hE | (with_reducible refine Ext.drew ?_) | (with_reducible refine Ext.alloc ?_ _))) hx7))
          | ((with_reducible show (if Region.wanted (⟨some 38, _, _, _, _, _⟩ : Oper) _ = true then _ else _)); go_must (refine step_append_rdg (m := [UInt8.ofNat ch.toNat]) bt (ho7.ext (by repeat' (first | exact (Ext.refl _) | (with_reducible refine Ext.drew ?_) | (with_reducible refine Ext.alloc ?_ _)))) ?_ (by rfl) _ _ (by rfl) (by rfl) (by rfl) (by have h1 := HPL.out; have h2 := HNL.out; have h3 := HVL.out; simp only [List.length_append, List.length_cons, List.length_nil, List.length_take, List.length_drop, fixB_length] <;> omega) (Ext.size (w := wS) (by repeat' (first | exact hE | (with_reducible refine Ext.drew ?_) | (with_reducible refine Ext.alloc ?_ _)))) ?_; ((first | exact rd_byte _ ch HCH.out _ (by first | rfl | (simp; done)) | exact Rd.ext (rd_byte _ ch HCH.out _ (by first | rfl | (simp; done))) ((Ext.refl _).alloc _) | exact Rd.ext (rd_byte _ ch HCH.out _ (by first | rfl | (simp; done))) (((Ext.refl _).alloc _).alloc _) | exact Rd.ext (rd_byte _ ch HCH.out _ (by first | rfl | (simp; done))) (Ext.refl _).drew | exact Rd.ext (rd_byte _ ch HCH.out _ (by first | rfl | (simp; done))) ((Ext.refl _).alloc _).drew | exact Rd.ext (rd_byte _ ch HCH.out _ (by first | rfl | (simp; done))) (((Ext.refl _).alloc _).alloc _).drew | (refine Rd.ext ?_ hx7; (first | exact rd_byte _ ch HCH.out _ (by first | rfl | (simp; done)) | exact Rd.ext (rd_byte _ ch HCH.out _ (by first | rfl | (simp; done))) ((Ext.refl _).alloc _) | exact Rd.ext (rd_byte _ ch HCH.out _ (by first | rfl | (simp; done))) (((Ext.refl _).alloc _).alloc _) | exact Rd.ext (rd_byte _ ch HCH.out _ (by first | rfl | (simp; done))) (Ext.refl _).drew | exact Rd.ext (rd_byte _ ch HCH.out _ (by first | rfl | (simp; done))) ((Ext.refl _).alloc _).drew | exact Rd.ext (rd_byte _ ch HCH.out _ (by first | rfl | (simp; done))) (((Ext.refl _).alloc _).alloc _).drew | (refine rd_far ?_ hg6 (fun e => by have h9 := ho5.ltB e.symm; (try simp at h9) <;> omega); (first | exact rd_byte _ ch HCH.out _ (by first | rfl | (simp; done)) | exact Rd.ext (rd_byte _ ch HCH.out _ (by first | rfl | (simp; done))) ((Ext.refl _).alloc _) | exact Rd.ext (rd_byte _ ch HCH.out _ (by first | rfl | (simp; done))) (((Ext.refl _).alloc _).alloc _) | exact Rd.ext (rd_byte _ ch HCH.out _ (by first | rfl | (simp; done))) (Ext.refl _).drew | exact Rd.ext (rd_byte _ ch HCH.out _ (by first | rfl | (simp; done))) ((Ext.refl _).alloc _).drew | exact Rd.ext (rd_byte _ ch HCH.out _ (by first | rfl | (simp; done))) (((Ext.refl _).alloc _).alloc _).drew)))))); intro v8 w8 ho8 hb8 hg8; replace hE : Ext wS w8 := Ext.below (by repeat' (first | exact hE | (with_reducible refine Ext.drew ?_) | (with_reducible refine Ext.alloc ?_ _))) hb8 (Nat.le_refl _)))
          | fail)
      all_goals
        (try go_wp2_with fail)
        go_region_held3 (fun W' => W'.cell? ⟨w.heap.size, 5, none⟩ = some (.int .u16 st) ∧ W'.cell? ⟨w.heap.size, 3, none⟩ = some (.int .u32 caps) ∧ Ext wS W') ((refine hb.hold2 (i := 5) (j := 3) rfl rfl ?_; repeat' (first | exact hE | (with_reducible refine Ext.drew ?_) | (with_reducible refine Ext.alloc ?_ _))))
          (first
            | ((with_reducible show Calls _ _ #[v8, _, _] _ _); go_at_call 98; go_must ((try rw [HWS.out]); refine (fixedA_g _ _ ([] ++ [10] ++ (ver ++ [0]) ++ fixB thr 4 ++ n.take 8 ++ [0] ++ fixB lo 2 ++ [UInt8.ofNat ch.toNat]) st 2 (ho8.ext (by repeat' (first | exact (Ext.refl _) | (with_reducible refine Ext.drew ?_) | (with_reducible refine Ext.alloc ?_ _)))).rd (by have h1 := HPL.out; have h2 := HNL.out; have h3 := HVL.out; simp only [List.length_append, List.length_cons, List.length_nil, List.length_take, List.length_drop, fixB_length] <;> omega) HFS.out).mono ?_; rintro e w9 ⟨v9, rfl, hof9, hx9⟩; have ho9 := hof9.more (base' := wS.heap.size) (Ext.size (w := wS) (by repeat' (first | exact hE | (with_reducible refine Ext.drew ?_) | (with_reducible refine Ext.alloc ?_ _)))); replace hE : Ext wS w9 := Ext.trans (by repeat' (first | exact hE | (with_reducible refine Ext.drew ?_) | (with_reducible refine Ext.alloc ?_ _))) hx9))
            | ((with_reducible show Calls _ _ #[v9, _, _] _ _); go_at_call 98; go_must ((try rw [HWH.out]); refine (fixedA_g _ _ ([] ++ [10] ++ (ver ++ [0]) ++ fixB thr 4 ++ n.take 8 ++ [0] ++ fixB lo 2 ++ [UInt8.ofNat ch.toNat] ++ fixB st 2) hi 2 (ho9.ext (by repeat' (first | exact (Ext.refl _) | (with_reducible refine Ext.drew ?_) | (with_reducible refine Ext.alloc ?_ _)))).rd (by have h1 := HPL.out; have h2 := HNL.out; have h3 := HVL.out; simp only [List.length_append, List.length_cons, List.length_nil, List.length_take, List.length_drop, fixB_length] <;> omega) HFH.out).mono ?_; rintro e w10 ⟨v10, rfl, hof10, hx10⟩; have ho10 := hof10.more (base' := wS.heap.size) (Ext.size (w := wS) (by repeat' (first | exact hE | (with_reducible refine Ext.drew ?_) | (with_reducible refine Ext.alloc ?_ _)))); replace hE : Ext wS w10 := Ext.trans (by repeat' (first | exact hE | (with_reducible refine Ext.drew ?_) | (with_reducible refine Ext.alloc ?_ _))) hx10))
            | fail)
        all_goals
          have c3 := hb.one' (j := 3) rfl hE
          have hoI := Lib.hid (ho10)
          have HE := Lib.hid hE
          clear ho10 hE
          (try go_wp2_with fail)
          cases kp
          · go_wp2_with (first
              | (go_at_call 83; refine (has_g _ _ _ false HKP.out).mono ?_; rintro e wy ⟨rfl, rfl⟩)
              | ((with_reducible show AtS 55); refine wpl_append_rd bt (hoI.out.ext ((Ext.refl _).alloc _)) (rd_lit _ _ [0] (by rfl) (by simp) 1 _ (by rfl) (by rfl)) rfl _ _ rfl rfl rfl (by have h1 := HPL.out; have h2 := HNL.out; have h3 := HVL.out; simp only [List.length_append, List.length_cons, List.length_nil, List.length_take, List.length_drop, List.length_replicate, fixB_length] <;> omega) (Ext.size (HE.out.alloc _)) ?_; intro v20 w20 ho20 hb20; have hE20 := (HE.out.alloc _).below hb20 (Nat.le_refl _))
              | ((with_reducible show AtS 56); refine wpl_append_zeros bt Tryz.underlying3 ho20 10 (by omega) rfl _ _ rfl rfl _ rfl (by have h1 := HPL.out; have h2 := HNL.out; have h3 := HVL.out; simp only [List.length_append, List.length_cons, List.length_nil, List.length_take, List.length_drop, List.length_replicate, fixB_length] <;> omega) (Ext.size hE20) ?_; intro v21 w21 ho21 hb21 hg21; have hE21 := hE20.below hb21 (Nat.le_refl _); have c2 := hb.one' (j := 2) rfl hE21)
              | ((with_reducible show AtS 60); refine wpl_cut_lo bt HN.out 8 (by omega) (by have := HNL.out; omega) rfl _ _ _ rfl rfl rfl ?_; intro A5 m5 k5 hr5; rw [show (8 : Int).toNat = 8 from rfl] at hr5)
              | ((with_reducible show AtS 61); refine wpl_append_rd bt ho21 (hr5.ext (HX.out.trans hE21)) rfl _ _ rfl rfl rfl (by have h1 := HPL.out; have h2 := HNL.out; have h3 := HVL.out; simp only [List.length_append, List.length_cons, List.length_nil, List.length_take, List.length_drop, List.length_replicate, fixB_length] <;> omega) (Ext.size hE21) ?_; intro v22 w22 ho22 hb22; have hE22 := hE21.below hb22 (Nat.le_refl _); clear c2)
              | ((with_reducible show AtS 63); refine wpl_append_rd bt (ho22.ext ((Ext.refl _).alloc _)) (rd_lit _ _ [0] (by rfl) (by simp) 1 _ (by rfl) (by rfl)) rfl _ _ rfl rfl rfl (by have h1 := HPL.out; have h2 := HNL.out; have h3 := HVL.out; simp only [List.length_append, List.length_cons, List.length_nil, List.length_take, List.length_drop, List.length_replicate, fixB_length] <;> omega) (Ext.size (hE22.alloc _)) ?_; intro v23 w23 ho23 hb23; have hE23 := (hE22.alloc _).below hb23 (Nat.le_refl _); clear c3; have c3 := hb.one' (j := 3) rfl hE23)
              | fail)
            go_ret2
            refine ⟨_, rfl, ?_, HX.out.trans hE23⟩
            have e4 : greetBs ver thr n caps ch st pl = [] ++ [10] ++ (ver ++ [0]) ++ fixB thr 4 ++ n.take 8 ++ [0] ++ fixB lo 2 ++ [UInt8.ofNat ch.toNat] ++ fixB st 2 ++ fixB hi 2 ++ [0] ++ List.replicate 10 0 ++ n.drop 8 ++ [0] := by
              unfold greetBs endB
              rw [HKP.out, ← HLO.out, HHI.out]
              simp
            rw [e4]
            exact ho23.more (Ext.size HX.out)
          · go_wp2_with (first
              | (go_at_call 83; refine (has_g _ _ _ true HKP.out).mono ?_; rintro e wy ⟨rfl, rfl⟩)
              | ((with_reducible show AtS 55); refine wpl_append_rd bt (hoI.out.ext ((Ext.refl _).alloc _)) (rd_lit _ _ [21] (by rfl) (by simp) 1 _ (by rfl) (by rfl)) rfl _ _ rfl rfl rfl (by have h1 := HPL.out; have h2 := HNL.out; have h3 := HVL.out; simp only [List.length_append, List.length_cons, List.length_nil, List.length_take, List.length_drop, List.length_replicate, fixB_length] <;> omega) (Ext.size (HE.out.alloc _)) ?_; intro v20 w20 ho20 hb20; have hE20 := (HE.out.alloc _).below hb20 (Nat.le_refl _))
              | ((with_reducible show AtS 56); refine wpl_append_zeros bt Tryz.underlying3 ho20 10 (by omega) rfl _ _ rfl rfl _ rfl (by have h1 := HPL.out; have h2 := HNL.out; have h3 := HVL.out; simp only [List.length_append, List.length_cons, List.length_nil, List.length_take, List.length_drop, List.length_replicate, fixB_length] <;> omega) (Ext.size hE20) ?_; intro v21 w21 ho21 hb21 hg21; have hE21 := hE20.below hb21 (Nat.le_refl _); have c2 := hb.one' (j := 2) rfl hE21)
              | ((with_reducible show AtS 60); refine wpl_cut_lo bt HN.out 8 (by omega) (by have := HNL.out; omega) rfl _ _ _ rfl rfl rfl ?_; intro A5 m5 k5 hr5; rw [show (8 : Int).toNat = 8 from rfl] at hr5)
              | ((with_reducible show AtS 61); refine wpl_append_rd bt ho21 (hr5.ext (HX.out.trans hE21)) rfl _ _ rfl rfl rfl (by have h1 := HPL.out; have h2 := HNL.out; have h3 := HVL.out; simp only [List.length_append, List.length_cons, List.length_nil, List.length_take, List.length_drop, List.length_replicate, fixB_length] <;> omega) (Ext.size hE21) ?_; intro v22 w22 ho22 hb22; have hE22 := hE21.below hb22 (Nat.le_refl _); clear c2)
              | ((with_reducible show AtS 63); refine wpl_append_rd bt (ho22.ext ((Ext.refl _).alloc _)) (rd_lit _ _ [0] (by rfl) (by simp) 1 _ (by rfl) (by rfl)) rfl _ _ rfl rfl rfl (by have h1 := HPL.out; have h2 := HNL.out; have h3 := HVL.out; simp only [List.length_append, List.length_cons, List.length_nil, List.length_take, List.length_drop, List.length_replicate, fixB_length] <;> omega) (Ext.size (hE22.alloc _)) ?_; intro v23 w23 ho23 hb23; have hE23 := (hE22.alloc _).below hb23 (Nat.le_refl _); clear c3; have c3 := hb.one' (j := 3) rfl hE23; have c6 := hb.one' (j := 6) rfl hE23)
              | (go_at_call 96; refine (endedA_g _ _ _ pl ho23.rd (by have := HPL.out; omega) (by have h1 := HPL.out; have h2 := HNL.out; have h3 := HVL.out; simp only [List.length_append, List.length_cons, List.length_nil, List.length_take, List.length_drop, List.length_replicate, fixB_length] <;> omega) HZP.out).mono ?_; rintro e w24 ⟨v24, rfl, ho24, hx24⟩)
              | fail)
            go_ret2
            refine ⟨_, rfl, ?_, HX.out.trans (hE23.trans hx24)⟩
            have e4 : greetBs ver thr n caps ch st pl = [] ++ [10] ++ (ver ++ [0]) ++ fixB thr 4 ++ n.take 8 ++ [0] ++ fixB lo 2 ++ [UInt8.ofNat ch.toNat] ++ fixB st 2 ++ fixB hi 2 ++ [21] ++ List.replicate 10 0 ++ n.drop 8 ++ [0] ++ (pl ++ [0]) := by
              unfold greetBs endB
              rw [HKP.out, ← HLO.out, HHI.out]
              simp
            rw [e4]
            exact ho24.more (Nat.le_trans (Ext.size HX.out) (Ext.size hE23))
end Go.Proofs.YtbodppfpmpmadaaGreat

