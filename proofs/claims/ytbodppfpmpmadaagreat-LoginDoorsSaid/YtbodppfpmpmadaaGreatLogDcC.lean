import Derived.Test.YtbodppfpmpmadaaGreatLogDbC
import Derived.Test.YtbodppfpmpmadaaGreatL17C
import Derived.Test.YtbodppfpmpmadaaGreatRfNdC
import Derived.Test.YtbodppfpmpmadaaGreatL18C
import Derived.Test.YtbodppfpmpmadaaGreatL16C
namespace Go.Proofs.YtbodppfpmpmadaaGreat
open Go.RowKit

theorem greetBs_len (ver : List UInt8) (thr : Int) (n : List UInt8) (caps ch st : Int) (pl : List UInt8) (h1 : ver.length ≤ 3000) (h2 : pl.length ≤ 3000) (h3 : n.length ≤ 100) : (greetBs ver thr n caps ch st pl).length ≤ 100000000 := by
  simp only [greetBs, List.length_append, List.length_cons, List.length_nil, List.length_take, List.length_drop, List.length_replicate, fixB_length]
  have : (endB (hasC caps 524288) pl).length ≤ 3001 := by
    unfold endB
    split
    · simp; omega
    · simp
  omega
theorem rd_block {w : World} {v : Value} {l : List UInt8} (h : Rd w v l) (hl : l ≠ []) {g : Nat} (hg : w.heap.size ≤ g) : v.ownBlock ≠ some g := by
  obtain ⟨A, cap, rfl, _, _, _, hc⟩ := h
  obtain ⟨b, o, rfl, hcell⟩ := hc hl
  have h1 := World.block_lt_of_cell? w _ (hcell 0 (List.length_pos_iff.2 hl))
  intro e
  have : b = g := by simpa [Value.ownBlock] using e
  dsimp only at h1
  omega
set_option maxRecDepth 100000 in
set_option maxHeartbeats 4000000 in
theorem doors_main (w : World) (us : List UserV) (ver n pl : List UInt8) (thr caps ch st : Int) (vn vu vl vb vo : Value) (ls : List (List UInt8)) (bs : List Bool) (other : List UInt8) (hus : Recs w 5 vu (us.map userC)) (hn : Rd w vn n) (hl : Lists w vl ls) (hb : Bls w vb bs) (ho : Rd w vo other) (hnl : ∀ k, k < us.length → (us.getD k userZ).name.length ≤ 9223372036854775807 ∧ (us.getD k userZ).pw.length ≤ 9223372036854775807 ∧ (us.getD k userZ).sc.length ≤ 9223372036854775807)
    (ht : 0 ≤ thr ∧ thr < 4294967296) (hcaps : 0 ≤ caps ∧ caps < 4294967296) (hch : 0 ≤ ch ∧ ch < 256) (hst : 0 ≤ st ∧ st < 65536) (hq : smallQ ls = true) (h0 : ¬ (us.length : Int) > 100) (h1 : ¬ (other.length : Int) > 100) (h2 : ¬ ((strL ver).size : Int) > 3000) (h3 : ¬ ((strL pl).size : Int) > 3000) (h4 : ¬ (n.length : Int) > 100) :
    Calls Tryz.prog 4 #[vu, .agg #[.string (strL ver), .int .u32 thr, vn, .int .u32 caps, .int .u8 ch, .int .u16 st, .string (strL pl)], vl, vb, vo] w fun e w' => e = .returned (.bool true) ∧ Ext w w' := by
  have HVL := Lib.hid (show ver.length ≤ 3000 by rw [strL_size] at h2; omega)
  have HPL := Lib.hid (show pl.length ≤ 3000 by rw [strL_size] at h3; omega)
  have HNL := Lib.hid hnl
  have HR := Lib.hid (And.intro ht (And.intro hcaps (And.intro hch hst)))
  have HSM := Lib.hid (of_decide_eq_true hq)
  have HUS := Lib.hid hus
  have HL := Lib.hid hl
  have HBL := Lib.hid hb
  have HOT := Lib.hid ho
  obtain ⟨Au, cu, hvu, hleu, hmu⟩ := hus.shape
  rw [List.length_map] at hvu hleu
  obtain ⟨N, hN⟩ : ∃ N, N = us.length := ⟨_, rfl⟩
  rw [← hN] at hvu hleu h0
  subst hvu
  have HN := Lib.hid hN
  obtain ⟨An, cn, rfl, _⟩ := id hn
  have HNN := Lib.hid hn
  obtain ⟨Ao, co, rfl, _⟩ := id ho
  obtain ⟨Al, cl, hvl, hlel, hml, _⟩ := id hl
  obtain ⟨M, hM⟩ : ∃ M, M = ls.length := ⟨_, rfl⟩
  rw [← hM] at hvl hlel
  subst hvl
  have HM := Lib.hid hM
  obtain ⟨Ab, cb, hvb, hleb, hmb, _⟩ := id hb
  obtain ⟨MB, hMB⟩ : ∃ MB, MB = bs.length := ⟨_, rfl⟩
  rw [← hMB] at hvb hleb
  subst hvb
  have HMB := Lib.hid hMB
  unfold maxLen at hmu hml hmb
  have HQ := Lib.hid hq
  have HH4 := Lib.hid h4
  have HH0 := Lib.hid h0
  have HOL := Lib.hid (show other.length ≤ 100 by omega)
  clear hus hl hb ho hn hN hM hMB hq hnl ht hcaps hch hst
  go_enter Tryz.func4, Tryz.ntmps4
  go_upto_region 1 with fail
  generalize hW0 : w.alloc _ = wS
  have hb0 : BoxF wS w.heap.size [.string (strL ver), .int .u32 thr, .slice An n.length cn, .int .u32 caps, .int .u8 ch, .int .u16 st, .string (strL pl)] := by rw [← hW0]; exact BoxF.new w _ _
  have hx0 : Ext w wS := by rw [← hW0]; exact (Ext.refl w).alloc _
  clear hW0
  have HB0 := Lib.hid hb0
  have HX0 := Lib.hid hx0
  clear hb0 hx0
  go_wp2_with (first
    | (go_at_call 17; refine (lives27_c _).mono ?_; rintro e w1 ⟨rfl, hx1⟩; have B1 := HB0.out.ext hx1; have g0 := B1.at (j := 0) rfl; have g2 := B1.at (j := 2) rfl; have g6 := B1.at (j := 6) rfl)
    | (go_at_call 18; refine (small27_c _ _ ls (HL.out.ext (HX0.out.trans hx1))).mono ?_; rw [HQ.out]; rintro e wx ⟨rfl, rfl⟩)
    | fail)
  clear g0 g2 g6 h0 h1 h2 h3 h4
  have HX1 := Lib.hid (HX0.out.trans hx1)
  have HB1 := Lib.hid B1
  clear hx1 B1
  go_loopw [11] (fun i W => ∃ k : Nat, k ≤ N ∧ i = .int .i64 k ∧ Ext w1 W) (fun i _ => N - (intOf i).toNat)
  case atStart => exact ⟨0, Nat.zero_le _, rfl, Ext.refl _⟩
  case round =>
    obtain ⟨k, hk, rfl, hx⟩ := hrel
    by_cases hkN : k < N
    · have hbk : (k : Int) < (N : Int) := by omega
      obtain ⟨b0, o0, rfl, hn2, hcs⟩ := (HUS.out.ext (HX1.out.trans hx)).at_ (A := Au) (n := N) (cap := cu) (by omega)
      have hck := hcs k hkN
      rw [rangeAt_userC us k (by have := HN.out; omega)] at hck
      have hsz := HNL.out k (by have := HN.out; omega)
      generalize us.getD k userZ = u at hck hsz
      obtain ⟨nm, pw, plg, sc, ad⟩ := u
      dsimp only at hsz
      have HSZ := Lib.hid hsz
      have HX := Lib.hid hx
      have e0 := hck 0 (.string (strL nm)) rfl
      have e1 := hck 1 (.string (strL pw)) rfl
      have e2 := hck 2 (.string (strL plg)) rfl
      have e3 := hck 3 (.string (strL sc)) rfl
      have e4 := hck 4 (.bool ad) rfl
      rw [Nat.add_zero] at e0
      obtain ⟨cu9, hcu9⟩ : ∃ c, checkU ⟨nm, pw, plg, sc, ad⟩ = c := ⟨_, rfl⟩
      have HCU := Lib.hid hcu9
      clear hck hcs hn2 hx hsz hcu9
      go_wp2_with fail
      have hE := Ext.refl wr
      go_region_held3 (fun W' => W'.cell? ⟨b0, o0 + k * 5, none⟩ = some (.string (strL nm)) ∧ W'.cell? ⟨b0, o0 + k * 5 + 1, none⟩ = some (.string (strL pw)) ∧ W'.cell? ⟨b0, o0 + k * 5 + 2, none⟩ = some (.string (strL plg)) ∧ W'.cell? ⟨b0, o0 + k * 5 + 3, none⟩ = some (.string (strL sc)) ∧ W'.cell? ⟨b0, o0 + k * 5 + 4, none⟩ = some (.bool ad) ∧ Ext wr W') ((refine (fun h => ⟨Ext.cell h e0, Ext.cell h e1, Ext.cell h e2, Ext.cell h e3, Ext.cell h e4, h⟩) ?_; repeat' (first | with_reducible exact hE | (with_reducible refine Ext.drew ?_) | (with_reducible refine Ext.alloc ?_ _))))
        (first
          | (go_at_call 19; go_must (refine (checkU_c _ nm pw plg sc ad).mono ?_; rw [HCU.out]; rintro e w5 ⟨rfl, hx5⟩; replace hE : Ext wr w5 := Ext.trans (by repeat' (first | exact hE | (with_reducible refine Ext.drew ?_) | (with_reducible refine Ext.alloc ?_ _))) hx5))
          | (go_at_call 20; go_must (refine (checkUR_c _ nm pw plg sc ad HSZ.out.1 HSZ.out.2.1 HSZ.out.2.2).mono ?_; rw [HCU.out]; rintro e w6 ⟨rfl, hx6⟩; replace hE : Ext wr w6 := Ext.trans (by repeat' (first | exact hE | (with_reducible refine Ext.drew ?_) | (with_reducible refine Ext.alloc ?_ _))) hx6))
          | fail)
      all_goals
        clear e0 e1 e2 e3 e4
        go_wp2_with fail
        go_roundw
        case rel => exact ⟨k + 1, by omega, by go_num, HX.out.trans hE⟩
        case measure => simp [intOf]; omega
    · obtain rfl : k = N := by omega
      have hb9 : ¬ (k : Int) < (k : Int) := by omega
      have HX := Lib.hid (HX1.out.trans hx)
      have HB := Lib.hid (HB1.out.ext hx)
      clear hx
      by_cases hmay : DoorMay us ⟨ver, thr, n, caps, ch, st, pl⟩
      · have HMAY := Lib.hid hmay
        have HG := Lib.hid (show DoorMay us ⟨ver, thr, n, caps, ch, st, pl⟩ from hmay)
        clear hmay
        obtain ⟨G, hG⟩ : ∃ G, G = greetBs ver thr n caps ch st pl := ⟨_, rfl⟩
        have HGG := Lib.hid hG
        have HGL := Lib.hid (show G.length ≤ 100000000 by rw [hG]; exact greetBs_len ver thr n caps ch st pl HVL.out HPL.out (by have := HH4.out; omega))
        clear hG
        have hmay := HG.out
        have HD0 := Lib.hid (show ∀ (w : World) (v : Value) (vn : Value), Recs w 5 v (us.map userC) → Rd w vn n → Calls Tryz.prog 21 #[v, .agg #[.string (strL ver), .int .u32 thr, vn, .int .u32 caps, .int .u8 ch, .int .u16 st, .string (strL pl)]] w fun e w' => ∃ g, e = .returned (.tuple #[.pointer (some ⟨g, 0, none⟩), .int .i64 0]) ∧ w.heap.size ≤ g ∧ g < w'.heap.size ∧ Ext w w' ∧ ∀ S : List Nat, g ∈ S → (∀ x ∈ S, x = g ∨ x < w.heap.size) → DoorIs w' S g (door0 us caps n G) from fun w v vn h1 h2 => by rw [HGG.out]; exact newDoor_ok w v us ver n pl thr caps ch st vn h1 hmay.1 hmay.2.1 h2 hmay.2.2.1.ver hmay.2.2.1.pl hmay.2.2.1.n20 hmay.2.2.1.nonce hmay.2.2.1.core hmay.2.2.1.plF HR.out.1 HR.out.2.1 HR.out.2.2.1 HR.out.2.2.2 (by have := HPL.out; omega) (by have := HVL.out; omega) hmay.2.2.2)
        have HR0 := Lib.hid (show ∀ (w : World) (v : Value) (vn : Value), Recs w 5 v (us.map userC) → Rd w vn n → Calls Tryz.prog 22 #[v, .agg #[.string (strL ver), .int .u32 thr, vn, .int .u32 caps, .int .u8 ch, .int .u16 st, .string (strL pl)]] w fun e w' => ∃ g, e = .returned (.tuple #[.pointer (some ⟨g, 0, none⟩), .int .i64 0]) ∧ w.heap.size ≤ g ∧ g < w'.heap.size ∧ Ext w w' ∧ ∀ S : List Nat, g ∈ S → (∀ x ∈ S, x = g ∨ x < w.heap.size) → RefIs w' S g (door0 us caps n G) from fun w v vn h1 h2 => by rw [HGG.out]; exact newDoorR_ok w v us ver n pl thr caps ch st vn h1 hmay.1 hmay.2.1 h2 hmay.2.2.1 (by have := HPL.out; omega) (by have := HVL.out; omega) hmay.2.2.2)
        have HFT := Lib.hid (door0_fit hmay.1 caps n G ⟨hmay.2.2.1.n20, hmay.2.2.1.nonce⟩)
        clear hmay
        go_wp2_with (first
          | ((with_reducible show AtS 71); refine wpl_load_box rfl _ _ rfl _ rfl HB.out Tryz.underlying29 rfl (by kernel_rfl) ?_)
          | (go_at_call 21; refine (HD0.out _ _ _ (by exact HUS.out.ext HX.out) (HNN.out.ext HX.out)).mono ?_; rintro e w2 ⟨g1, rfl, hg1, hg12, hx2, hd2⟩)
          | ((with_reducible show AtS 77); refine wpl_load_box rfl _ _ rfl _ rfl (HB.out.ext hx2) Tryz.underlying29 rfl (by kernel_rfl) ?_)
          | (go_at_call 22; refine (HR0.out _ _ _ (by exact HUS.out.ext (HX.out.trans hx2)) (HNN.out.ext (HX.out.trans hx2))).mono ?_; rintro e w3 ⟨g2, rfl, hg2, hg23, hx3, hr3⟩)
          | fail)
        have hs2 := Ext.size hx2
        have hs3 := Ext.size hx3
        have hgw1 : w.heap.size ≤ g1 := Nat.le_trans (Ext.size HX.out) hg1
        have hgw2 : w.heap.size ≤ g2 := by have := Ext.size HX.out; omega
        have hne : g1 ≠ g2 := by omega
        have hd := (hd2 [g1] (by simp) (by intro x hx; left; simpa using hx)).more (S' := [g1, g2]) (w' := w3) (by intro x hx; rcases (show x = g1 ∨ x = g2 by simpa using hx) with rfl | rfl; exact .inl (by simp); exact .inr hg2) hx3 (by intro x hx; rcases (show x = g1 ∨ x = g2 by simpa using hx) with rfl | rfl; omega; exact hg23) (by intro x hx; have e : x = g1 := (by simpa using hx); simp [e])
        have hr := hr3 [g1, g2] (by simp) (by intro x hx; rcases (show x = g1 ∨ x = g2 by simpa using hx) with rfl | rfl; exact .inr hg12; exact .inl rfl)
        have hxA : Ext w w3 := (HX.out.trans hx2).trans hx3
        have HD3 := Lib.hid hd
        have HR3 := Lib.hid hr
        have HXA := Lib.hid hxA
        have HW1 := Lib.hid hgw1
        have HW2 := Lib.hid hgw2
        have HNE := Lib.hid hne
        clear hd2 hr3 hd hr hxA hgw1 hgw2 hne hg1 hg2 hg12 hg23 hs2 hs3 hx2 hx3
        have HLM := Lib.hid (show M ≤ 100 by rw [HM.out]; exact HSM.out.2)
        go_loopw [13, 15, 16, 17, 18] (fun _ _ i _ _ W => ∃ m : Nat, ∃ D : DoorV, m ≤ M ∧ i = .int .i64 m ∧ DoorIs W [g1, g2] g1 D ∧ RefIs W [g1, g2] g2 D ∧ DoorFit D ∧ Kept D G ∧ Ext w W) (fun _ _ i _ _ _ => M - (intOf i).toNat)
        case atStart => exact ⟨0, _, Nat.zero_le _, rfl, HD3.out, HR3.out, HFT.out, ⟨by show (1 : Int) ≠ 0; decide, rfl⟩, HXA.out⟩
        case round =>
          obtain ⟨m, D, hm, rfl, hd, hr, hf, hkp, hx⟩ := hrel
          have HD := Lib.hid hd
          have HRR := Lib.hid hr
          have HF := Lib.hid hf
          have HKP := Lib.hid hkp
          have HX9 := Lib.hid hx
          clear hd hr hf hkp hx
          by_cases hmM : m < M
          · have hmi : (m : Int) < (M : Int) := by omega
            obtain ⟨L, u, b, o, hLb, hA, hcw, hrw⟩ : ∃ L u b o, L.length ≤ 3000 ∧ Al = some ⟨b, o, none⟩ ∧ w.cell? ⟨b, o + m, none⟩ = some u ∧ Rd w u L := by
              obtain ⟨A', cap', hv, _, _, h4⟩ := HL.out
              injection hv with e1 e2 e3
              subst e1
              obtain ⟨b, o, hb, hc⟩ := h4 (by intro e; have := HM.out; subst e; simp at this; omega)
              obtain ⟨u, hu, hr⟩ := hc m (by have := HM.out; omega)
              exact ⟨_, u, b, o, HSM.out.1 m (by have := HM.out; omega), hb, hu, hr⟩
            subst hA
            obtain ⟨Aq, cq, rfl, hleq, hmq, hz⟩ := id hrw
            clear hz
            have HRU := Lib.hid hrw
            have HCW := Lib.hid hcw
            have HLB := Lib.hid hLb
            clear hrw hcw hLb
            by_cases hmB : m < MB
            · have hmBi : (m : Int) < (MB : Int) := by omega
              obtain ⟨bb, ob, hAb, hcb⟩ : ∃ bb ob, Ab = some ⟨bb, ob, none⟩ ∧ w.cell? ⟨bb, ob + m, none⟩ = some (.bool (bs.getD m false)) := by
                obtain ⟨A', cap', hv, _, _, h4⟩ := HBL.out
                injection hv with e1 e2 e3
                subst e1
                obtain ⟨bb, ob, hb, hc⟩ := h4 (by have := HMB.out; omega)
                exact ⟨bb, ob, hb, hc m (by have := HMB.out; omega)⟩
              subst hAb
              have hcb2 := HX9.out.cell hcb
              clear hcb
              cases hq9 : bs.getD m false with
              | true =>
                rw [hq9] at hcb2
                clear hq9
                obtain ⟨⟨pk, er, D9⟩, hP⟩ : ∃ x, changeUP D L other = x := ⟨_, rfl⟩
                have HP := Lib.hid hP
                have hf9 : DoorFit D9 := by have h := changeUP_fit HF.out L other; rw [hP] at h; exact h
                have hk9 : Kept D9 G := by have h := changeUP_kept HKP.out L other; rw [hP] at h; exact h
                have HF9 := Lib.hid hf9
                have HK9 := Lib.hid hk9
                obtain ⟨un, up, ul, us9, ua, hU⟩ := user_shape (D9.st = 2) D9.u
                have HU := Lib.hid hU
                obtain ⟨sch, hsch⟩ : ∃ s, (if D9.st = 2 then strL D9.sc else ByteArray.empty) = s := ⟨_, rfl⟩
                have HSC := Lib.hid hsch
                have ec := HX9.out.cell HCW.out
                have eca : (wr.alloc (.cells #[] 5)).cell? ⟨b, o + m, none⟩ = some (.slice Aq L.length cq) := ((Ext.refl _).alloc _).cell ec
                clear hP hf9 hk9 hU hsch
                go_wp2_with (first
                  | ((with_reducible show AtS 116); refine wpl_append_rd bt (own_nil wr wr.heap.size wr.heap.size rfl (Nat.le_refl _)) (HRU.out.ext (HX9.out.alloc _)) rfl _ _ rfl rfl rfl (by have := HLB.out; simp; omega) (by simp) ?_; intro v6 w6 ho6 hb6; have hx6 : Ext wr w6 := ((Ext.refl wr).alloc _).below hb6 (Nat.le_refl _); rw [List.nil_append] at ho6; obtain ⟨A6, c6, hv6, _⟩ := id ho6.rd; subst hv6)
                  | ((with_reducible show AtS 119); refine wpl_append_rd bt (own_nil w6 w6.heap.size w6.heap.size rfl (Nat.le_refl _)) (HOT.out.ext ((HX9.out.trans hx6).alloc _)) rfl _ _ rfl rfl rfl (by have := HOL.out; simp; omega) (by simp) ?_; intro v7 w7 ho7 hb7; have hx7 : Ext w6 w7 := ((Ext.refl w6).alloc _).below hb7 (Nat.le_refl _); rw [List.nil_append] at ho7; obtain ⟨A7, c7, hv7, _⟩ := id ho7.rd; subst hv7; have hx67 := hx6.trans hx7)
                  | (go_at_call 7; refine (changeU_d _ [g1, g2] g1 D L other _ _ (HD.out.ext hx67) (ho6.rd.ext hx7) (by have := HLB.out; omega) ho7.rd HF.out).mono ?_; rw [HP.out]; rintro e w8 ⟨v8, rfl, hl8, hd8, O8⟩; have hX8 : Ext w w8 := (HX9.out.trans hx67).on O8 HW1.out; have ec8 := hX8.cell HCW.out; have hr8 := (HRR.out.ext hx67).on O8 (by simp) HNE.out.symm)
                  | (go_at_call 23; refine (changeU_r _ [g1, g2] g2 D L other _ _ hr8 HKP.out.1 (HRU.out.ext hX8) (by have := HLB.out; omega) (HOT.out.ext hX8) (fun hne => rd_block HOT.out hne HW2.out) HF.out).mono ?_; rw [HP.out]; rintro e w9 ⟨v9, rfl, hl9, hr9, O9⟩; have hX9 : Ext w w9 := hX8.on O9 HW2.out; have hd9 := hd8.on O9 (by simp) HNE.out; have hL8 := (hl8.on O9 (by have h1 := HRR.out.lt g2 (by simp); have h2 := Ext.size hx67; omega)).lists)
                  | (go_at_call 25; refine (packets27_c _ _ _ pk hL8 hl9.lists).mono ?_; rintro e w10 ⟨rfl, hx10⟩; have hd10 := hd9.ext hx10; have hr10 := hr9.ext hx10)
                  | (go_at_call 10; refine (state_d _ [g1, g2] g1 D9 hd10).mono ?_; rintro e wx ⟨rfl, rfl⟩)
                  | (go_at_call 26; refine (stateR_c _ [g1, g2] g2 D9 hr10).mono ?_; rintro e wx ⟨rfl, rfl⟩)
                  | (go_at_call 11; refine (caps_d _ [g1, g2] g1 D9 hd10 HK9.out.1).mono ?_; rintro e wx ⟨rfl, rfl⟩)
                  | (go_at_call 27; refine (capsR_c _ [g1, g2] g2 D9 hr10).mono ?_; rintro e wx ⟨rfl, rfl⟩)
                  | (go_at_call 12; refine (user_d _ [g1, g2] g1 D9 hd10).mono ?_; rw [HU.out]; rintro e w11 ⟨rfl, hx11⟩; have hr11 := hr10.ext hx11)
                  | (go_at_call 28; refine (userRf_c _ [g1, g2] g2 D9 hr11).mono ?_; rw [HU.out]; rintro e w12 ⟨rfl, hx12⟩; have hr12 := hr11.ext hx12; have hd12 := (hd10.ext hx11).ext hx12)
                  | (go_at_call 13; refine (schema_d _ [g1, g2] g1 D9 hd12).mono ?_; rw [HSC.out]; rintro e wx ⟨rfl, rfl⟩)
                  | (go_at_call 29; refine (schemaR_c _ [g1, g2] g2 D9 hr12).mono ?_; rw [HSC.out]; rintro e wx ⟨rfl, rfl⟩)
                  | fail)
                go_roundw
                case rel => exact ⟨m + 1, D9, by omega, by go_num, hd12, hr12, HF9.out, HK9.out, ((hX9.trans hx10).trans hx11).trans hx12⟩
                case measure => simp [intOf]; omega
              | false =>
                rw [hq9] at hcb2
                clear hq9
                obtain ⟨⟨pk, er, D9⟩, hP⟩ : ∃ x, feedP D L = x := ⟨_, rfl⟩
                have HP := Lib.hid hP
                have hf9 : DoorFit D9 := by have h := feedP_fit HF.out L; rw [hP] at h; exact h
                have hk9 : Kept D9 G := by have h := feedP_kept HKP.out L; rw [hP] at h; exact h
                have HF9 := Lib.hid hf9
                have HK9 := Lib.hid hk9
                obtain ⟨un, up, ul, us9, ua, hU⟩ := user_shape (D9.st = 2) D9.u
                have HU := Lib.hid hU
                obtain ⟨sch, hsch⟩ : ∃ s, (if D9.st = 2 then strL D9.sc else ByteArray.empty) = s := ⟨_, rfl⟩
                have HSC := Lib.hid hsch
                have ec := HX9.out.cell HCW.out
                have eca : (wr.alloc (.cells #[] 5)).cell? ⟨b, o + m, none⟩ = some (.slice Aq L.length cq) := ((Ext.refl _).alloc _).cell ec
                clear hP hf9 hk9 hU hsch
                go_wp2_with (first
                  | ((with_reducible show AtS 140); refine wpl_append_rd bt (own_nil wr wr.heap.size wr.heap.size rfl (Nat.le_refl _)) (HRU.out.ext (HX9.out.alloc _)) rfl _ _ rfl rfl rfl (by have := HLB.out; simp; omega) (by simp) ?_; intro v6 w6 ho6 hb6; have hx6 : Ext wr w6 := ((Ext.refl wr).alloc _).below hb6 (Nat.le_refl _); rw [List.nil_append] at ho6; obtain ⟨A6, c6, hv6, _⟩ := id ho6.rd; subst hv6)
                  | (go_at_call 6; refine (feed_d _ [g1, g2] g1 D L _ (HD.out.ext hx6) ho6.rd (by have := HLB.out; omega) HF.out).mono ?_; rw [HP.out]; rintro e w8 ⟨v8, rfl, hl8, hd8, O8⟩; have hX8 : Ext w w8 := (HX9.out.trans hx6).on O8 HW1.out; have ec8 := hX8.cell HCW.out; have hr8 := (HRR.out.ext hx6).on O8 (by simp) HNE.out.symm)
                  | (go_at_call 24; refine (feed_r _ [g1, g2] g2 D L _ hr8 (HRU.out.ext hX8) (by have := HLB.out; omega) HF.out HKP.out.1).mono ?_; rw [HP.out]; rintro e w9 ⟨v9, rfl, hl9, hr9, O9⟩; have hX9 : Ext w w9 := hX8.on O9 HW2.out; have hd9 := hd8.on O9 (by simp) HNE.out; have hL8 := (hl8.on O9 (by have h1 := HRR.out.lt g2 (by simp); have h2 := Ext.size hx6; omega)).lists)
                  | (go_at_call 25; refine (packets27_c _ _ _ pk hL8 hl9.lists).mono ?_; rintro e w10 ⟨rfl, hx10⟩; have hd10 := hd9.ext hx10; have hr10 := hr9.ext hx10)
                  | (go_at_call 10; refine (state_d _ [g1, g2] g1 D9 hd10).mono ?_; rintro e wx ⟨rfl, rfl⟩)
                  | (go_at_call 26; refine (stateR_c _ [g1, g2] g2 D9 hr10).mono ?_; rintro e wx ⟨rfl, rfl⟩)
                  | (go_at_call 11; refine (caps_d _ [g1, g2] g1 D9 hd10 HK9.out.1).mono ?_; rintro e wx ⟨rfl, rfl⟩)
                  | (go_at_call 27; refine (capsR_c _ [g1, g2] g2 D9 hr10).mono ?_; rintro e wx ⟨rfl, rfl⟩)
                  | (go_at_call 12; refine (user_d _ [g1, g2] g1 D9 hd10).mono ?_; rw [HU.out]; rintro e w11 ⟨rfl, hx11⟩; have hr11 := hr10.ext hx11)
                  | (go_at_call 28; refine (userRf_c _ [g1, g2] g2 D9 hr11).mono ?_; rw [HU.out]; rintro e w12 ⟨rfl, hx12⟩; have hr12 := hr11.ext hx12; have hd12 := (hd10.ext hx11).ext hx12)
                  | (go_at_call 13; refine (schema_d _ [g1, g2] g1 D9 hd12).mono ?_; rw [HSC.out]; rintro e wx ⟨rfl, rfl⟩)
                  | (go_at_call 29; refine (schemaR_c _ [g1, g2] g2 D9 hr12).mono ?_; rw [HSC.out]; rintro e wx ⟨rfl, rfl⟩)
                  | fail)
                go_roundw
                case rel => exact ⟨m + 1, D9, by omega, by go_num, hd12, hr12, HF9.out, HK9.out, ((hX9.trans hx10).trans hx11).trans hx12⟩
                case measure => simp [intOf]; omega
            · have hmBi : ¬ (m : Int) < (MB : Int) := by omega
              obtain ⟨⟨pk, er, D9⟩, hP⟩ : ∃ x, feedP D L = x := ⟨_, rfl⟩
              have HP := Lib.hid hP
              have hf9 : DoorFit D9 := by have h := feedP_fit HF.out L; rw [hP] at h; exact h
              have hk9 : Kept D9 G := by have h := feedP_kept HKP.out L; rw [hP] at h; exact h
              have HF9 := Lib.hid hf9
              have HK9 := Lib.hid hk9
              obtain ⟨un, up, ul, us9, ua, hU⟩ := user_shape (D9.st = 2) D9.u
              have HU := Lib.hid hU
              obtain ⟨sch, hsch⟩ : ∃ s, (if D9.st = 2 then strL D9.sc else ByteArray.empty) = s := ⟨_, rfl⟩
              have HSC := Lib.hid hsch
              have ec := HX9.out.cell HCW.out
              have eca : (wr.alloc (.cells #[] 5)).cell? ⟨b, o + m, none⟩ = some (.slice Aq L.length cq) := ((Ext.refl _).alloc _).cell ec
              clear hP hf9 hk9 hU hsch
              go_wp2_with (first
                | ((with_reducible show AtS 140); refine wpl_append_rd bt (own_nil wr wr.heap.size wr.heap.size rfl (Nat.le_refl _)) (HRU.out.ext (HX9.out.alloc _)) rfl _ _ rfl rfl rfl (by have := HLB.out; simp; omega) (by simp) ?_; intro v6 w6 ho6 hb6; have hx6 : Ext wr w6 := ((Ext.refl wr).alloc _).below hb6 (Nat.le_refl _); rw [List.nil_append] at ho6; obtain ⟨A6, c6, hv6, _⟩ := id ho6.rd; subst hv6)
                | (go_at_call 6; refine (feed_d _ [g1, g2] g1 D L _ (HD.out.ext hx6) ho6.rd (by have := HLB.out; omega) HF.out).mono ?_; rw [HP.out]; rintro e w8 ⟨v8, rfl, hl8, hd8, O8⟩; have hX8 : Ext w w8 := (HX9.out.trans hx6).on O8 HW1.out; have ec8 := hX8.cell HCW.out; have hr8 := (HRR.out.ext hx6).on O8 (by simp) HNE.out.symm)
                | (go_at_call 24; refine (feed_r _ [g1, g2] g2 D L _ hr8 (HRU.out.ext hX8) (by have := HLB.out; omega) HF.out HKP.out.1).mono ?_; rw [HP.out]; rintro e w9 ⟨v9, rfl, hl9, hr9, O9⟩; have hX9 : Ext w w9 := hX8.on O9 HW2.out; have hd9 := hd8.on O9 (by simp) HNE.out; have hL8 := (hl8.on O9 (by have h1 := HRR.out.lt g2 (by simp); have h2 := Ext.size hx6; omega)).lists)
                | (go_at_call 25; refine (packets27_c _ _ _ pk hL8 hl9.lists).mono ?_; rintro e w10 ⟨rfl, hx10⟩; have hd10 := hd9.ext hx10; have hr10 := hr9.ext hx10)
                | (go_at_call 10; refine (state_d _ [g1, g2] g1 D9 hd10).mono ?_; rintro e wx ⟨rfl, rfl⟩)
                | (go_at_call 26; refine (stateR_c _ [g1, g2] g2 D9 hr10).mono ?_; rintro e wx ⟨rfl, rfl⟩)
                | (go_at_call 11; refine (caps_d _ [g1, g2] g1 D9 hd10 HK9.out.1).mono ?_; rintro e wx ⟨rfl, rfl⟩)
                | (go_at_call 27; refine (capsR_c _ [g1, g2] g2 D9 hr10).mono ?_; rintro e wx ⟨rfl, rfl⟩)
                | (go_at_call 12; refine (user_d _ [g1, g2] g1 D9 hd10).mono ?_; rw [HU.out]; rintro e w11 ⟨rfl, hx11⟩; have hr11 := hr10.ext hx11)
                | (go_at_call 28; refine (userRf_c _ [g1, g2] g2 D9 hr11).mono ?_; rw [HU.out]; rintro e w12 ⟨rfl, hx12⟩; have hr12 := hr11.ext hx12; have hd12 := (hd10.ext hx11).ext hx12)
                | (go_at_call 13; refine (schema_d _ [g1, g2] g1 D9 hd12).mono ?_; rw [HSC.out]; rintro e wx ⟨rfl, rfl⟩)
                | (go_at_call 29; refine (schemaR_c _ [g1, g2] g2 D9 hr12).mono ?_; rw [HSC.out]; rintro e wx ⟨rfl, rfl⟩)
                | fail)
              go_roundw
              case rel => exact ⟨m + 1, D9, by omega, by go_num, hd12, hr12, HF9.out, HK9.out, ((hX9.trans hx10).trans hx11).trans hx12⟩
              case measure => simp [intOf]; omega
          · obtain rfl : m = M := by omega
            have hmi : ¬ (m : Int) < (m : Int) := by omega
            go_wp2_with (first
              | (go_at_call 9; refine (greeting_d _ [g1, g2] g1 D HD.out HKP.out.1 (by rw [HKP.out.2]; exact HGL.out)).mono ?_; rw [HKP.out.2]; rintro e w4 ⟨v4, rfl, ho4, hx4⟩)
              | (go_at_call 31; refine (greetingRf_c _ [g1, g2] g2 D (HRR.out.ext hx4)).mono ?_; rw [HKP.out.2]; rintro e w5 ⟨v5, rfl, ho5, hx5⟩)
              | (go_at_call 30; refine (same_c _ v4 v5 G G (ho4.rd.ext hx5) ho5.rd true (by simp)).mono ?_; rintro e wx ⟨rfl, rfl⟩)
              | fail)
            go_ret
            exact ⟨rfl, (HX9.out.trans hx4).trans hx5⟩
      · have HMAY := Lib.hid hmay
        clear hmay
        go_wp2_with (first
          | ((with_reducible show AtS 71); refine wpl_load_box rfl _ _ rfl _ rfl HB.out Tryz.underlying29 rfl (by kernel_rfl) ?_)
          | (go_at_call 21; refine (newDoor_no _ _ us ver n pl thr caps ch st _ (by exact HUS.out.ext HX.out) (by have := HH0.out; have := HN.out; omega) (fun k hk => (HNL.out k hk).1) (HNN.out.ext HX.out) HR.out.1 HR.out.2.1 HR.out.2.2.1 HR.out.2.2.2 (by have := HPL.out; omega) (by have := HVL.out; omega) HMAY.out).mono ?_; rintro e w2 ⟨rfl, hx2⟩)
          | ((with_reducible show AtS 77); refine wpl_load_box rfl _ _ rfl _ rfl (HB.out.ext hx2) Tryz.underlying29 rfl (by kernel_rfl) ?_)
          | (go_at_call 22; refine (newDoorR_no _ _ us ver n pl thr caps ch st _ (by exact HUS.out.ext (HX.out.trans hx2)) HNL.out (HNN.out.ext (HX.out.trans hx2)) HR.out.1 HR.out.2.1 HR.out.2.2.1 HR.out.2.2.2 (by have := HPL.out; omega) (by have := HVL.out; omega) HMAY.out).mono ?_; rintro e w3 ⟨rfl, hx3⟩)
          | fail)
        go_ret
        exact ⟨rfl, (HX.out.trans hx2).trans hx3⟩
end Go.Proofs.YtbodppfpmpmadaaGreat

