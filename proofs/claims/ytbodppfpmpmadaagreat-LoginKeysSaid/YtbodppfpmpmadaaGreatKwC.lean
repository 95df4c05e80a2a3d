import Derived.Test.YtbodppfpmpmadaaGreatL19C
import Derived.Test.YtbodppfpmpmadaaGreatL17C
namespace Go.Proofs.YtbodppfpmpmadaaGreat
open Go.RowKit

set_option maxRecDepth 100000 in
set_option maxHeartbeats 1000000 in
theorem keys_big0 (w : World) (us pw sc : List UInt8) (c ch : Int) (vl : Value) (ls : List (List UInt8)) (hl : Lists w vl ls) (hq : smallQ ls = false) :
    Calls Tryz.prog 5 #[.string (strL us), .string (strL pw), .string (strL sc), .int .u32 c, .int .u8 ch, vl] w fun e w' => e = .returned (.bool true) ∧ Ext w w' := by
  have HL := Lib.hid hl
  obtain ⟨Al, cl, hvl, hlel, hml, _⟩ := id hl
  obtain ⟨M, hM⟩ : ∃ M, M = ls.length := ⟨_, rfl⟩
  rw [← hM] at hvl hlel
  subst hvl
  have HM := Lib.hid hM
  unfold maxLen at hml
  have HQ := Lib.hid hq
  clear hl hM hq
  go_enter Tryz.func5, Tryz.ntmps5
  go_wp2_with (first
    | (go_at_call 17; refine (lives27_c _).mono ?_; rintro e w1 ⟨rfl, hx1⟩)
    | (go_at_call 18; refine (small27_c _ _ ls (HL.out.ext hx1)).mono ?_; rw [HQ.out]; rintro e wx ⟨rfl, rfl⟩)
    | fail)
  go_ret
  exact ⟨rfl, hx1⟩
set_option maxRecDepth 100000 in
set_option maxHeartbeats 1000000 in
theorem keys_big1 (w : World) (us pw sc : List UInt8) (c ch : Int) (vl : Value) (ls : List (List UInt8)) (hl : Lists w vl ls) (hq : smallQ ls = true) (h0 : ((strL us).size : Int) > 3000) :
    Calls Tryz.prog 5 #[.string (strL us), .string (strL pw), .string (strL sc), .int .u32 c, .int .u8 ch, vl] w fun e w' => e = .returned (.bool true) ∧ Ext w w' := by
  have HL := Lib.hid hl
  obtain ⟨Al, cl, hvl, hlel, hml, _⟩ := id hl
  obtain ⟨M, hM⟩ : ∃ M, M = ls.length := ⟨_, rfl⟩
  rw [← hM] at hvl hlel
  subst hvl
  have HM := Lib.hid hM
  unfold maxLen at hml
  have HQ := Lib.hid hq
  clear hl hM hq
  go_enter Tryz.func5, Tryz.ntmps5
  go_wp2_with (first
    | (go_at_call 17; refine (lives27_c _).mono ?_; rintro e w1 ⟨rfl, hx1⟩)
    | (go_at_call 18; refine (small27_c _ _ ls (HL.out.ext hx1)).mono ?_; rw [HQ.out]; rintro e wx ⟨rfl, rfl⟩)
    | fail)
  go_ret
  exact ⟨rfl, hx1⟩
set_option maxRecDepth 100000 in
set_option maxHeartbeats 1000000 in
theorem keys_big2 (w : World) (us pw sc : List UInt8) (c ch : Int) (vl : Value) (ls : List (List UInt8)) (hl : Lists w vl ls) (hq : smallQ ls = true) (h0 : ¬ ((strL us).size : Int) > 3000) (h1 : ((strL pw).size : Int) > 3000) :
    Calls Tryz.prog 5 #[.string (strL us), .string (strL pw), .string (strL sc), .int .u32 c, .int .u8 ch, vl] w fun e w' => e = .returned (.bool true) ∧ Ext w w' := by
  have HL := Lib.hid hl
  obtain ⟨Al, cl, hvl, hlel, hml, _⟩ := id hl
  obtain ⟨M, hM⟩ : ∃ M, M = ls.length := ⟨_, rfl⟩
  rw [← hM] at hvl hlel
  subst hvl
  have HM := Lib.hid hM
  unfold maxLen at hml
  have HQ := Lib.hid hq
  clear hl hM hq
  go_enter Tryz.func5, Tryz.ntmps5
  go_wp2_with (first
    | (go_at_call 17; refine (lives27_c _).mono ?_; rintro e w1 ⟨rfl, hx1⟩)
    | (go_at_call 18; refine (small27_c _ _ ls (HL.out.ext hx1)).mono ?_; rw [HQ.out]; rintro e wx ⟨rfl, rfl⟩)
    | fail)
  go_ret
  exact ⟨rfl, hx1⟩
set_option maxRecDepth 100000 in
set_option maxHeartbeats 1000000 in
theorem keys_big3 (w : World) (us pw sc : List UInt8) (c ch : Int) (vl : Value) (ls : List (List UInt8)) (hl : Lists w vl ls) (hq : smallQ ls = true) (h0 : ¬ ((strL us).size : Int) > 3000) (h1 : ¬ ((strL pw).size : Int) > 3000) (h2 : ((strL sc).size : Int) > 3000) :
    Calls Tryz.prog 5 #[.string (strL us), .string (strL pw), .string (strL sc), .int .u32 c, .int .u8 ch, vl] w fun e w' => e = .returned (.bool true) ∧ Ext w w' := by
  have HL := Lib.hid hl
  obtain ⟨Al, cl, hvl, hlel, hml, _⟩ := id hl
  obtain ⟨M, hM⟩ : ∃ M, M = ls.length := ⟨_, rfl⟩
  rw [← hM] at hvl hlel
  subst hvl
  have HM := Lib.hid hM
  unfold maxLen at hml
  have HQ := Lib.hid hq
  clear hl hM hq
  go_enter Tryz.func5, Tryz.ntmps5
  go_wp2_with (first
    | (go_at_call 17; refine (lives27_c _).mono ?_; rintro e w1 ⟨rfl, hx1⟩)
    | (go_at_call 18; refine (small27_c _ _ ls (HL.out.ext hx1)).mono ?_; rw [HQ.out]; rintro e wx ⟨rfl, rfl⟩)
    | fail)
  go_ret
  exact ⟨rfl, hx1⟩
theorem lists_none {w w' : World} {v : Value} (h : Lists w v []) : Lists w' v [] := by
  obtain ⟨A, cap, h1, h2, h3, _⟩ := h
  exact ⟨A, cap, h1, h2, h3, fun h => absurd rfl h⟩
section
variable {w w7 w8 w9 : World} {v8 v9 : Value} {g1 g2 : Nat} {K K' : KeyV} {pk : List (List UInt8)}
def D8 (w7 w8 : World) (v8 : Value) (g1 : Nat) (K : KeyV) (pk : List (List UInt8)) : Prop := (Lists w8 v8 pk ∧ Ext w7 w8 ∧ (pk ≠ [] → K.hd = true)) ∨ (ListsN w8 w7.heap.size v8 pk ∧ On g1 w7 w8 ∧ (pk ≠ [] → K.hd = false))
def D9 (w8 w9 : World) (v9 : Value) (g2 : Nat) (K : KeyV) (pk : List (List UInt8)) : Prop := (Lists w9 v9 pk ∧ Ext w8 w9) ∨ (ListsN w9 w8.heap.size v9 pk ∧ On g2 w8 w9 ∧ (pk ≠ [] → K.hd = false))
theorem D8.ext (d : D8 w7 w8 v8 g1 K pk) (hx : Ext w w7) (hg : w.heap.size ≤ g1) : Ext w w8 := by
  rcases d with ⟨_, h, _⟩ | ⟨_, h, _⟩
  · exact hx.trans h
  · exact hx.on h hg
theorem D8.rf (d : D8 w7 w8 v8 g1 K pk) (h : KeyRf w7 g2 K') (hne : g2 ≠ g1) : KeyRf w8 g2 K' := by
  rcases d with ⟨_, k, _⟩ | ⟨_, k, _⟩
  · exact h.ext k
  · exact h.on k hne
theorem D9.ext (d : D9 w8 w9 v9 g2 K pk) (hx : Ext w w8) (hg : w.heap.size ≤ g2) : Ext w w9 := by
  rcases d with ⟨_, h⟩ | ⟨_, h, _⟩
  · exact hx.trans h
  · exact hx.on h hg
theorem D9.is (d : D9 w8 w9 v9 g2 K pk) (h : KeyIs w8 g1 K') (hne : g1 ≠ g2) : KeyIs w9 g1 K' := by
  rcases d with ⟨_, k⟩ | ⟨_, k, _⟩
  · exact h.ext k
  · exact h.on k hne
theorem D9.lists (d : D9 w8 w9 v9 g2 K pk) : Lists w9 v9 pk := by
  rcases d with ⟨h, _⟩ | ⟨h, _⟩
  · exact h
  · exact h.lists
theorem keys_lists (d : D8 w7 w8 v8 g1 K pk) (k : D9 w8 w9 v9 g2 K pk) (hg : g2 < w7.heap.size) : Lists w9 v8 pk := by
  rcases d with ⟨h, _, h1⟩ | ⟨h, _, _⟩
  · rcases k with ⟨_, k⟩ | ⟨_, k, h2⟩
    · exact h.ext k
    · by_cases hn : pk = []
      · subst hn; exact lists_none h
      · have e1 := h1 hn
        rw [h2 hn] at e1
        cases e1
  · rcases k with ⟨_, k⟩ | ⟨_, k, _⟩
    · exact h.lists.ext k
    · exact (h.on k hg).lists
end
theorem key0_fit {us pw sc : List UInt8} {c ch : Int} (h : keyMay us pw sc c = true) (hc : 0 ≤ c ∧ c < 4294967296) (hch : 0 ≤ ch ∧ ch < 256) : KeyFit (key0 us pw sc c ch) := by
  unfold keyMay at h
  simp only [Bool.and_eq_true] at h
  exact ⟨h.2.1, h.2.2.1, h.2.2.2.1, hc, hch, by show (1 : Int) ≠ 0; decide⟩
set_option maxRecDepth 100000 in
set_option maxHeartbeats 4000000 in
theorem keys_main (w : World) (us pw sc : List UInt8) (c ch : Int) (vl : Value) (ls : List (List UInt8)) (hl : Lists w vl ls) (hc : 0 ≤ c ∧ c < 4294967296) (hch : 0 ≤ ch ∧ ch < 256) (hq : smallQ ls = true) (h0 : ¬ ((strL us).size : Int) > 3000) (h1 : ¬ ((strL pw).size : Int) > 3000) (h2 : ¬ ((strL sc).size : Int) > 3000) :
    Calls Tryz.prog 5 #[.string (strL us), .string (strL pw), .string (strL sc), .int .u32 c, .int .u8 ch, vl] w fun e w' => e = .returned (.bool true) ∧ Ext w w' := by
  have HSM := Lib.hid (of_decide_eq_true hq)
  have L1 := Lib.hid (show us.length ≤ 3000 by rw [strL_size] at h0; omega)
  have L2 := Lib.hid (show pw.length ≤ 3000 by rw [strL_size] at h1; omega)
  have L3 := Lib.hid (show sc.length ≤ 3000 by rw [strL_size] at h2; omega)
  have HL := Lib.hid hl
  obtain ⟨Al, cl, hvl, hlel, hml, _⟩ := id hl
  obtain ⟨M, hM⟩ : ∃ M, M = ls.length := ⟨_, rfl⟩
  rw [← hM] at hvl hlel
  subst hvl
  have HM := Lib.hid hM
  unfold maxLen at hml
  have HQ := Lib.hid hq
  clear hl hM hq
  cases hm : keyMay us pw sc c with
  | false =>
    have HMAY := Lib.hid hm
    clear hm hc hch
    go_enter Tryz.func5, Tryz.ntmps5
    go_wp2_with (first
    | (go_at_call 17; refine (lives27_c _).mono ?_; rintro e w1 ⟨rfl, hx1⟩)
    | (go_at_call 18; refine (small27_c _ _ ls (HL.out.ext hx1)).mono ?_; rw [HQ.out]; rintro e wx ⟨rfl, rfl⟩)
    | (go_at_call 32; refine (newKey_no _ us pw sc c ch HMAY.out).mono ?_; rintro e w2 ⟨rfl, hx2⟩)
    | (go_at_call 33; refine (newKeyR_no _ us pw sc c ch L1.out L2.out L3.out HMAY.out).mono ?_; rintro e w3 ⟨rfl, hx3⟩)
    | fail)
    go_ret
    exact ⟨rfl, (hx1.trans hx2).trans hx3⟩
  | true =>
    have HMAY := Lib.hid hm
    have HF0 := Lib.hid (key0_fit hm hc hch)
    clear hm hc hch
    go_enter Tryz.func5, Tryz.ntmps5
    go_wp2_with (first
    | (go_at_call 17; refine (lives27_c _).mono ?_; rintro e w1 ⟨rfl, hx1⟩)
    | (go_at_call 18; refine (small27_c _ _ ls (HL.out.ext hx1)).mono ?_; rw [HQ.out]; rintro e wx ⟨rfl, rfl⟩)
    | (go_at_call 32; refine (newKey_ok _ us pw sc c ch HMAY.out).mono ?_; rintro e w2 ⟨g1, rfl, hg1, hg12, hx2, hk2⟩)
    | (go_at_call 33; refine (newKeyR_ok _ us pw sc c ch L1.out L2.out L3.out HMAY.out).mono ?_; rintro e w3 ⟨g2, rfl, hg2, hg23, hx3, hr3⟩)
    | fail)
    have hs1 := Ext.size hx1
    have hs2 := Ext.size hx2
    have HW1 := Lib.hid (show w.heap.size ≤ g1 by omega)
    have HW2 := Lib.hid (show w.heap.size ≤ g2 by omega)
    have HNE := Lib.hid (show g1 ≠ g2 by omega)
    have HK3 := Lib.hid (hk2.ext hx3)
    have HR3 := Lib.hid hr3
    have HX3 := Lib.hid ((hx1.trans hx2).trans hx3)
    clear hx1 hx2 hx3 hk2 hr3 hg1 hg12 hg2 hg23 hs1 hs2 h0 h1 h2
    have HLM := Lib.hid (show M ≤ 100 by rw [HM.out]; exact HSM.out.2)
    go_loopw [17, 18, 19, 20, 21] (fun i _ _ _ _ W => ∃ m : Nat, ∃ K : KeyV, m ≤ M ∧ i = .int .i64 m ∧ KeyIs W g1 K ∧ KeyRf W g2 K ∧ KeyFit K ∧ Ext w W) (fun i _ _ _ _ _ => M - (intOf i).toNat)
    case atStart => exact ⟨0, _, Nat.zero_le _, rfl, HK3.out, HR3.out, HF0.out, HX3.out⟩
    case round =>
      obtain ⟨m, K, hm, rfl, hk, hr, hf, hx⟩ := hrel
      have HK := Lib.hid hk
      have HRR := Lib.hid hr
      have HF := Lib.hid hf
      have HX9 := Lib.hid hx
      clear hk hr hf hx
      by_cases hmM : m < M
      · have hmi : (m : Int) < (M : Int) := by omega
        obtain ⟨L, u, b, o, hLb, hA, hcw, hrw⟩ : ∃ L u b o, L.length ≤ 3000 ∧ Al = some ⟨b, o, none⟩ ∧ w.cell? ⟨b, o + m, none⟩ = some u ∧ Rd w u L := by
          obtain ⟨A', cap', hv, _, _, h4⟩ := HL.out
          injection hv with e1 e2 e3
          subst e1
          obtain ⟨b, o, hb, hc⟩ := h4 (by intro e; have := HM.out; subst e; simp at this; omega)
          obtain ⟨u, hu, hr⟩ := hc m (by have := HM.out; omega)
          exact ⟨_, u, b, o, HSM.out.1 m (by have := HM.out; omega), hb, hu, hr⟩
        subst hA
        obtain ⟨Aq, cq, rfl, hleq, hmq, hz⟩ := id hrw
        clear hz
        have HRU := Lib.hid hrw
        have HCW := Lib.hid hcw
        have HLB := Lib.hid hLb
        clear hrw hcw hLb
        obtain ⟨⟨pk, er, K9⟩, hP⟩ : ∃ x, feedK K L = x := ⟨_, rfl⟩
        have HP := Lib.hid hP
        have hf9 : KeyFit K9 := by have h := feedK_fit HF.out L; rw [hP] at h; exact h
        have HF9 := Lib.hid hf9
        have ec := HX9.out.cell HCW.out
        have eca : (wr.alloc (.cells #[] 5)).cell? ⟨b, o + m, none⟩ = some (.slice Aq L.length cq) := ((Ext.refl _).alloc _).cell ec
        clear hP hf9
        go_wp2_with (first
          | ((with_reducible show AtS 85); refine wpl_append_rd bt (own_nil wr wr.heap.size wr.heap.size rfl (Nat.le_refl _)) (HRU.out.ext (HX9.out.alloc _)) rfl _ _ rfl rfl rfl (by have := HLB.out; simp; omega) (by simp) ?_; intro v6 w6 ho6 hb6; have hx6 : Ext wr w6 := ((Ext.refl wr).alloc _).below hb6 (Nat.le_refl _); rw [List.nil_append] at ho6; obtain ⟨A6, c6, hv6, _⟩ := id ho6.rd; subst hv6)
          | (go_at_call 8; refine (kfeed_k _ g1 K L _ (HK.out.ext hx6) HF.out ho6.rd (by have := HLB.out; omega)).mono ?_; rw [HP.out]; rintro e w8 ⟨v8, rfl, hk8, hd8⟩; have d8 : D8 w6 w8 v8 g1 K pk := hd8; clear hd8; have hX8 : Ext w w8 := d8.ext (HX9.out.trans hx6) HW1.out; have ec8 := hX8.cell HCW.out; have hr8 := d8.rf (HRR.out.ext hx6) HNE.out.symm; have D8h := Lib.hid d8; clear d8)
          | (go_at_call 34; refine (kfeedR_k _ g2 K L _ hr8 HF.out (HRU.out.ext hX8) (by have := HLB.out; omega)).mono ?_; rw [HP.out]; rintro e w9 ⟨v9, rfl, hr9, hd9⟩; have d9 : D9 w8 w9 v9 g2 K pk := hd9; clear hd9; have hX9 : Ext w w9 := d9.ext hX8 HW2.out; have hk9 := d9.is hk8 HNE.out; have hL8 := keys_lists D8h.out d9 (by have h1 := BoxF.lt HRR.out; have h2 := Ext.size hx6; omega); have hL9 := d9.lists; clear d9)
          | (go_at_call 25; refine (packets27_c _ _ _ pk hL8 hL9).mono ?_; rintro e w10 ⟨rfl, hx10⟩; have hk10 := hk9.ext hx10; have hr10 := hr9.ext hx10)
          | (go_at_call 14; refine (kstate_k _ g1 K9 hk10 HF9.out.st).mono ?_; rintro e wx ⟨rfl, rfl⟩)
          | (go_at_call 35; refine (kstateR_k _ g2 K9 hr10).mono ?_; rintro e wx ⟨rfl, rfl⟩)
          | (go_at_call 15; refine (kcaps_k _ g1 K9 hk10 HF9.out.st).mono ?_; rintro e wx ⟨rfl, rfl⟩)
          | (go_at_call 36; refine (kcapsR_k _ g2 K9 hr10).mono ?_; rintro e wx ⟨rfl, rfl⟩)
          | (go_at_call 16; refine (kthread_k _ g1 K9 hk10 HF9.out.st).mono ?_; rintro e wx ⟨rfl, rfl⟩)
          | (go_at_call 37; refine (kthreadR_k _ g2 K9 hr10).mono ?_; rintro e wx ⟨rfl, rfl⟩)
          | fail)
        go_roundw
        case rel => exact ⟨m + 1, K9, by omega, by go_num, hk10, hr10, HF9.out, hX9.trans hx10⟩
        case measure => simp [intOf]; omega
      · obtain rfl : m = M := by omega
        have hmi : ¬ (m : Int) < (m : Int) := by omega
        go_wp2_with fail
        go_ret
        exact ⟨rfl, HX9.out⟩
theorem loginKeys_c (w : World) (us pw sc : List UInt8) (c ch : Int) (vl : Value) (ls : List (List UInt8)) (hl : Lists w vl ls) (hc : 0 ≤ c ∧ c < 4294967296) (hch : 0 ≤ ch ∧ ch < 256) :
    Calls Tryz.prog 5 #[.string (strL us), .string (strL pw), .string (strL sc), .int .u32 c, .int .u8 ch, vl] w fun e w' => e = .returned (.bool true) ∧ Ext w w' := by
  cases hq : smallQ ls with
  | false => exact keys_big0 w us pw sc c ch vl ls hl hq
  | true =>
    by_cases h0 : ((strL us).size : Int) > 3000
    · exact keys_big1 w us pw sc c ch vl ls hl hq h0
    by_cases h1 : ((strL pw).size : Int) > 3000
    · exact keys_big2 w us pw sc c ch vl ls hl hq h0 h1
    by_cases h2 : ((strL sc).size : Int) > 3000
    · exact keys_big3 w us pw sc c ch vl ls hl hq h0 h1 h2
    exact keys_main w us pw sc c ch vl ls hl hc hch hq h0 h1 h2
end Go.Proofs.YtbodppfpmpmadaaGreat

