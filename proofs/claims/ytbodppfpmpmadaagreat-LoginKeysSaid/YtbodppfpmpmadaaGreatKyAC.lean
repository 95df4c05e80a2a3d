import Derived.Test.YtbodppfpmpmadaaGreatL15C
import Derived.Test.YtbodppfpmpmadaaGreatL6C
import Derived.Test.YtbodppfpmpmadaaGreatL13C
import Derived.Deep.RegionHeld3
namespace Go.Proofs.YtbodppfpmpmadaaGreat
open Go.RowKit

def fnGreet (g : Nat) : Value := .func (.func 71) #[.pointer (some ⟨g, 0, none⟩)] #[]
def fnFurther (g : Nat) : Value := .func (.func 124) #[.pointer (some ⟨g, 0, none⟩)] #[]
def kcs (K : KeyV) (fv : Value) : List Value := [.string (strL K.us), .string (strL K.pw), .string (strL K.sc), .int .u32 K.own, .int .u8 K.ch, .int .i64 K.st, .int .u32 K.c, .int .u32 K.t, fv]
def gre0K : List Value := [.string ⟨#[]⟩, .int .u32 0, .slice none 0 0, .int .u32 0, .int .u8 0, .int .u16 0, .string ⟨#[]⟩]
theorem Rd.setCell {w : World} {v u old : Value} {l : List UInt8} {g j : Nat} (h : Rd w v l) (hc : w.cell? ⟨g, j, none⟩ = some old) (ho : ∀ x, old ≠ .int .u8 x) : Rd (w.setCell ⟨g, j, none⟩ u) v l := by
  obtain ⟨A, cap, rfl, h1, h2, h3, h4⟩ := h
  refine ⟨A, cap, rfl, h1, h2, h3, fun hl => ?_⟩
  obtain ⟨b, o, rfl, hcell⟩ := h4 hl
  refine ⟨b, o, rfl, fun i hi => ?_⟩
  have h5 := hcell i hi
  have hne : (⟨g, j, none⟩ : Addr) ≠ ⟨b, o + i, none⟩ := fun e => by
    rw [← e, hc] at h5
    injection h5 with h5
    exact ho _ h5
  exact (World.cell?_setCell_other _ _ _ _ hne).trans h5
theorem ours_c (w : World) (pl : List UInt8) : Calls Tryz.prog 122 #[.string (strL pl)] w fun e w' => e = .returned (.bool (oursP pl)) ∧ w = w' := by
  obtain ⟨q4, e4⟩ : ∃ q, q = (pl == natL) := ⟨_, rfl⟩
  obtain ⟨q5, e5⟩ : ∃ q, q = (pl == fastL) := ⟨_, rfl⟩
  have ho : oursP pl = (q4 || q5) := by unfold oursP; rw [← e4, ← e5]
  rw [ho]
  have g4 : ((strL pl).toList == [109, 121, 115, 113, 108, 95, 110, 97, 116, 105, 118, 101, 95, 112, 97, 115, 115, 119, 111, 114, 100]) = q4 := by rw [strL_tl]; exact e4.symm
  have g5 : ((strL pl).toList == [99, 97, 99, 104, 105, 110, 103, 95, 115, 104, 97, 50, 95, 112, 97, 115, 115, 119, 111, 114, 100]) = q5 := by rw [strL_tl]; exact e5.symm
  clear ho e4 e5
  cases q4
  all_goals
    go_enter Tryz.func122, Tryz.ntmps122
    go_wp2_with fail
    go_ret
    exact ⟨rfl, rfl⟩
set_option linter.unusedVariables false in
set_option maxRecDepth 100000 in
set_option maxHeartbeats 8000000 in
theorem kgreet_yes (w : World) (g : Nat) (K : KeyV) (l ver n pl : List UInt8) (thr caps chg stg c : Int) (vb : Value) (h : BoxF w g (kcs K (fnGreet g))) (hf : KeyFit K) (hr : Rd w vb l) (hA : overP greetM gre0 l = (⟨ver, thr, n, caps, chg, stg, pl⟩, 0)) (hc : c = bothC caps (ownK K)) (hk : checkC c = 0) :
    Calls Tryz.prog 71 #[.pointer (some ⟨g, 0, none⟩), vb] w fun e w' => ∃ v, e = .returned (.tuple #[v, .bool true]) ∧ ListsN w' w.heap.size v [answerB (ansK K ⟨ver, thr, n, caps, chg, stg, pl⟩ c)] ∧ BoxF w' g (kcs { K with c := c, t := thr, hd := true } (fnFurther g)) ∧ On g w w' := by
  have hok := ansK_ok hf ⟨ver, thr, n, caps, chg, stg, pl⟩ hc hk
  have hpw := (plainU_inv hf.pw).1
  have hus := (plainU_inv hf.us).1
  have hsl := (scK_plain hf c).1
  have hpl := (plugK_plain pl).2
  have hown := hc
  obtain ⟨us, pw, sc, own, ch, st, c0, t0, hd⟩ := K
  unfold ansK at hok ⊢
  dsimp only at hok hpw hus ⊢
  obtain ⟨q5, hq5⟩ : ∃ q, oursP pl = q := ⟨_, rfl⟩
  obtain ⟨q, hq⟩ : ∃ q, (strL sc).toList.isEmpty = q := ⟨_, rfl⟩
  have hq2 : sc.isEmpty = q := by rw [← hq, strL_tl]
  obtain ⟨m, hm⟩ : ∃ m, bits .and .u32 c 8 = m := ⟨_, rfl⟩
  obtain ⟨z, hz⟩ : ∃ z, (m == 0) = z := ⟨_, rfl⟩
  have hplg : plugK pl = if q5 then pl else natL := by unfold plugK; rw [hq5]
  have hscp : scK ⟨us, pw, sc, own, ch, st, c0, t0, hd⟩ c = if z then [] else sc := by unfold scK; rw [hm, hz]
  have how : bothC caps (if q then bits .andNot .u32 own 8 else bits .or .u32 (bits .andNot .u32 own 8) 8) = c := by
    rw [or_not, hown]
    unfold ownK
    dsimp only
    rw [hq2]
  have hqz : (q = true ∧ z = true) ∨ (q = false ∧ z = true) ∨ (q = false ∧ z = false) := by
    cases q
    · cases z
      · exact .inr (.inr ⟨rfl, rfl⟩)
      · exact .inr (.inl ⟨rfl, rfl⟩)
    · refine .inl ⟨rfl, ?_⟩
      have := low_zero (c := c) (by rw [← how]; exact both_low caps own)
      rw [← hz, ← hm, this]
      rfl
  rw [hplg, hscp] at hok ⊢
  rw [hplg] at hpl
  rw [hscp] at hsl
  have HPW := Lib.hid (show pw.length ≤ 1000000 by omega)
  have HB := Lib.hid h
  have HR := Lib.hid hr
  have HA := Lib.hid hA
  have HW := Lib.hid how
  have HK := Lib.hid hk
  have HQ5 := Lib.hid hq5
  have HGL := Lib.hid h.lt
  obtain ⟨Ab, cb, rfl, _⟩ := hr
  have HAA := Lib.hid (fun w vr hr => appendAnswer_g w c 16777216 ch us (respPl (if q5 then pl else natL) pw n) (if z then [] else sc) (if q5 then pl else natL) [] vr (.slice none 0 0) hr (Recs.nil _ _) hok (by omega) (by omega) (by omega) (by simp [attrsB]))
  clear h hf hA hc hk hok hpw hus hsl hpl hown hq2 hplg hscp how hq5
  obtain ⟨X, hX⟩ : ∃ X, X = answerB ⟨c, 16777216, ch, us, respPl (if q5 then pl else natL) pw n, if z then [] else sc, if q5 then pl else natL, []⟩ := ⟨_, rfl⟩
  rw [← hX] at HAA ⊢
  clear hX
  rcases hqz with ⟨rfl, rfl⟩ | ⟨rfl, rfl⟩ | ⟨rfl, rfl⟩ <;> cases q5
  all_goals
    go_enter Tryz.func71, Tryz.ntmps71
    go_wp2_with (first
      | (go_at_call 121; refine (readGreeting_s _ _ l ver n pl thr caps chg stg 0 HR.out HA.out).mono ?_; rintro e w1 ⟨A1, k1, c1, rfl, hr1, hx1⟩)
      | ((with_reducible show wpList _ _ _ (⟨some 6, Op.alloc _, _, _, _, _⟩ :: _) _ _); refine wpl_alloc rfl _ rfl gre0K (by kernel_rfl) ?_; intro w2 B2 hx2)
      | ((with_reducible show AtW 29); refine wpl_store_box rfl _ _ _ rfl _ [.string (strL ver), .int .u32 thr, .slice A1 k1 c1, .int .u32 caps, .int .u8 chg, .int .u16 stg, .string (strL pl)] rfl rfl B2 rfl (by kernel_rfl) (by rfl) ?_; intro w3 B3 O3; have hx13 : Ext w1 w3 := hx2.on O3 (Nat.le_refl _); have BK3 := HB.out.ext (hx1.trans hx13); have d3 := BK3.at (j := 3) rfl; have d2 := BK3.at (j := 2) rfl; have b3 := B3.at (j := 3) rfl; clear B2 O3 hx2)
      | (go_at_call 100; refine (both_c _ caps _).mono ?_; (first | rw [show bothC caps (bits .andNot .u32 own 8) = c from HW.out] | rw [show bothC caps (bits .or .u32 (bits .andNot .u32 own 8) 8) = c from HW.out] | fail); rintro e w4 ⟨rfl, hx4⟩; clear d3 d2 b3)
      | (go_at_call 56; refine (capsCheck_c _ c).mono ?_; rw [HK.out]; rintro e wx ⟨rfl, rfl⟩)
      | fail)
    have HX4 := Lib.hid ((hx1.trans hx13).trans hx4)
    have HX1 := Lib.hid hx1
    have HR4 := Lib.hid ((hr1.ext hx13).ext hx4)
    have HBK := Lib.hid (BK3.ext hx4)
    have HBG := Lib.hid (B3.ext hx4)
    have b1 := HBG.out.at (j := 1) rfl
    have k6 := HBK.out.at (j := 6) rfl
    have k7 := HBK.out.at (j := 7) rfl
    have f6 := HBK.out.free 6 (show 6 < 9 by decide)
    have f7 := HBK.out.free 7 (show 7 < 9 by decide)
    clear hx1 hx13 hx4 hr1 BK3 B3
    (try dsimp only [Act.put])
    (first | go_region | fail)
    all_goals
      generalize hW5 : World.drew (World.setCell (World.setCell w4 ⟨g, 6, none⟩ (.int .u32 c)) ⟨g, 7, none⟩ (.int .u32 thr)) = w5
      have hO5 : On g w4 w5 := by rw [← hW5]; exact (((On.refl g w4).set 6 _).set 7 _).ext (Ext.refl _).drew
      have BK5 : BoxF w5 g (kcs ⟨us, pw, sc, own, ch, st, c, thr, true⟩ (fnGreet g)) := by rw [← hW5]; exact ((HBK.out.set 6 (.int .u32 c)).set 7 (.int .u32 thr)).ext (Ext.refl _).drew
      have hr5 : Rd w5 (.slice A1 k1 c1) n := by rw [← hW5]; exact ((HR4.out.setCell k6 (fun x e => by cases e)).setCell ((HBK.out.set 6 (.int .u32 c)).at (j := 7) rfl) (fun x e => by cases e)).ext (Ext.refl _).drew
      have BG5 := HBG.out.on hO5 (by have h1 := HGL.out; have h2 := Ext.size HX1.out; omega)
      have HO5 := Lib.hid ((On.of HX4.out).trans hO5)
      have HBK5 := Lib.hid BK5
      have HR5 := Lib.hid hr5
      have b6 := BG5.at (j := 6) rfl
      have d2 := BK5.at (j := 2) rfl
      have HBG5 := Lib.hid BG5
      clear hW5 hO5 BK5 hr5 BG5 b1 k6 k7 f6 f7
      go_wp2_with (first
        | (go_at_call 122; refine (ours_c _ pl).mono ?_; rw [HQ5.out]; rintro e wx ⟨rfl, rfl⟩)
        | fail)
      clear b6 d2
      have hE := Ext.refl w5
      have e4 := HBK5.out.at (j := 4) rfl
      have e0 := HBK5.out.at (j := 0) rfl
      have e1 := HBK5.out.at (j := 1) rfl
      have b2 := HBG5.out.at (j := 2) rfl
      go_region_held3 (fun W' => W'.cell? ⟨g, 4, none⟩ = some (.int .u8 ch) ∧ W'.cell? ⟨g, 0, none⟩ = some (.string (strL us)) ∧ W'.cell? ⟨g, 1, none⟩ = some (.string (strL pw)) ∧ W'.cell? ⟨w1.heap.size, 2, none⟩ = some (.slice A1 k1 c1) ∧ Ext w5 W')
        ((refine (fun h => ⟨Ext.cell h e4, Ext.cell h e0, Ext.cell h e1, Ext.cell h b2, h⟩) ?_; repeat' (first | with_reducible exact hE | (with_reducible refine Ext.drew ?_) | (with_reducible refine Ext.alloc ?_ _))))
        (first
          | (go_at_call 123; go_must (refine (dresponse_c _ _ pw _ n HPW.out (HR5.out.ext (by repeat' (first | exact hE | (with_reducible refine Ext.drew ?_) | (with_reducible refine Ext.alloc ?_ _))))).mono ?_; rintro e w6 ⟨v6, rfl, hr6, hx6⟩; obtain ⟨A6, c6, hv6, _⟩ := id hr6; subst hv6; replace hE : Ext w5 w6 := Ext.trans (by repeat' (first | exact hE | (with_reducible refine Ext.drew ?_) | (with_reducible refine Ext.alloc ?_ _))) hx6))
          | (go_at_call 93; go_must (refine (HAA.out _ _ (hr6.ext (by repeat' (first | exact (Ext.refl _) | (with_reducible refine Ext.drew ?_) | (with_reducible refine Ext.alloc ?_ _))))).mono ?_; rintro e w7 ⟨v7, rfl, ho7, hx7⟩; obtain ⟨A7, c7, hv7, _⟩ := id ho7.rd; subst hv7; replace hE : Ext w5 w7 := Ext.trans (by repeat' (first | exact hE | (with_reducible refine Ext.drew ?_) | (with_reducible refine Ext.alloc ?_ _))) hx7))
          | fail)
      all_goals
        have BK7 := HBK5.out.ext hE
        have HE7 := Lib.hid hE
        have HO7 := Lib.hid ho7
        clear hE ho7 hr6 e4 e0 e1 b2
        go_wp2_with (first
          | ((with_reducible show AtW 37); refine wpl_store_cell rfl _ _ _ rfl g 8 (fnFurther g) rfl rfl rfl rfl (by kernel_rfl) BK7 (show 8 < 9 by decide) ?_; intro w8 B8 O8)
          | fail)
        go_ret2
        have hO8 : On g w w8 := (HO5.out.ext HE7.out).trans O8
        have ho8 := HO7.out.on O8 (by have h1 := HGL.out; have h2 := HO5.out.size; have h3 := Ext.size hx6; simp at h3; omega)
        have hs := hO8.size
        exact ⟨_, rfl, lists_one (u := _) hs (Box.new w8 [_] _ 0 (by simp)) ((ho8.more (by have h2 := HO5.out.size; have h3 := Ext.size hx6; simp at h3; omega)).ext ((Ext.refl _).alloc _)), B8.ext ((Ext.refl _).alloc _), hO8.ext ((Ext.refl _).alloc _)⟩
end Go.Proofs.YtbodppfpmpmadaaGreat

