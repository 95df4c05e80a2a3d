import Derived.Test.YtbodppfpmpmadaaGreatL17C
namespace Go.Proofs.YtbodppfpmpmadaaGreat
open Go.RowKit

set_option linter.unusedVariables false in
set_option maxRecDepth 100000 in
set_option maxHeartbeats 8000000 in
theorem greetedR_yes2 (w : World) (g : Nat) (us pw sc : List UInt8) (own ch st c0 t0 : Int) (hd : Bool) (l ver n pl plg X : List UInt8) (thr caps chg stg c : Int) (vb : Value) (h : KeyRf w g ⟨us, pw, sc, own, ch, st, c0, t0, hd⟩) (hr : Rd w vb l) (hA : overP greetM gre0 l = (⟨ver, thr, n, caps, chg, stg, pl⟩, 0))
    (hq : (strL sc).toList.isEmpty = false) (how : bothC caps (bits .or .u32 own 8) = c) (hz : (bits .and .u32 c 8 == 0) = true) (hk : checkC c = 0) (hp : pw.length ≤ 1000000) (hplg : plg = plugK pl)
    (hAA : ∀ w vr, Rd w vr (respPl plg pw n) → Calls Tryz.prog 126 #[.slice none 0 0, .agg #[.int .u32 c, .int .u32 16777216, .int .u8 ch, .string (strL us), vr, .string (strL []), .string (strL plg), .slice none 0 0]] w (RetBE w X 0)) :
    Calls Tryz.prog 73 #[.pointer (some ⟨g, 0, none⟩), vb] w fun e w' => ∃ v, e = .returned (.tuple #[v, .int .i64 0]) ∧ ListsN w' w.heap.size v [X] ∧ KeyRf w' g ⟨us, pw, sc, own, ch, st, c, thr, true⟩ ∧ On g w w' := by
  obtain ⟨m, hm⟩ : ∃ m, bits .and .u32 c 8 = m := ⟨_, rfl⟩
  rw [hm] at hz
  obtain ⟨q4, e4⟩ : ∃ q, q = (pl == natL) := ⟨_, rfl⟩
  obtain ⟨q5, e5⟩ : ∃ q, q = (pl == fastL) := ⟨_, rfl⟩
  have hpg : (q4 = true ∧ plg = pl) ∨ (q4 = false ∧ q5 = true ∧ plg = pl) ∨ (q4 = false ∧ q5 = false ∧ plg = natL) := by
    rw [hplg]
    unfold plugK oursP
    rw [← e4, ← e5]
    cases q4 <;> cases q5 <;> simp
  have g4 : ((strL pl).toList == [109, 121, 115, 113, 108, 95, 110, 97, 116, 105, 118, 101, 95, 112, 97, 115, 115, 119, 111, 114, 100]) = q4 := by rw [strL_tl]; exact e4.symm
  have g5 : ((strL pl).toList == [99, 97, 99, 104, 105, 110, 103, 95, 115, 104, 97, 50, 95, 112, 97, 115, 115, 119, 111, 114, 100]) = q5 := by rw [strL_tl]; exact e5.symm
  have HB := Lib.hid h
  have HR := Lib.hid hr
  have HA := Lib.hid hA
  have HW := Lib.hid how
  have HK := Lib.hid hk
  have HPW := Lib.hid hp
  have HGL := Lib.hid (BoxF.lt h)
  have HAA := Lib.hid hAA
  obtain ⟨Ab, cb, rfl, _⟩ := hr
  clear h hA how hk hp hplg hAA e4 e5
  rcases hpg with ⟨rfl, rfl⟩ | ⟨rfl, rfl, rfl⟩ | ⟨rfl, rfl, rfl⟩
  all_goals
    go_enter Tryz.func73, Tryz.ntmps73
    go_wp2_with (first
      | (go_at_call 125; refine (readGreetingR_s _ _ l ver n _ thr caps chg stg 0 HR.out HA.out).mono ?_; rintro e w1 ⟨A1, k1, c1, rfl, hr1, hx1⟩)
      | ((with_reducible show wpList _ _ _ (⟨some 6, Op.alloc _, _, _, _, _⟩ :: _) _ _); refine wpl_alloc rfl _ rfl gre0K (by kernel_rfl) ?_; intro w2 B2 hx2)
      | ((with_reducible show AtW 29); refine wpl_store_box rfl _ _ _ rfl _ [.string (strL ver), .int .u32 thr, .slice A1 k1 c1, .int .u32 caps, .int .u8 chg, .int .u16 stg, .string (strL _)] rfl rfl B2 rfl (by kernel_rfl) (by rfl) ?_; intro w3 B3 O3; have hx13 : Ext w1 w3 := hx2.on O3 (Nat.le_refl _); have BK3 := BoxF.ext HB.out (hx1.trans hx13); have d4 := BK3.at (j := 4) rfl; have d3 := BK3.at (j := 3) rfl; have b3 := B3.at (j := 3) rfl; have b6 := B3.at (j := 6) rfl; clear B2 O3 hx2)
      | (go_at_call 66; refine (bothR_c _ caps _).mono ?_; rw [HW.out]; rintro e wx ⟨rfl, rfl⟩)
      | (go_at_call 59; refine (capsCheckR_c _ c).mono ?_; rw [HK.out]; rintro e wx ⟨rfl, rfl⟩)
      | fail)
    have HX4 := Lib.hid (hx1.trans hx13)
    have HX1 := Lib.hid hx1
    have HR4 := Lib.hid (hr1.ext hx13)
    have HBK := Lib.hid BK3
    have HBG := Lib.hid B3
    have b1 := HBG.out.at (j := 1) rfl
    have k8 := HBK.out.at (j := 8) rfl
    have k9 := HBK.out.at (j := 9) rfl
    have k6 := HBK.out.at (j := 6) rfl
    have f8 := HBK.out.free 8 (show 8 < 10 by decide)
    have f9 := HBK.out.free 9 (show 9 < 10 by decide)
    have f6 := HBK.out.free 6 (show 6 < 10 by decide)
    clear hx1 hx13 hr1 BK3 B3 d4 d3 b3 b6
    (try dsimp only [Act.put])
    (first | go_region | fail)
    all_goals
      generalize hW5 : World.drew (World.setCell (World.setCell (World.setCell w3 ⟨g, 8, none⟩ (.int .u32 c)) ⟨g, 9, none⟩ (.int .u32 thr)) ⟨g, 6, none⟩ (.bool true)) = w5
      have hO5 : On g w3 w5 := by rw [← hW5]; exact ((((On.refl g w3).set 8 _).set 9 _).set 6 _).ext (Ext.refl _).drew
      have BK5 : BoxF w5 g (krc ⟨us, pw, sc, own, ch, st, c, thr, true⟩) := by rw [← hW5]; exact (((BoxF.set HBK.out 8 (.int .u32 c)).set 9 (.int .u32 thr)).set 6 (.bool true)).ext (Ext.refl _).drew
      have hr5 : Rd w5 (.slice A1 k1 c1) n := by rw [← hW5]; exact (((HR4.out.setCell k8 (fun x e => by cases e)).setCell ((BoxF.set HBK.out 8 (.int .u32 c)).at (j := 9) rfl) (fun x e => by cases e)).setCell (((BoxF.set HBK.out 8 (.int .u32 c)).set 9 (.int .u32 thr)).at (j := 6) rfl) (fun x e => by cases e)).ext (Ext.refl _).drew
      have BG5 := HBG.out.on hO5 (by have h1 := HGL.out; have h2 := Ext.size HX1.out; omega)
      have HO5 := Lib.hid ((On.of HX4.out).trans hO5)
      have HBK5 := Lib.hid BK5
      have HR5 := Lib.hid hr5
      have HBG5 := Lib.hid BG5
      clear hW5 hO5 BK5 hr5 BG5 b1 k6 k8 k9 f6 f8 f9
      (try go_wp2_with fail)
      have hE := Ext.refl w5
      have e5 := HBK5.out.at (j := 5) rfl
      have e1 := HBK5.out.at (j := 1) rfl
      have e2 := HBK5.out.at (j := 2) rfl
      have b2 := HBG5.out.at (j := 2) rfl
      go_region_held3 (fun W' => W'.cell? ⟨g, 5, none⟩ = some (.int .u8 ch) ∧ W'.cell? ⟨g, 1, none⟩ = some (.string (strL us)) ∧ W'.cell? ⟨g, 2, none⟩ = some (.string (strL pw)) ∧ W'.cell? ⟨w1.heap.size, 2, none⟩ = some (.slice A1 k1 c1) ∧ Ext w5 W')
        ((refine (fun h => ⟨Ext.cell h e5, Ext.cell h e1, Ext.cell h e2, Ext.cell h b2, h⟩) ?_; repeat' (first | with_reducible exact hE | (with_reducible refine Ext.drew ?_) | (with_reducible refine Ext.alloc ?_ _))))
        (first
          | (go_at_call 76; go_must (refine (responseR_c _ _ pw n _ HPW.out (HR5.out.ext (by repeat' (first | exact hE | (with_reducible refine Ext.drew ?_) | (with_reducible refine Ext.alloc ?_ _))))).mono ?_; rintro e w6 ⟨v6, rfl, hr6, hx6⟩; obtain ⟨A6, c6, hv6, _⟩ := id hr6; subst hv6; replace hE : Ext w5 w6 := Ext.trans (by repeat' (first | exact hE | (with_reducible refine Ext.drew ?_) | (with_reducible refine Ext.alloc ?_ _))) hx6))
          | (go_at_call 126; go_must (refine (HAA.out _ _ (hr6.ext (by repeat' (first | exact (Ext.refl _) | (with_reducible refine Ext.drew ?_) | (with_reducible refine Ext.alloc ?_ _))))).mono ?_; rintro e w7 ⟨v7, rfl, ho7, hx7⟩; obtain ⟨A7, c7, hv7, _⟩ := id ho7.rd; subst hv7; replace hE : Ext w5 w7 := Ext.trans (by repeat' (first | exact hE | (with_reducible refine Ext.drew ?_) | (with_reducible refine Ext.alloc ?_ _))) hx7))
          | fail)
      all_goals
        have BK7 := HBK5.out.ext hE
        have HE7 := Lib.hid hE
        have HO7 := Lib.hid ho7
        have hs6 := Ext.size hx6
        clear hE ho7 hr6 e5 e1 e2 b2
        go_wp2_with fail
        go_ret2
        have hO8 : On g w w7 := HO5.out.ext HE7.out
        simp at hs6
        have hs5 := HO5.out.size
        exact ⟨_, rfl, lists_one (u := _) hO8.size (Box.new w7 [_] _ 0 (by simp)) ((HO7.out.more (by omega)).ext ((Ext.refl _).alloc _)), BK7.ext ((Ext.refl _).alloc _), hO8.ext ((Ext.refl _).alloc _)⟩
end Go.Proofs.YtbodppfpmpmadaaGreat

