import Derived.Test.YtbodppfpmpmadaaGreatL11C
import Derived.Test.YtbodppfpmpmadaaGreatGrXbC
import Derived.Test.YtbodppfpmpmadaaGreatGrIC
import Derived.Maps.OwnOps
import Derived.Test.YtbodppfpmpmadaaGreatGrPC
/- Logins: the first packet. -/
namespace Go.Proofs.YtbodppfpmpmadaaGreat
open Go.RowKit

theorem DoorIs.dfail {w w1 : World} {S : List Nat} {g : Nat} {D : DoorV} {K : DoorK} {fv : Value} (h : DoorAt w S g D K fv) (hO : On g w w1) (hb : BoxF w1 g ((dcs K D fv).set 9 (.int .i64 3))) : DoorIs w1 S g { D with st := 3 } :=
  ⟨K, fv, h.turn hO (D' := { D with st := 3 }) hb rfl rfl rfl (h.fn.on hO h.gS)⟩
theorem readAnswer_o (w : World) (v : Value) (L user resp db pl : List UInt8) (caps most ch er : Int) (ps : Pairs) (hr : Rd w v L) (hl : L.length ≤ 900000) (h : overP answerM ans0 L = (⟨caps, most, ch, user, resp, db, pl, ps⟩, er)) :
    Calls Tryz.prog 99 #[v] w fun e w' => ∃ A k c B m d, e = .returned (.tuple #[.agg #[.int .u32 caps, .int .u32 most, .int .u8 ch, .string (strL user), .slice A k c, .string (strL db), .string (strL pl), .slice B m d], .int .i64 er]) ∧ Rd w' (.slice A k c) resp ∧ Ext w w' ∧ ∀ h, (Value.slice A k c).ownBlock = some h → w.heap.size ≤ h := by
  refine (readAnswer_f w v L hr hl).mono ?_
  rw [h]
  rintro e w' ⟨vr, va, rfl, hr2, ha2, hx, hn⟩
  obtain ⟨A, c, hv, _⟩ := id hr2
  obtain ⟨B, d, hv2, _⟩ := Recs.shape ha2
  subst hv hv2
  exact ⟨A, _, c, B, _, d, rfl, hr2, hx, hn⟩
def ans0C : List Value := [.int .u32 0, .int .u32 0, .int .u8 0, .string ⟨#[]⟩, .slice none 0 0, .string ⟨#[]⟩, .string ⟨#[]⟩, .slice none 0 0]
set_option maxHeartbeats 2000000 in
/-- It is no answer. -/
theorem answer_bad (w : World) (S : List Nat) (g : Nat) (D : DoorV) (l : List UInt8) (vb : Value) (h : DoorIs w S g D) (hr : Rd w vb l) (hl : l.length ≤ 900000) (he : (overP answerM ans0 l).2 ≠ 0) :
    Calls Tryz.prog 57 #[.pointer (some ⟨g, 0, none⟩), vb] w (RetD w S g ([oddL], { D with st := 3 })) := by
  obtain ⟨K, fv, h⟩ := h
  obtain ⟨⟨⟨caps, most, ch, user, resp, db, pl, ps⟩, er⟩, hA⟩ : ∃ x, overP answerM ans0 l = x := ⟨_, rfl⟩
  rw [hA] at he
  have hq : (er != 0) = true := by simpa using he
  have HA := Lib.hid hA
  have HR := Lib.hid hr
  have HL := Lib.hid hl
  have HH := Lib.hid h
  obtain ⟨Ab, cb, rfl, _⟩ := hr
  clear hA hl h he
  go_enter Tryz.func57, Tryz.ntmps57
  go_wp2_with (first
    | (go_at_call 99; refine (readAnswer_o _ _ l user resp db pl caps most ch er ps HR.out HL.out HA.out).mono ?_; rintro e w1 ⟨A1, k1, c1, A2, k2, c2, rfl, _, hx1, _⟩)
    | ((with_reducible show wpList _ _ _ (⟨some 5, Op.alloc _, _, _, _, _⟩ :: _) _ _); refine wpl_alloc rfl _ rfl ans0C (by kernel_rfl) ?_; intro w2 B2 hx2)
    | ((with_reducible show wpList _ _ _ (⟨none, Op.store _ _ _, _, _, _, _⟩ :: _) _ _); refine wpl_store_box rfl _ _ _ rfl _ [.int .u32 caps, .int .u32 most, .int .u8 ch, .string (strL user), .slice A1 k1 c1, .string (strL db), .string (strL pl), .slice A2 k2 c2] rfl rfl B2 rfl (by kernel_rfl) (by rfl) ?_; intro w3 B3 O3; have hx3 : Ext w w3 := (hx1.trans hx2).on O3 (Ext.size hx1))
    | (go_at_call 42; refine (odd_c _).mono ?_; rintro e w4 ⟨v4, rfl, hl4, hx4⟩; have hx5 := hx3.trans hx4)
    | (go_at_call 41; refine (dfail_c _ g (dcs K D fv) _ (HH.out.box.ext hx5) rfl).mono ?_; rintro e w6 ⟨rfl, B6, O6⟩)
    | fail)
  go_ret
  have hO : On g w w6 := (On.of hx5).trans O6
  exact ⟨_, rfl, (hl4.on O6 (Nat.lt_of_lt_of_le HH.out.box.lt (Ext.size hx3))).more (Ext.size hx3), DoorIs.dfail HH.out hO B6, hO⟩
end Go.Proofs.YtbodppfpmpmadaaGreat
/- Logins: the first packet, an answer. (Printed by gen_logU.py.) -/
namespace Go.Proofs.YtbodppfpmpmadaaGreat
open Go.RowKit

theorem RetD.from {w w1 w' : World} {S : List Nat} {g : Nat} {r : List (List UInt8) × DoorV} {e : Ending} (hO : On g w w1) (h : RetD w1 S g r e w') : RetD w S g r e w' := by
  obtain ⟨v, rfl, h1, h2, h3⟩ := h
  exact ⟨v, rfl, h1.more hO.size, h2, hO.trans h3⟩
set_option maxHeartbeats 2000000 in
/-- Not all that is needed is done. -/
theorem answer_odd (w : World) (S : List Nat) (g : Nat) (D : DoorV) (l user resp db pl : List UInt8) (caps most ch : Int) (ps : Pairs) (vb : Value) (h : DoorIs w S g D) (hr : Rd w vb l) (hl : l.length ≤ 900000) (hA : overP answerM ans0 l = (⟨caps, most, ch, user, resp, db, pl, ps⟩, 0)) (hk : checkC (bothC D.gc caps) ≠ 0) :
    Calls Tryz.prog 57 #[.pointer (some ⟨g, 0, none⟩), vb] w (RetD w S g ([oddL], { D with st := 3 })) := by
  obtain ⟨K, fv, h⟩ := h
  obtain ⟨gc, hgc⟩ : ∃ gc, gc = D.gc := ⟨_, rfl⟩
  obtain ⟨c, hc⟩ : ∃ c, bothC gc caps = c := ⟨_, rfl⟩
  rw [← hgc] at hk
  rw [hc] at hk
  have HA := Lib.hid hA
  have HR := Lib.hid hr
  have HL := Lib.hid hl
  have HH := Lib.hid h
  have HC := Lib.hid hc
  have HK := Lib.hid hk
  have HGC := Lib.hid hgc
  obtain ⟨Ab, cb, rfl, _⟩ := hr
  obtain ⟨ck, hck⟩ : ∃ ck, checkC c = ck := ⟨_, rfl⟩
  have HCK := Lib.hid hck
  rw [hck] at hk
  have hq : (ck != 0) = true := by simpa using hk
  clear hA hl h hc hgc hk hck
  go_enter Tryz.func57, Tryz.ntmps57
  go_wp2_with (first
    | (go_at_call 99; refine (readAnswer_o _ _ l user resp db pl caps most ch 0 ps HR.out HL.out HA.out).mono ?_; rintro e w1 ⟨A1, k1, c1, A2, k2, c2, rfl, hr1, hx1, hn1⟩)
    | ((with_reducible show wpList _ _ _ (⟨some 5, Op.alloc _, _, _, _, _⟩ :: _) _ _); refine wpl_alloc rfl _ rfl ans0C (by kernel_rfl) ?_; intro w2 B2 hx2)
    | ((with_reducible show wpList _ _ _ (⟨none, Op.store _ _ _, _, _, _, _⟩ :: _) _ _); refine wpl_store_box rfl _ _ _ rfl _ [.int .u32 caps, .int .u32 most, .int .u8 ch, .string (strL user), .slice A1 k1 c1, .string (strL db), .string (strL pl), .slice A2 k2 c2] rfl rfl B2 rfl (by kernel_rfl) (by rfl) ?_; intro w3 B3 O3; have hx3 : Ext w w3 := (hx1.trans hx2).on O3 (Ext.size hx1); have d4 : w3.cell? ⟨g, 4, none⟩ = some (.int .u32 gc) := (HH.out.box.ext hx3).at (j := 4) (by rw [HGC.out]; rfl); have b0 := B3.at (j := 0) rfl)
    | fail)
  have HX3 := Lib.hid hx3
  have HX1 := Lib.hid hx1
  have HB3 := Lib.hid B3
  have HR1 := Lib.hid hr1
  have HX13 := Lib.hid (show Ext w1 w3 from hx2.on O3 (Nat.le_refl _))
  have HNE := Lib.hid (show (Value.slice A1 k1 c1).ownBlock ≠ some g from fun e => by have := hn1 g e; have := HH.out.box.lt; omega)
  clear hx3 B2 B3 hr1 hx1 hx2 O3 hn1
  have hY := Ext.refl w3
  go_region_held3 (fun W' => W'.cell? ⟨g, 4, none⟩ = some (.int .u32 gc) ∧ W'.cell? ⟨w1.heap.size, 0, none⟩ = some (.int .u32 caps) ∧ Ext w3 W')
    ((refine (fun h => ⟨Ext.cell h d4, Ext.cell h b0, h⟩) ?_; repeat' (first | with_reducible exact hY | (with_reducible refine Ext.drew ?_) | (with_reducible refine Ext.alloc ?_ _))))
    (first
      | (go_at_call 100; go_must (refine (both_c _ gc caps).mono ?_; rintro e w4 ⟨rfl, hx4⟩; rw [HC.out]; replace hY : Ext w3 w4 := (Ext.refl _).drew.trans hx4))
      | fail)
  all_goals
    have HY := Lib.hid (HX3.out.trans hY)
    clear d4 b0 hY hx4
    go_wp2_with (first
      | (go_at_call 56; refine (capsCheck_c _ c).mono ?_; rintro e wx ⟨rfl, rfl⟩; rw [HCK.out])
      | (go_at_call 42; refine (odd_c _).mono ?_; rintro e w6 ⟨v6, rfl, hl6, hx6⟩; have hx7 := HY.out.trans hx6)
      | (go_at_call 41; refine (dfail_c _ g (dcs K D fv) _ (HH.out.box.ext hx7) rfl).mono ?_; rintro e w8 ⟨rfl, B8, O8⟩)
      | fail)
    go_ret
    have hO : On g w w8 := (On.of hx7).trans O8
    exact ⟨_, rfl, (hl6.on O8 (Nat.lt_of_lt_of_le HH.out.box.lt (Ext.size HY.out))).more (Ext.size HY.out), DoorIs.dfail HH.out hO B8, hO⟩
end Go.Proofs.YtbodppfpmpmadaaGreat
/- Logins: the first packet: the user is looked up. (Printed by gen_logU.py.) -/
namespace Go.Proofs.YtbodppfpmpmadaaGreat
open Go.RowKit

set_option maxHeartbeats 4000000 in
/-- Nobody has that name. -/
theorem answer_nobody (w : World) (S : List Nat) (g : Nat) (D : DoorV) (l user resp db pl : List UInt8) (caps most ch : Int) (ps : Pairs) (vb : Value) (h : DoorIs w S g D) (hr : Rd w vb l) (hl : l.length ≤ 900000) (hA : overP answerM ans0 l = (⟨caps, most, ch, user, resp, db, pl, ps⟩, 0)) (hk : checkC (bothC D.gc caps) = 0)
    (hul : user.length ≤ 1000000) (D1 : DoorV) (hD : whoP { D with c := bothC D.gc caps } user db = D1) (hok : DoorOk D1) (hkn : D1.kn = false) :
    Calls Tryz.prog 57 #[.pointer (some ⟨g, 0, none⟩), vb] w (RetD w S g (changeP D1)) := by
  obtain ⟨K, fv, h⟩ := h
  obtain ⟨gc, hgc⟩ : ∃ gc, gc = D.gc := ⟨_, rfl⟩
  obtain ⟨c, hc⟩ : ∃ c, bothC gc caps = c := ⟨_, rfl⟩
  rw [← hgc] at hk
  rw [hc] at hk
  have HA := Lib.hid hA
  have HR := Lib.hid hr
  have HL := Lib.hid hl
  have HH := Lib.hid h
  have HC := Lib.hid hc
  have HK := Lib.hid hk
  have HGC := Lib.hid hgc
  obtain ⟨Ab, cb, rfl, _⟩ := hr
  have HD := Lib.hid (show whoP { D with c := c } user db = D1 by rw [← hD, ← hc, hgc])
  have HU := Lib.hid hul
  have HOK := Lib.hid hok
  have HKN := Lib.hid hkn
  obtain ⟨t, ht⟩ : ∃ t, strL D1.u.pl = t := ⟨_, rfl⟩
  have HPL := Lib.hid ht
  clear hok hkn ht
  clear hA hl h hc hgc hk hD hul
  go_enter Tryz.func57, Tryz.ntmps57
  go_wp2_with (first
    | (go_at_call 99; refine (readAnswer_o _ _ l user resp db pl caps most ch 0 ps HR.out HL.out HA.out).mono ?_; rintro e w1 ⟨A1, k1, c1, A2, k2, c2, rfl, hr1, hx1, hn1⟩)
    | ((with_reducible show wpList _ _ _ (⟨some 5, Op.alloc _, _, _, _, _⟩ :: _) _ _); refine wpl_alloc rfl _ rfl ans0C (by kernel_rfl) ?_; intro w2 B2 hx2)
    | ((with_reducible show wpList _ _ _ (⟨none, Op.store _ _ _, _, _, _, _⟩ :: _) _ _); refine wpl_store_box rfl _ _ _ rfl _ [.int .u32 caps, .int .u32 most, .int .u8 ch, .string (strL user), .slice A1 k1 c1, .string (strL db), .string (strL pl), .slice A2 k2 c2] rfl rfl B2 rfl (by kernel_rfl) (by rfl) ?_; intro w3 B3 O3; have hx3 : Ext w w3 := (hx1.trans hx2).on O3 (Ext.size hx1); have d4 : w3.cell? ⟨g, 4, none⟩ = some (.int .u32 gc) := (HH.out.box.ext hx3).at (j := 4) (by rw [HGC.out]; rfl); have b0 := B3.at (j := 0) rfl)
    | fail)
  have HX3 := Lib.hid hx3
  have HX1 := Lib.hid hx1
  have HB3 := Lib.hid B3
  have HR1 := Lib.hid hr1
  have HX13 := Lib.hid (show Ext w1 w3 from hx2.on O3 (Nat.le_refl _))
  have HNE := Lib.hid (show (Value.slice A1 k1 c1).ownBlock ≠ some g from fun e => by have := hn1 g e; have := HH.out.box.lt; omega)
  clear hx3 B2 B3 hr1 hx1 hx2 O3 hn1
  have hY := Ext.refl w3
  go_region_held3 (fun W' => W'.cell? ⟨g, 4, none⟩ = some (.int .u32 gc) ∧ W'.cell? ⟨w1.heap.size, 0, none⟩ = some (.int .u32 caps) ∧ Ext w3 W')
    ((refine (fun h => ⟨Ext.cell h d4, Ext.cell h b0, h⟩) ?_; repeat' (first | with_reducible exact hY | (with_reducible refine Ext.drew ?_) | (with_reducible refine Ext.alloc ?_ _))))
    (first
      | (go_at_call 100; go_must (refine (both_c _ gc caps).mono ?_; rintro e w4 ⟨rfl, hx4⟩; rw [HC.out]; replace hY : Ext w3 w4 := (Ext.refl _).drew.trans hx4))
      | fail)
  all_goals
    have HY := Lib.hid hY
    have HD4 := Lib.hid (HH.out.ext (HX3.out.trans hY))
    have HB4 := Lib.hid (HB3.out.ext hY)
    clear d4 b0 hY hx4
    go_wp2_with (first
      | (go_at_call 56; refine (capsCheck_c _ c).mono ?_; rintro e wx ⟨rfl, rfl⟩; rw [HK.out])
      | ((with_reducible show wpList _ _ _ (⟨none, Op.store _ _ _, _, _, _, _⟩ :: _) _ _); refine wpl_store_cell rfl _ _ _ rfl g 10 (.int .u32 c) rfl rfl rfl rfl (by kernel_rfl) HD4.out.box (show 10 < 19 by decide) ?_; intro w5 B5 O5; have D5 := HD4.out.turn O5 (D' := { D with c := c }) B5 rfl rfl rfl (HD4.out.fn.on O5 HD4.out.gS); have HB5 := Lib.hid (HB4.out.on O5 (by have := HH.out.box.lt; have := Ext.size HX1.out; omega)); have b3 := HB5.out.at (j := 3) rfl; have b5 := HB5.out.at (j := 5) rfl)
      | (go_at_call 44; refine (who_d _ S g { D with c := c } user db K fv D5 HU.out).mono ?_; rintro e w6 ⟨rfl, D6, O6⟩; rw [HD.out] at D6; have hO6 := O5.trans O6; have HB6 := Lib.hid (HB5.out.on O6 (by have := HH.out.box.lt; have := Ext.size HX1.out; omega)); clear b3 b5 D5 B5)
      | fail)
    have HD6 := Lib.hid D6
    have d17 : w6.cell? ⟨g, 17, none⟩ = some (.bool D1.kn) := D6.box.at (j := 17) rfl
    have d14 : w6.cell? ⟨g, 14, none⟩ = some (.string (strL D1.u.pl)) := D6.box.at (j := 14) rfl
    have b6 : w6.cell? ⟨w1.heap.size, 6, none⟩ = some (.string (strL pl)) := HB6.out.at (j := 6) rfl
    have HO6 := Lib.hid (show On g w w6 from ((On.of HX3.out).ext HY.out).trans hO6)
    have HR6 := Lib.hid (show Rd w6 (.slice A1 k1 c1) resp from (((HR1.out.ext HX13.out).ext HY.out).on hO6 HNE.out))
    clear D6 O5 O6 hO6
    rw [HKN.out] at d17
    rw [HPL.out] at d14
    (try dsimp only [Act.put])
    first | go_region | fail
    generalize hw7 : w6.drew = w7
    have hx7 : Ext w6 w7 := by rw [← hw7]; exact (Ext.refl w6).drew
    clear hw7 d17 d14 b6
    have HX7 := Lib.hid hx7
    clear hx7
    go_wp2_with (first
      | (go_at_call 45; refine (change_d _ S g D1 ⟨K, fv, HD6.out.ext HX7.out⟩ HOK.out.sw HOK.out.pl).mono ?_; rintro e w8 ⟨v8, rfl, hl8, hd8, O8⟩)
      | fail)
    go_ret
    exact RetD.from (HO6.out.ext HX7.out) ⟨_, rfl, hl8, hd8, O8⟩
end Go.Proofs.YtbodppfpmpmadaaGreat
/- Logins: the first packet: another plugin's. (Printed by gen_logU.py.) -/
namespace Go.Proofs.YtbodppfpmpmadaaGreat
open Go.RowKit

set_option maxHeartbeats 4000000 in
/-- The user's plugin is another. -/
theorem answer_other (w : World) (S : List Nat) (g : Nat) (D : DoorV) (l user resp db pl : List UInt8) (caps most ch : Int) (ps : Pairs) (vb : Value) (h : DoorIs w S g D) (hr : Rd w vb l) (hl : l.length ≤ 900000) (hA : overP answerM ans0 l = (⟨caps, most, ch, user, resp, db, pl, ps⟩, 0)) (hk : checkC (bothC D.gc caps) = 0)
    (hul : user.length ≤ 1000000) (D1 : DoorV) (hD : whoP { D with c := bothC D.gc caps } user db = D1) (hok : DoorOk D1) (hkn : D1.kn = true) (hp : (pl == D1.u.pl) = false) :
    Calls Tryz.prog 57 #[.pointer (some ⟨g, 0, none⟩), vb] w (RetD w S g (changeP D1)) := by
  obtain ⟨K, fv, h⟩ := h
  obtain ⟨gc, hgc⟩ : ∃ gc, gc = D.gc := ⟨_, rfl⟩
  obtain ⟨c, hc⟩ : ∃ c, bothC gc caps = c := ⟨_, rfl⟩
  rw [← hgc] at hk
  rw [hc] at hk
  have HA := Lib.hid hA
  have HR := Lib.hid hr
  have HL := Lib.hid hl
  have HH := Lib.hid h
  have HC := Lib.hid hc
  have HK := Lib.hid hk
  have HGC := Lib.hid hgc
  obtain ⟨Ab, cb, rfl, _⟩ := hr
  have HD := Lib.hid (show whoP { D with c := c } user db = D1 by rw [← hD, ← hc, hgc])
  have HU := Lib.hid hul
  have HOK := Lib.hid hok
  have HKN := Lib.hid hkn
  obtain ⟨t, ht⟩ : ∃ t, strL D1.u.pl = t := ⟨_, rfl⟩
  have HPL := Lib.hid ht
  have g9 : ((strL pl).toList == t.toList) = false := by rw [← ht, strL_tl, strL_tl]; exact hp
  have g8 : ((strL pl).toList != t.toList) = true := by unfold bne; rw [g9]; rfl
  clear hok hkn ht hp
  clear hA hl h hc hgc hk hD hul
  go_enter Tryz.func57, Tryz.ntmps57
  go_wp2_with (first
    | (go_at_call 99; refine (readAnswer_o _ _ l user resp db pl caps most ch 0 ps HR.out HL.out HA.out).mono ?_; rintro e w1 ⟨A1, k1, c1, A2, k2, c2, rfl, hr1, hx1, hn1⟩)
    | ((with_reducible show wpList _ _ _ (⟨some 5, Op.alloc _, _, _, _, _⟩ :: _) _ _); refine wpl_alloc rfl _ rfl ans0C (by kernel_rfl) ?_; intro w2 B2 hx2)
    | ((with_reducible show wpList _ _ _ (⟨none, Op.store _ _ _, _, _, _, _⟩ :: _) _ _); refine wpl_store_box rfl _ _ _ rfl _ [.int .u32 caps, .int .u32 most, .int .u8 ch, .string (strL user), .slice A1 k1 c1, .string (strL db), .string (strL pl), .slice A2 k2 c2] rfl rfl B2 rfl (by kernel_rfl) (by rfl) ?_; intro w3 B3 O3; have hx3 : Ext w w3 := (hx1.trans hx2).on O3 (Ext.size hx1); have d4 : w3.cell? ⟨g, 4, none⟩ = some (.int .u32 gc) := (HH.out.box.ext hx3).at (j := 4) (by rw [HGC.out]; rfl); have b0 := B3.at (j := 0) rfl)
    | fail)
  have HX3 := Lib.hid hx3
  have HX1 := Lib.hid hx1
  have HB3 := Lib.hid B3
  have HR1 := Lib.hid hr1
  have HX13 := Lib.hid (show Ext w1 w3 from hx2.on O3 (Nat.le_refl _))
  have HNE := Lib.hid (show (Value.slice A1 k1 c1).ownBlock ≠ some g from fun e => by have := hn1 g e; have := HH.out.box.lt; omega)
  clear hx3 B2 B3 hr1 hx1 hx2 O3 hn1
  have hY := Ext.refl w3
  go_region_held3 (fun W' => W'.cell? ⟨g, 4, none⟩ = some (.int .u32 gc) ∧ W'.cell? ⟨w1.heap.size, 0, none⟩ = some (.int .u32 caps) ∧ Ext w3 W')
    ((refine (fun h => ⟨Ext.cell h d4, Ext.cell h b0, h⟩) ?_; repeat' (first | with_reducible exact hY | (with_reducible refine Ext.drew ?_) | (with_reducible refine Ext.alloc ?_ _))))
    (first
      | (go_at_call 100; go_must (refine (both_c _ gc caps).mono ?_; rintro e w4 ⟨rfl, hx4⟩; rw [HC.out]; replace hY : Ext w3 w4 := (Ext.refl _).drew.trans hx4))
      | fail)
  all_goals
    have HY := Lib.hid hY
    have HD4 := Lib.hid (HH.out.ext (HX3.out.trans hY))
    have HB4 := Lib.hid (HB3.out.ext hY)
    clear d4 b0 hY hx4
    go_wp2_with (first
      | (go_at_call 56; refine (capsCheck_c _ c).mono ?_; rintro e wx ⟨rfl, rfl⟩; rw [HK.out])
      | ((with_reducible show wpList _ _ _ (⟨none, Op.store _ _ _, _, _, _, _⟩ :: _) _ _); refine wpl_store_cell rfl _ _ _ rfl g 10 (.int .u32 c) rfl rfl rfl rfl (by kernel_rfl) HD4.out.box (show 10 < 19 by decide) ?_; intro w5 B5 O5; have D5 := HD4.out.turn O5 (D' := { D with c := c }) B5 rfl rfl rfl (HD4.out.fn.on O5 HD4.out.gS); have HB5 := Lib.hid (HB4.out.on O5 (by have := HH.out.box.lt; have := Ext.size HX1.out; omega)); have b3 := HB5.out.at (j := 3) rfl; have b5 := HB5.out.at (j := 5) rfl)
      | (go_at_call 44; refine (who_d _ S g { D with c := c } user db K fv D5 HU.out).mono ?_; rintro e w6 ⟨rfl, D6, O6⟩; rw [HD.out] at D6; have hO6 := O5.trans O6; have HB6 := Lib.hid (HB5.out.on O6 (by have := HH.out.box.lt; have := Ext.size HX1.out; omega)); clear b3 b5 D5 B5)
      | fail)
    have HD6 := Lib.hid D6
    have d17 : w6.cell? ⟨g, 17, none⟩ = some (.bool D1.kn) := D6.box.at (j := 17) rfl
    have d14 : w6.cell? ⟨g, 14, none⟩ = some (.string (strL D1.u.pl)) := D6.box.at (j := 14) rfl
    have b6 : w6.cell? ⟨w1.heap.size, 6, none⟩ = some (.string (strL pl)) := HB6.out.at (j := 6) rfl
    have HO6 := Lib.hid (show On g w w6 from ((On.of HX3.out).ext HY.out).trans hO6)
    have HR6 := Lib.hid (show Rd w6 (.slice A1 k1 c1) resp from (((HR1.out.ext HX13.out).ext HY.out).on hO6 HNE.out))
    clear D6 O5 O6 hO6
    rw [HKN.out] at d17
    rw [HPL.out] at d14
    (try dsimp only [Act.put])
    first | go_region | fail
    generalize hw7 : w6.drew = w7
    have hx7 : Ext w6 w7 := by rw [← hw7]; exact (Ext.refl w6).drew
    clear hw7 d17 d14 b6
    have HX7 := Lib.hid hx7
    clear hx7
    go_wp2_with (first
      | (go_at_call 45; refine (change_d _ S g D1 ⟨K, fv, HD6.out.ext HX7.out⟩ HOK.out.sw HOK.out.pl).mono ?_; rintro e w8 ⟨v8, rfl, hl8, hd8, O8⟩)
      | fail)
    go_ret
    exact RetD.from (HO6.out.ext HX7.out) ⟨_, rfl, hl8, hd8, O8⟩
set_option maxHeartbeats 4000000 in
/-- The response is looked at. -/
theorem answer_look (w : World) (S : List Nat) (g : Nat) (D : DoorV) (l user resp db pl : List UInt8) (caps most ch : Int) (ps : Pairs) (vb : Value) (h : DoorIs w S g D) (hr : Rd w vb l) (hl : l.length ≤ 900000) (hA : overP answerM ans0 l = (⟨caps, most, ch, user, resp, db, pl, ps⟩, 0)) (hk : checkC (bothC D.gc caps) = 0)
    (hul : user.length ≤ 1000000) (D1 : DoorV) (hD : whoP { D with c := bothC D.gc caps } user db = D1) (hok : DoorOk D1) (hkn : D1.kn = true) (hp : (pl == D1.u.pl) = true) :
    Calls Tryz.prog 57 #[.pointer (some ⟨g, 0, none⟩), vb] w (RetD w S g (lookP D1 resp)) := by
  obtain ⟨K, fv, h⟩ := h
  obtain ⟨gc, hgc⟩ : ∃ gc, gc = D.gc := ⟨_, rfl⟩
  obtain ⟨c, hc⟩ : ∃ c, bothC gc caps = c := ⟨_, rfl⟩
  rw [← hgc] at hk
  rw [hc] at hk
  have HA := Lib.hid hA
  have HR := Lib.hid hr
  have HL := Lib.hid hl
  have HH := Lib.hid h
  have HC := Lib.hid hc
  have HK := Lib.hid hk
  have HGC := Lib.hid hgc
  obtain ⟨Ab, cb, rfl, _⟩ := hr
  have HD := Lib.hid (show whoP { D with c := c } user db = D1 by rw [← hD, ← hc, hgc])
  have HU := Lib.hid hul
  have HOK := Lib.hid hok
  have HKN := Lib.hid hkn
  obtain ⟨t, ht⟩ : ∃ t, strL D1.u.pl = t := ⟨_, rfl⟩
  have HPL := Lib.hid ht
  have g9 : ((strL pl).toList == t.toList) = true := by rw [← ht, strL_tl, strL_tl]; exact hp
  have g8 : ((strL pl).toList != t.toList) = false := by unfold bne; rw [g9]; rfl
  clear hok hkn ht hp
  clear hA hl h hc hgc hk hD hul
  go_enter Tryz.func57, Tryz.ntmps57
  go_wp2_with (first
    | (go_at_call 99; refine (readAnswer_o _ _ l user resp db pl caps most ch 0 ps HR.out HL.out HA.out).mono ?_; rintro e w1 ⟨A1, k1, c1, A2, k2, c2, rfl, hr1, hx1, hn1⟩)
    | ((with_reducible show wpList _ _ _ (⟨some 5, Op.alloc _, _, _, _, _⟩ :: _) _ _); refine wpl_alloc rfl _ rfl ans0C (by kernel_rfl) ?_; intro w2 B2 hx2)
    | ((with_reducible show wpList _ _ _ (⟨none, Op.store _ _ _, _, _, _, _⟩ :: _) _ _); refine wpl_store_box rfl _ _ _ rfl _ [.int .u32 caps, .int .u32 most, .int .u8 ch, .string (strL user), .slice A1 k1 c1, .string (strL db), .string (strL pl), .slice A2 k2 c2] rfl rfl B2 rfl (by kernel_rfl) (by rfl) ?_; intro w3 B3 O3; have hx3 : Ext w w3 := (hx1.trans hx2).on O3 (Ext.size hx1); have d4 : w3.cell? ⟨g, 4, none⟩ = some (.int .u32 gc) := (HH.out.box.ext hx3).at (j := 4) (by rw [HGC.out]; rfl); have b0 := B3.at (j := 0) rfl)
    | fail)
  have HX3 := Lib.hid hx3
  have HX1 := Lib.hid hx1
  have HB3 := Lib.hid B3
  have HR1 := Lib.hid hr1
  have HX13 := Lib.hid (show Ext w1 w3 from hx2.on O3 (Nat.le_refl _))
  have HNE := Lib.hid (show (Value.slice A1 k1 c1).ownBlock ≠ some g from fun e => by have := hn1 g e; have := HH.out.box.lt; omega)
  clear hx3 B2 B3 hr1 hx1 hx2 O3 hn1
  have hY := Ext.refl w3
  go_region_held3 (fun W' => W'.cell? ⟨g, 4, none⟩ = some (.int .u32 gc) ∧ W'.cell? ⟨w1.heap.size, 0, none⟩ = some (.int .u32 caps) ∧ Ext w3 W')
    ((refine (fun h => ⟨Ext.cell h d4, Ext.cell h b0, h⟩) ?_; repeat' (first | with_reducible exact hY | (with_reducible refine Ext.drew ?_) | (with_reducible refine Ext.alloc ?_ _))))
    (first
      | (go_at_call 100; go_must (refine (both_c _ gc caps).mono ?_; rintro e w4 ⟨rfl, hx4⟩; rw [HC.out]; replace hY : Ext w3 w4 := (Ext.refl _).drew.trans hx4))
      | fail)
  all_goals
    have HY := Lib.hid hY
    have HD4 := Lib.hid (HH.out.ext (HX3.out.trans hY))
    have HB4 := Lib.hid (HB3.out.ext hY)
    clear d4 b0 hY hx4
    go_wp2_with (first
      | (go_at_call 56; refine (capsCheck_c _ c).mono ?_; rintro e wx ⟨rfl, rfl⟩; rw [HK.out])
      | ((with_reducible show wpList _ _ _ (⟨none, Op.store _ _ _, _, _, _, _⟩ :: _) _ _); refine wpl_store_cell rfl _ _ _ rfl g 10 (.int .u32 c) rfl rfl rfl rfl (by kernel_rfl) HD4.out.box (show 10 < 19 by decide) ?_; intro w5 B5 O5; have D5 := HD4.out.turn O5 (D' := { D with c := c }) B5 rfl rfl rfl (HD4.out.fn.on O5 HD4.out.gS); have HB5 := Lib.hid (HB4.out.on O5 (by have := HH.out.box.lt; have := Ext.size HX1.out; omega)); have b3 := HB5.out.at (j := 3) rfl; have b5 := HB5.out.at (j := 5) rfl)
      | (go_at_call 44; refine (who_d _ S g { D with c := c } user db K fv D5 HU.out).mono ?_; rintro e w6 ⟨rfl, D6, O6⟩; rw [HD.out] at D6; have hO6 := O5.trans O6; have HB6 := Lib.hid (HB5.out.on O6 (by have := HH.out.box.lt; have := Ext.size HX1.out; omega)); clear b3 b5 D5 B5)
      | fail)
    have HD6 := Lib.hid D6
    have d17 : w6.cell? ⟨g, 17, none⟩ = some (.bool D1.kn) := D6.box.at (j := 17) rfl
    have d14 : w6.cell? ⟨g, 14, none⟩ = some (.string (strL D1.u.pl)) := D6.box.at (j := 14) rfl
    have b6 : w6.cell? ⟨w1.heap.size, 6, none⟩ = some (.string (strL pl)) := HB6.out.at (j := 6) rfl
    have HO6 := Lib.hid (show On g w w6 from ((On.of HX3.out).ext HY.out).trans hO6)
    have HR6 := Lib.hid (show Rd w6 (.slice A1 k1 c1) resp from (((HR1.out.ext HX13.out).ext HY.out).on hO6 HNE.out))
    clear D6 O5 O6 hO6
    rw [HKN.out] at d17
    rw [HPL.out] at d14
    (try dsimp only [Act.put])
    first | go_region | fail
    generalize hw7 : w6.drew = w7
    have hx7 : Ext w6 w7 := by rw [← hw7]; exact (Ext.refl w6).drew
    clear hw7 d17 d14 b6
    have HX7 := Lib.hid hx7
    clear hx7
    have b4 : w7.cell? ⟨w1.heap.size, 4, none⟩ = some (.slice A1 k1 c1) := (HB6.out.ext HX7.out).at (j := 4) rfl
    go_wp2_with (first
      | (go_at_call 87; refine (look_d _ S g D1 resp _ ⟨K, fv, HD6.out.ext HX7.out⟩ HOK.out.pw (HR6.out.ext HX7.out)).mono ?_; rintro e w8 ⟨v8, rfl, hl8, hd8, O8⟩)
      | fail)
    go_ret
    exact RetD.from (HO6.out.ext HX7.out) ⟨_, rfl, hl8, hd8, O8⟩
end Go.Proofs.YtbodppfpmpmadaaGreat
/- Logins: the first packet, put together; a packet is taken. -/
namespace Go.Proofs.YtbodppfpmpmadaaGreat
open Go.RowKit

def fitU (u : UserV) : Prop := u.pw.length ≤ 64 ∧ u.pl.length ≤ 100 ∧ u.pl.contains 0 = false
structure DoorFit (D : DoorV) : Prop where
  us : ∀ u ∈ D.us, fitU u
  u : fitU D.u
  n : D.n.length = 20 ∧ nonceOk D.n = true
theorem fitU_zero : fitU userZ := ⟨by decide, by decide, by decide⟩
theorem findU_fit (us : List UserV) (nm : List UInt8) (h : ∀ u ∈ us, fitU u) : fitU ((findU us nm).getD userZ) := by
  induction us using list_snoc_induct with
  | h0 => exact fitU_zero
  | h1 us u ih =>
    rw [findU_snoc]
    split
    · exact h u (by simp)
    · exact ih (fun x hx => h x (by simp [hx]))
theorem DoorFit.who {D : DoorV} (h : DoorFit D) (nm sc : List UInt8) : DoorFit (whoP D nm sc) := ⟨h.us, findU_fit _ _ h.us, h.n⟩
theorem DoorFit.ok {D : DoorV} (h : DoorFit D) : DoorOk D := ⟨by have := h.u.1; omega, by have := h.u.2.1; omega, h.u.2.2, h.n⟩
theorem lookP_fit {D : DoorV} (h : DoorFit D) (l : List UInt8) : DoorFit (lookP D l).2 := by
  obtain ⟨h1, h2, h3⟩ := h
  unfold lookP
  repeat' split
  all_goals exact ⟨h1, h2, h3⟩
theorem changeP_fit {D : DoorV} (h : DoorFit D) : DoorFit (changeP D).2 := by
  obtain ⟨h1, h2, h3⟩ := h
  unfold changeP
  split
  all_goals exact ⟨h1, h2, h3⟩
theorem answerP_fit {D : DoorV} (h : DoorFit D) (l : List UInt8) : DoorFit (answerP D l).2 := by
  have hc : ∀ c, DoorFit { D with c := c } := fun c => ⟨h.us, h.u, h.n⟩
  unfold answerP
  split
  · split
    · split
      · exact lookP_fit ((hc _).who _ _) _
      · exact changeP_fit ((hc _).who _ _)
    · exact ⟨h.us, h.u, h.n⟩
  · exact ⟨h.us, h.u, h.n⟩
theorem nextP_fit {D : DoorV} (h : DoorFit D) (l : List UInt8) : DoorFit (nextP D l).2 := by
  unfold nextP
  split
  · exact answerP_fit h l
  · exact lookP_fit h l
  · unfold fullP
    split
    all_goals exact ⟨h.us, h.u, h.n⟩
  · exact ⟨h.us, h.u, h.n⟩
theorem feedP_fit {D : DoorV} (h : DoorFit D) (l : List UInt8) : DoorFit (feedP D l).2.2 := by
  unfold feedP
  split
  · exact h
  · split
    · exact nextP_fit h l
    · exact h
theorem answer_d (w : World) (S : List Nat) (g : Nat) (D : DoorV) (l : List UInt8) (vb : Value) (h : DoorIs w S g D) (hr : Rd w vb l) (hl : l.length ≤ 900000) (hf : DoorFit D) :
    Calls Tryz.prog 57 #[.pointer (some ⟨g, 0, none⟩), vb] w (RetD w S g (answerP D l)) := by
  by_cases he : (overP answerM ans0 l).2 = 0
  · obtain ⟨⟨⟨caps, most, ch, user, resp, db, pl, ps⟩, er⟩, hA⟩ : ∃ x, overP answerM ans0 l = x := ⟨_, rfl⟩
    have he0 : er = 0 := by rw [hA] at he; exact he
    subst he0
    obtain ⟨hXa, hoka, _⟩ := overP_inv inv_answer hA
    have hus := (ans_sizes hoka (Nat.le_trans hXa hl)).1
    unfold answerP
    rw [hA]
    dsimp only
    rw [if_pos rfl]
    by_cases hk : checkC (bothC D.gc caps) = 0
    · rw [if_pos hk]
      have hfit : DoorFit (whoP { D with c := bothC D.gc caps } user db) := DoorFit.who (D := { D with c := bothC D.gc caps }) ⟨hf.us, hf.u, hf.n⟩ _ _
      obtain ⟨D1, hD⟩ : ∃ D1, whoP { D with c := bothC D.gc caps } user db = D1 := ⟨_, rfl⟩
      rw [hD] at hfit ⊢
      cases hkn : D1.kn with
      | false =>
        exact answer_nobody w S g D l user resp db pl caps most ch ps vb h hr hl hA hk (by dsimp only at hus; omega) D1 hD hfit.ok hkn
      | true =>
        cases hp : pl == D1.u.pl with
        | false => exact answer_other w S g D l user resp db pl caps most ch ps vb h hr hl hA hk (by dsimp only at hus; omega) D1 hD hfit.ok hkn hp
        | true => exact answer_look w S g D l user resp db pl caps most ch ps vb h hr hl hA hk (by dsimp only at hus; omega) D1 hD hfit.ok hkn hp
    · rw [if_neg hk]
      exact answer_odd w S g D l user resp db pl caps most ch ps vb h hr hl hA hk
  · unfold answerP
    rw [if_neg he]
    exact answer_bad w S g D l vb h hr hl he
/-- What feeding gives. -/
def RetF (w : World) (S : List Nat) (g : Nat) (r : List (List UInt8) × Int × DoorV) (e : Ending) (w' : World) : Prop :=
  ∃ v, e = .returned (.tuple #[v, .int .i64 r.2.1]) ∧ ListsN w' w.heap.size v r.1 ∧ DoorIs w' S g r.2.2 ∧ On g w w'
theorem ListsN.nil (w : World) (base : Nat) : ListsN w base (.slice none 0 0) [] := ⟨none, 0, rfl, Nat.le_refl _, by unfold maxLen; simp, fun h => absurd rfl h⟩
set_option maxHeartbeats 1000000 in
theorem feed_over (w : World) (S : List Nat) (g : Nat) (D : DoorV) (vb : Value) (h : DoorIs w S g D) (hs : D.st ≠ 1) (l : List UInt8) :
    Calls Tryz.prog 6 #[.pointer (some ⟨g, 0, none⟩), vb] w (RetF w S g (feedP D l)) := by
  obtain ⟨K, fv, h⟩ := h
  have HH := Lib.hid h
  have c9 : w.cell? ⟨g, 9, none⟩ = some (.int .i64 D.st) := h.box.at (j := 9) rfl
  obtain ⟨st, hst⟩ : ∃ st, D.st = st := ⟨_, rfl⟩
  rw [hst] at c9 hs
  unfold feedP
  rw [hst]
  by_cases h0 : st = 0
  · subst h0
    rw [if_pos rfl]
    clear h hs hst
    go_enter Tryz.func6, Tryz.ntmps6
    go_wp2_with (go_at_call 38; refine (dnone_c _ g 0 c9).mono ?_; rintro e wx ⟨rfl, rfl⟩)
    go_ret2
    exact ⟨_, rfl, ListsN.nil _ _, ⟨K, fv, HH.out⟩, On.refl _ _⟩
  · rw [if_neg h0, if_neg hs]
    have HQ := Lib.hid (show (st == 0) = false by simp [h0])
    have hq : (st != 1) = true := by simpa using hs
    clear h hs hst h0
    go_enter Tryz.func6, Tryz.ntmps6
    go_wp2_with (go_at_call 38; refine (dnone_c _ g st c9).mono ?_; rintro e wx ⟨rfl, rfl⟩; rw [HQ.out])
    go_ret2
    exact ⟨_, rfl, ListsN.nil _ _, ⟨K, fv, HH.out⟩, On.refl _ _⟩
theorem nobody_d (w : World) (S : List Nat) (g x : Nat) (D : DoorV) (vb : Value) (K : DoorK) (fv : Value) (h : DoorAt w S g D K fv) (hx : w.cell? ⟨x, 0, none⟩ = some (.pointer (some ⟨g, 0, none⟩))) (hS : x ∉ S) :
    Calls Tryz.prog 88 #[vb, .pointer (some ⟨x, 0, none⟩)] w (RetD w S g ([refusedL], { D with st := 3 })) := by
  refine (change1_c w g x (dcs K D fv) vb h.box rfl hx (fun e => hS (e ▸ h.gS))).mono ?_
  rintro e w' ⟨v, rfl, hl, hb, hO⟩
  exact ⟨v, rfl, hl, DoorIs.dfail h hO hb, hO⟩
set_option maxHeartbeats 2000000 in
theorem feed_on (w : World) (S : List Nat) (g : Nat) (D : DoorV) (l : List UInt8) (vb : Value) (h : DoorIs w S g D) (hr : Rd w vb l) (hl : l.length ≤ 900000) (hf : DoorFit D) (hs : D.st = 1) :
    Calls Tryz.prog 6 #[.pointer (some ⟨g, 0, none⟩), vb] w (RetF w S g (feedP D l)) := by
  have hP : feedP D l = ((nextP D l).1, 0, (nextP D l).2) := by unfold feedP; rw [hs]; rfl
  rw [hP]
  have hI := h
  obtain ⟨K, fv, h⟩ := h
  have hfn := h.fn
  have c9 : w.cell? ⟨g, 9, none⟩ = some (.int .i64 1) := h.box.at (j := 9) (by rw [← hs]; rfl)
  have c11 : w.cell? ⟨g, 11, none⟩ = some fv := h.box.at (j := 11) rfl
  have HH := Lib.hid h
  have HI := Lib.hid hI
  have HR := Lib.hid hr
  have HL := Lib.hid hl
  have HF := Lib.hid hf
  obtain ⟨Ab, cb, rfl, _⟩ := hr
  clear h hI hl hf hs hP
  rcases hfn with ⟨h0, rfl⟩ | ⟨h0, rfl⟩ | ⟨h0, rfl⟩ | ⟨h0, x, rfl, hx, hS⟩
  · have HN := Lib.hid (show nextP D l = answerP D l by unfold nextP; rw [h0]; rfl)
    clear h0
    unfold fnAnswer at c11
    go_enter Tryz.func6, Tryz.ntmps6
    go_wp2_with (first
      | (go_at_call 38; refine (dnone_c _ g 1 c9).mono ?_; rintro e wx ⟨rfl, rfl⟩)
      | (go_at_call 57; refine (answer_d _ S g D l _ HI.out HR.out HL.out HF.out).mono ?_; rintro e w1 ⟨v1, rfl, hl1, hd1, O1⟩)
      | fail)
    go_ret2
    rw [HN.out]
    exact ⟨_, rfl, hl1, hd1, O1⟩
  · have HN := Lib.hid (show nextP D l = lookP D l by unfold nextP; rw [h0]; rfl)
    clear h0
    unfold fnLook at c11
    go_enter Tryz.func6, Tryz.ntmps6
    go_wp2_with (first
      | (go_at_call 38; refine (dnone_c _ g 1 c9).mono ?_; rintro e wx ⟨rfl, rfl⟩)
      | (go_at_call 87; refine (look_d _ S g D l _ HI.out HF.out.ok.pw HR.out).mono ?_; rintro e w1 ⟨v1, rfl, hl1, hd1, O1⟩)
      | fail)
    go_ret2
    rw [HN.out]
    exact ⟨_, rfl, hl1, hd1, O1⟩
  · have HN := Lib.hid (show nextP D l = fullP D l by unfold nextP; rw [h0]; rfl)
    clear h0
    unfold fnFull at c11
    go_enter Tryz.func6, Tryz.ntmps6
    go_wp2_with (first
      | (go_at_call 38; refine (dnone_c _ g 1 c9).mono ?_; rintro e wx ⟨rfl, rfl⟩)
      | (go_at_call 142; refine (full_d _ S g D l _ HI.out HF.out.ok.pw HR.out).mono ?_; rintro e w1 ⟨v1, rfl, hl1, hd1, O1⟩)
      | fail)
    go_ret2
    rw [HN.out]
    exact ⟨_, rfl, hl1, hd1, O1⟩
  · have HN := Lib.hid (show nextP D l = ([refusedL], { D with st := 3 }) by
      unfold nextP
      obtain ⟨us, gc, n, hello, st, c, nx, u, kn, sc⟩ := D
      dsimp only at h0 ⊢
      match nx, h0 with
      | k + 3, _ => rfl)
    clear h0
    unfold fnNobody at c11
    have HX := Lib.hid hx
    have HSx := Lib.hid hS
    clear hx hS
    go_enter Tryz.func6, Tryz.ntmps6
    go_wp2_with (first
      | (go_at_call 38; refine (dnone_c _ g 1 c9).mono ?_; rintro e wx ⟨rfl, rfl⟩)
      | (go_at_call 88; refine (nobody_d _ S g x D _ K _ HH.out HX.out HSx.out).mono ?_; rintro e w1 ⟨v1, rfl, hl1, hd1, O1⟩)
      | fail)
    go_ret2
    rw [HN.out]
    exact ⟨_, rfl, hl1, hd1, O1⟩
theorem feed_d (w : World) (S : List Nat) (g : Nat) (D : DoorV) (l : List UInt8) (vb : Value) (h : DoorIs w S g D) (hr : Rd w vb l) (hl : l.length ≤ 900000) (hf : DoorFit D) :
    Calls Tryz.prog 6 #[.pointer (some ⟨g, 0, none⟩), vb] w (RetF w S g (feedP D l)) := by
  by_cases hs : D.st = 1
  · exact feed_on w S g D l vb h hr hl hf hs
  · exact feed_over w S g D vb h hs l
end Go.Proofs.YtbodppfpmpmadaaGreat
/- Logins: a door is made. -/
namespace Go.Proofs.YtbodppfpmpmadaaGreat
open Go.RowKit

section
variable {ops : Array Oper} {rest : List Oper} {o : Oper} {a : Act} {w : World} {Q : Exit → Act → World → Prop}
/-- 'u, ok := users[name]'. -/
theorem wpl_lookU (hg : o.guard = none) (m x : Operand) (ho : o.op = .lookup TM m x true) {b : Nat} {us : List UserV} (hM : MapU w b us) (hm : a.eval m = .map (some b)) (nm : List UInt8) (hx : a.eval x = .string (strL nm)) (hn : nm.length ≤ maxLen) {u : UserV} {kn : Bool}
    (hu : (findU us nm).getD userZ = u) (hk : (findU us nm).isSome = kn) (h : wpList Tryz.prog ops Q rest (a.put o.dst (.tuple #[.agg #[.string (strL u.name), .string (strL u.pw), .string (strL u.pl), .string (strL u.sc), .bool u.adm], .bool kn])) w) : wpList Tryz.prog ops Q (o :: rest) a w :=
  wpl_val hg (w' := w) (by unfold execOp; simp only [ho, hm, hx, hM.look nm hn hu hk, Sem.run_bind, Sem.run_pure, Result.andThen_ok]) h
end
/-- Users that a door may have: each may be, and none has a name twice. -/
def GoodU (us : List UserV) : Prop := ∀ k, k < us.length → okU (us.getD k userZ) = true ∧ findU (us.take k) (us.getD k userZ).name = none
def MapN (w : World) (b n : Nat) (us : List UserV) : Prop := w.ownsMap Tryz.prog TS userR b n (usD us)
theorem MapN.u {w : World} {b n : Nat} {us : List UserV} (h : MapN w b n us) : MapU w b us := ⟨n, h⟩
theorem MapN.on {g : Nat} {w w' : World} {b n : Nat} {us : List UserV} (h : MapN w b n us) (k : On g w w') (hne : b ≠ g) : MapN w' b n us := World.ownsMap.kept h k (by intro e; injection e with e; exact hne e)
theorem MapN.ext {w w' : World} {b n : Nat} {us : List UserV} (h : MapN w b n us) (k : Ext w w') : MapN w' b n us := World.ownsMap.kept (row := none) h ⟨k.os, k.tape, k.output, Ext.size k, fun i hi _ => k.block i hi⟩ (by simp)
theorem okU_name {u : UserV} (h : okU u = true) : u.name.length ≤ 64 := by
  unfold okU plainU at h
  simp only [Bool.and_eq_true, decide_eq_true_eq] at h
  exact h.2.1.1
theorem take_snoc (us : List UserV) (k : Nat) (h : k < us.length) : us.take (k + 1) = us.take k ++ [us.getD k userZ] := by
  rw [List.take_add_one, List.getD_eq_getElem?_getD, List.getElem?_eq_getElem h]; rfl
def door0 (us : List UserV) (gc : Int) (n hello : List UInt8) : DoorV := ⟨us, gc, n, hello, 1, 0, 0, userZ, false, []⟩
theorem rangeAt_userC (us : List UserV) (k : Nat) (h : k < us.length) : (us.map userC).getD k [] = userC (us.getD k userZ) := by
  rw [List.getD_eq_getElem?_getD, List.getD_eq_getElem?_getD, List.getElem?_map, List.getElem?_eq_getElem h]; rfl
set_option maxRecDepth 100000 in
set_option maxHeartbeats 1000000 in
theorem newDoor_ok (w : World) (v : Value) (us : List UserV) (ver n pl : List UInt8) (thr caps ch st : Int) (vn : Value) (hus : Recs w 5 v (us.map userC)) (hgood : GoodU us) (h64 : us.length ≤ 64) (hn : Rd w vn n) (hzv : ver.contains 0 = false) (hzp : pl.contains 0 = false) (h20 : n.length = 20) (hno : nonceOk n = true)
    (hc : hasC caps 33280 = true) (hpf : pl = [] ∨ hasC caps 524288 = true) (ht : 0 ≤ thr ∧ thr < 4294967296) (hcaps : 0 ≤ caps ∧ caps < 4294967296) (hch : 0 ≤ ch ∧ ch < 256) (hst : 0 ≤ st ∧ st < 65536) (hpl : pl.length ≤ 10000) (hvl : ver.length ≤ 10000) (hck : checkC caps = 0) :
    Calls Tryz.prog 21 #[v, .agg #[.string (strL ver), .int .u32 thr, vn, .int .u32 caps, .int .u8 ch, .int .u16 st, .string (strL pl)]] w fun e w' => ∃ g, e = .returned (.tuple #[.pointer (some ⟨g, 0, none⟩), .int .i64 0]) ∧
      w.heap.size ≤ g ∧ g < w'.heap.size ∧ Ext w w' ∧ ∀ S : List Nat, g ∈ S → (∀ x ∈ S, x = g ∨ x < w.heap.size) → DoorIs w' S g (door0 us caps n (greetBs ver thr n caps ch st pl)) := by
  have HUS := Lib.hid hus
  have HGOOD := Lib.hid hgood
  obtain ⟨A, cap, hv, hle, hm⟩ := hus.shape
  rw [List.length_map] at hv hle
  unfold maxLen at hm
  obtain ⟨N, hN⟩ : ∃ N, N = us.length := ⟨_, rfl⟩
  rw [← hN] at hv hle h64
  subst hv
  have HN := Lib.hid hN
  obtain ⟨An, cn, rfl, _⟩ := id hn
  have HNN := Lib.hid hn
  obtain ⟨G, hG⟩ : ∃ G, G = greetBs ver thr n caps ch st pl := ⟨_, rfl⟩
  have HG : ∀ w v, Rd w v n → Calls Tryz.prog 55 #[.slice none 0 0, .agg #[.string (strL ver), .int .u32 thr, v, .int .u32 caps, .int .u8 ch, .int .u16 st, .string (strL pl)]] w (RetBE w G 0) := fun w v hv => by
    rw [hG]
    exact appendGreeting_g w ver n pl thr caps ch st v hv hzv hzp h20 hno hc hpf ht hcaps hch hst hpl hvl
  replace HG := Lib.hid HG
  have HCK := Lib.hid hck
  have H20 := Lib.hid h20
  rw [← hG]
  have hN64 : ¬ (N : Int) > 64 := by omega
  have hmm := @run_makeMap Tryz.prog
  clear hus hgood hN hn hG hck h20 hzv hzp hno hc hpf ht hcaps hch hst hpl hvl
  go_enter Tryz.func21, Tryz.ntmps21
  go_upto_region 1 with fail
  generalize hW0 : w.alloc _ = wS
  have hb0 : BoxF wS w.heap.size [.string (strL ver), .int .u32 thr, .slice An n.length cn, .int .u32 caps, .int .u8 ch, .int .u16 st, .string (strL pl)] := by rw [← hW0]; exact BoxF.new w _ _
  have hx0 : Ext w wS := by rw [← hW0]; exact (Ext.refl w).alloc _
  have hs0 : w.heap.size < wS.heap.size := by rw [← hW0]; simp
  clear hW0
  have HB0 := Lib.hid hb0
  have HX0 := Lib.hid hx0
  clear hb0 hx0
  go_wp2_with fail
  have hM0 : MapN (wS.alloc (.map #[] 0)) wS.heap.size 0 (us.take 0) := World.ownsMap_made wS Tryz.prog TS userR
  have hX1 : Ext w (wS.alloc (.map #[] 0)) := HX0.out.alloc _
  have hB1 := HB0.out.ext ((Ext.refl wS).alloc (.map #[] 0))
  go_loopw [8, 9, 10, 17] (fun _ _ _ i W => ∃ k : Nat, k ≤ N ∧ i = .int .i64 k ∧ MapN W wS.heap.size k (us.take k) ∧ Ext w W ∧ BoxF W w.heap.size [.string (strL ver), .int .u32 thr, .slice An n.length cn, .int .u32 caps, .int .u8 ch, .int .u16 st, .string (strL pl)] ∧ wS.heap.size ≤ W.heap.size) (fun _ _ _ i _ => N - (intOf i).toNat)
  case atStart => exact ⟨0, Nat.zero_le _, rfl, hM0, hX1, hB1, by simp⟩
  case round =>
    clear hM0 hX1 hB1
    obtain ⟨k, hk, rfl, hM, hx, hb, hsz⟩ := hrel
    by_cases hkN : k < N
    · have hbk : (k : Int) < (N : Int) := by omega
      obtain ⟨b0, o0, rfl, hn2, hcs⟩ := (HUS.out.ext hx).at_ (A := A) (n := N) (cap := cap) (by omega)
      have hck := hcs k hkN
      rw [rangeAt_userC us k (by have := HN.out; omega)] at hck
      have hgk := HGOOD.out k (by have := HN.out; omega)
      have hus1 := take_snoc us k (by have := HN.out; omega)
      generalize us.getD k userZ = u at hck hgk hus1
      obtain ⟨nm, pw, plg, sc, ad⟩ := u
      have HCKk := Lib.hid (show wr.rangeAt b0 (o0 + k * 5) [.string (strL nm), .string (strL pw), .string (strL plg), .string (strL sc), .bool ad] from hck)
      have HNM := Lib.hid (show nm.length ≤ maxLen by have := okU_name hgk.1; unfold maxLen; dsimp only at this; omega)
      have HF0 := Lib.hid (show (findU (us.take k) nm).getD userZ = ⟨[], [], [], [], false⟩ by rw [hgk.2]; rfl)
      have HF1 := Lib.hid (show (findU (us.take k) nm).isSome = false by rw [hgk.2]; rfl)
      have HCU := Lib.hid (show checkU ⟨nm, pw, plg, sc, ad⟩ = 0 by unfold checkU; rw [hgk.1]; rfl)
      have HKEY := Lib.hid (show keyOf Tryz.prog TS (Value.string (strL nm)) = some (Lit.string nm) from Go.WideMaps.keyOf_string_mk Tryz.underlying9 (s := strL nm) (by rw [strL_size]; exact HNM.out))
      have HUS1 := Lib.hid hus1
      have HM := Lib.hid hM
      have HB := Lib.hid hb
      clear hck hgk hus1 hM hb hcs hn2
      have tok1 : True := trivial
      go_wp2_with (first
        | ((with_reducible show wpList _ _ _ (⟨some 20, _, _, _, _, _⟩ :: _) _ _); refine wpl_load_rec rfl _ _ rfl b0 _ rfl HCKk.out Tryz.underlying32 rfl (by kernel_rfl) ?_)
        | ((with_reducible show wpList _ _ _ (⟨some 8, Op.alloc _, _, _, _, _⟩ :: _) _ _); refine wpl_alloc rfl _ rfl user0 (by kernel_rfl) ?_; intro w1 B1 hx1)
        | ((with_reducible show wpList _ _ _ (⟨none, Op.store 32 _ _, _, _, _, _⟩ :: _) _ _); have _t := tok1; refine wpl_store_box rfl _ _ _ rfl _ [.string (strL nm), .string (strL pw), .string (strL plg), .string (strL sc), .bool ad] rfl rfl B1 rfl (by kernel_rfl) (by rfl) ?_; intro w2 B2 O2; have hx2 : Ext wr w2 := hx1.on O2 (Nat.le_refl _); have c0 := B2.at (j := 0) rfl; clear tok1 B1 O2 hx1)
        | ((with_reducible show wpList _ _ _ (⟨some 25, _, _, _, _, _⟩ :: _) _ _); refine wpl_lookU rfl _ _ rfl (HM.out.ext hx2).u rfl nm rfl HNM.out HF0.out HF1.out ?_)
        | ((with_reducible show wpList _ _ _ (⟨some 9, Op.alloc _, _, _, _, _⟩ :: _) _ _); refine wpl_alloc rfl _ rfl user0 (by kernel_rfl) ?_; intro w3 B3 hx3)
        | ((with_reducible show wpList _ _ _ (⟨none, Op.store 32 _ _, _, _, _, _⟩ :: _) _ _); refine wpl_store_box rfl _ _ _ rfl _ [.string (strL []), .string (strL []), .string (strL []), .string (strL []), .bool false] rfl rfl B3 rfl (by kernel_rfl) (by rfl) ?_; intro w4 B4 O4; have hx24 : Ext w2 w4 := hx3.on O4 (Nat.le_refl _); have hx4 : Ext wr w4 := hx2.trans hx24; have B24 := B2.ext hx24; have d0 := B24.at (j := 0) rfl; have d1 := B24.at (j := 1) rfl; have d2 := B24.at (j := 2) rfl; have d3 := B24.at (j := 3) rfl; have d4 := B24.at (j := 4) rfl; clear c0 B2 B3 B4 O4 hx3 hx24 hx2)
        | (go_at_call 19; refine (checkU_c _ nm pw plg sc ad).mono ?_; rintro e w5 ⟨rfl, hx5⟩; rw [HCU.out]; have B25 := B24.ext hx5; have e0 := B25.at (j := 0) rfl; have hx45 := hx4.trans hx5; clear d0 d1 d2 d3 d4 B24)
        | ((with_reducible show wpList _ _ _ (⟨some 37, _, _, _, _, _⟩ :: _) _ _); refine wpl_load_box rfl _ _ rfl _ rfl B25 Tryz.underlying32 rfl (by kernel_rfl) ?_)
        | ((with_reducible show wpList _ _ _ (⟨none, Op.mapUpdate _ _ _ _, _, _, _, _⟩ :: _) _ _); (refine wpList_mapUpdate_own _ rfl _ _ _ TM rfl TS 32 lawS Tryz.underlying24 userR wS.heap.size k (usD (us.take k)) rfl (HM.out.ext hx45) (by unfold maxLen; omega) (.string (strL nm)) (.agg #[.string (strL nm), .string (strL pw), .string (strL plg), .string (strL sc), .bool ad]) (.string nm) rfl rfl HKEY.out (userD ⟨nm, pw, plg, sc, ad⟩) [] (userR_mk ⟨nm, pw, plg, sc, ad⟩) ?_; intro w6 hM6 hg6))
        | fail)
      go_roundw
      case rel =>
        have hO6 : On wS.heap.size w5 w6 := hg6
        exact ⟨k + 1, by omega, by go_num, by rw [HUS1.out]; unfold MapN; rw [usD_snoc]; exact hM6, (hx.trans hx45).on hO6 (Ext.size HX0.out), (HB.out.ext hx45).on hO6 (by omega), Nat.le_trans hsz (Nat.le_trans (Ext.size hx45) hO6.size)⟩
      case measure => simp [intOf]; omega
    · obtain rfl : k = N := by omega
      have hb9 : ¬ (k : Int) < (k : Int) := by omega
      have hT : us.take k = us := by rw [HN.out]; exact List.take_length
      rw [hT] at hM
      have HM := Lib.hid hM
      have HB := Lib.hid hb
      have HX := Lib.hid hx
      have HSZ := Lib.hid hsz
      clear hT hM hb hx hsz
      go_wp2_with (first
        | ((with_reducible show wpList _ _ _ (⟨some 40, _, _, _, _, _⟩ :: _) _ _); refine wpl_load_box rfl _ _ rfl _ rfl HB.out Tryz.underlying29 rfl (by kernel_rfl) ?_)
        | (go_at_call 55; refine (HG.out _ _ (HNN.out.ext HX.out)).mono ?_; rintro e w1 ⟨v1, rfl, ho1, hx1⟩; obtain ⟨A1, c1, hv1, _⟩ := id ho1.rd; subst hv1; have B1 := HB.out.ext hx1; have g3 := B1.at (j := 3) rfl; have g2 := B1.at (j := 2) rfl)
        | (go_at_call 56; refine (capsCheck_c _ caps).mono ?_; rintro e wx ⟨rfl, rfl⟩; rw [HCK.out])
        | (go_at_call 43; refine (cloneS_c _ _ n (HNN.out.ext (HX.out.trans hx1)) (by rw [H20.out]; omega)).mono ?_; rintro e w2 ⟨v2, rfl, ho2, hx2⟩; obtain ⟨A2, c2, hv2, _⟩ := id ho2.rd; subst hv2; have B2 := B1.ext hx2; clear g2 g3 B1)
        | ((with_reducible show wpList _ _ _ (⟨none, Op.store 22 _ _, _, _, _, _⟩ :: _) _ _); refine wpl_store_cell rfl _ _ _ rfl w.heap.size 2 (.slice A2 n.length c2) rfl rfl rfl rfl (by kernel_rfl) B2 (by simp) ?_; intro w3 B3 O3)
        | ((with_reducible show wpList _ _ _ (⟨some 62, _, _, _, _, _⟩ :: _) _ _); refine wpl_load_box rfl _ _ rfl _ rfl B3 Tryz.underlying29 rfl (by kernel_rfl) ?_)
        | ((with_reducible show wpList _ _ _ (⟨none, Op.store 30 _ _, _, _, _, _⟩ :: _) _ _); refine wpl_store_cell rfl _ _ _ rfl w3.heap.size 11 (fnAnswer w3.heap.size) rfl rfl rfl rfl (by kernel_rfl) (BoxF.new w3 [.map (some wS.heap.size), .string (strL ver), .int .u32 thr, .slice A2 n.length c2, .int .u32 caps, .int .u8 ch, .int .u16 st, .string (strL pl), .slice A1 G.length c1, .int .i64 1, .int .u32 0, _, .string ⟨#[]⟩, .string ⟨#[]⟩, .string ⟨#[]⟩, .string ⟨#[]⟩, .bool false, .bool false, .string ⟨#[]⟩] _) (by simp) ?_; intro w5 B5 O5)
        | fail)
      go_ret2
      have hs := HSZ.out
      have hs1 : wr.heap.size ≤ w1.heap.size := Ext.size hx1
      have hs2 : w1.heap.size ≤ w2.heap.size := Ext.size hx2
      have hs3 := O3.size
      have hs5 : w3.heap.size < w5.heap.size := Nat.lt_of_lt_of_le (by simp) O5.size
      have hX3 : Ext w w3 := ((HX.out.trans hx1).trans hx2).on O3 (Nat.le_refl _)
      have ho2' : Own w3 w1.heap.size (.slice A2 n.length c2) n := ho2.on O3 (by omega)
      have ho1' : Own w3 wr.heap.size (.slice A1 G.length c1) G := (ho1.ext hx2).on O3 (by omega)
      have hm3 : MapN w3 wS.heap.size k us := ((HM.out.ext hx1).ext hx2).on O3 (by omega)
      have hml := HM.out.u.lt
      refine ⟨w3.heap.size, rfl, Ext.size hX3, hs5, (hX3.alloc _).on O5 (Ext.size hX3), fun S hg hS => ?_⟩
      have hlo1 : ∀ h, (Value.slice A1 G.length c1).ownBlock = some h → wr.heap.size ≤ h ∧ h < w3.heap.size := fun h hb => World.ownsRow.lt ho1' h hb
      have hlo2 : ∀ h, (Value.slice A2 n.length c2).ownBlock = some h → w1.heap.size ≤ h ∧ h < w3.heap.size := fun h hb => World.ownsRow.lt ho2' h hb
      refine ⟨⟨wS.heap.size, .string (strL ver), .int .u32 thr, A2, c2, .int .u8 ch, .int .u16 st, .string (strL pl), .slice A1 G.length c1⟩, fnAnswer w3.heap.size, B5, ((hm3.ext ((Ext.refl _).alloc _)).on O5 (by omega)).u, ?_, ?_, ?_, ?_, ?_, .inl ⟨rfl, rfl⟩, hg, ?_⟩
      · intro hm9
        rcases hS _ hm9 with h | h <;> dsimp only at h <;> omega
      · exact (ho2'.rd.ext ((Ext.refl _).alloc _)).on O5 (fun e => by have := (hlo2 _ e).2; omega)
      · intro h hb9
        have := hlo2 h hb9
        refine ⟨fun hm9 => ?_, by omega⟩
        rcases hS _ hm9 with h | h <;> omega
      · exact (ho1'.rd.ext ((Ext.refl _).alloc _)).on O5 (fun e => by have := (hlo1 _ e).2; omega)
      · intro h hb9
        have := hlo1 h hb9
        refine ⟨fun hm9 => ?_, by omega⟩
        rcases hS _ hm9 with h | h <;> omega
      · intro x hx9
        rcases hS x hx9 with h | h <;> omega
end Go.Proofs.YtbodppfpmpmadaaGreat
/- Logins: the law's own functions. -/
namespace Go.Proofs.YtbodppfpmpmadaaGreat
open Go.RowKit

set_option maxRecDepth 100000 in
set_option maxHeartbeats 1000000 in
theorem nonce27_c (w : World) : Calls Tryz.prog 51 #[] w (RetB w nonceT) := by
  go_enter Tryz.func51, Tryz.ntmps51
  go_wp2_with fail
  have OW0 : Own w w.heap.size (.slice none 0 0) (nonceT.take 0) := Own.nil _ _
  go_loopw [1, 2] (fun b i W => ∃ k : Nat, k ≤ 20 ∧ i = .int .i64 ((k : Int) + 1) ∧ Own W w.heap.size b (nonceT.take k) ∧ Ext w W) (fun _ i _ => 20 - ((intOf i).toNat - 1))
  case atStart => exact ⟨0, Nat.zero_le _, rfl, OW0, Ext.refl _⟩
  case round =>
    clear OW0
    obtain ⟨k, hk, rfl, ho, hx⟩ := hrel
    have HO := Lib.hid ho
    have HX := Lib.hid hx
    clear ho hx
    by_cases hkN : k < 20
    · have hb : (k : Int) + 1 ≤ 20 := by omega
      have HL := Lib.hid (show (nonceT.take k).length ≤ 20 by rw [List.length_take]; omega)
      go_wp2_with ((with_reducible show wpList _ _ _ (⟨some 11, _, _, _, _, _⟩ :: _) _ _); refine wpl_append_rd bt (HO.out.ext ((Ext.refl _).alloc _)) (rd_byte _ ((k : Int) + 1) (by omega) _ rfl) rfl _ _ rfl rfl rfl (by have := HL.out; simp only [List.length_cons, List.length_nil]; omega) (Ext.size (HX.out.alloc _)) ?_; intro v1 w1 ho1 hb1)
      rw [← nonceT_take k hkN] at ho1
      go_roundw
      case rel => exact ⟨k + 1, by omega, by go_num, ho1, (HX.out.alloc _).below hb1 (Nat.le_refl _)⟩
      case measure => simp [intOf]; omega
    · obtain rfl : k = 20 := by omega
      have hb : ¬ ((20 : Nat) : Int) + 1 ≤ 20 := by omega
      have e : nonceT.take 20 = nonceT := by decide
      have E := Lib.hid e
      clear e
      go_wp2_with fail
      go_ret
      exact ⟨_, rfl, E.out ▸ HO.out, HX.out⟩
/-- The chapter's user. -/
def userN : UserV := ⟨[117], [112, 119], natL, [100], false⟩
set_option maxHeartbeats 1000000 in
theorem user27_c (w : World) : Calls Tryz.prog 48 #[] w fun e w' => e = .returned (.agg #[.string (strL [117]), .string (strL [112, 119]), .string (strL natL), .string (strL [100]), .bool false]) ∧ Ext w w' := by
  go_enter Tryz.func48, Tryz.ntmps48
  go_wp2_with (first
    | ((with_reducible show wpList _ _ _ (⟨some 0, Op.alloc _, _, _, _, _⟩ :: _) _ _); refine wpl_alloc rfl _ rfl user0 (by kernel_rfl) ?_; intro w1 B1 hx1)
    | ((with_reducible show wpList _ _ _ (⟨none, Op.store _ _ _, _, _, _, _⟩ :: _) _ _); refine wpl_store_box rfl _ _ _ rfl _ [.string (strL [117]), .string (strL [112, 119]), .string (strL natL), .string (strL [100]), .bool false] rfl rfl B1 rfl (by kernel_rfl) (by rfl) ?_; intro w2 B2 O2)
    | fail)
  try simp only [Exit.inBlock, Exit.then]
  refine ret_box1 rfl rfl rfl B2 Tryz.underlying32 rfl (by kernel_rfl) ?_
  exact ⟨rfl, hx1.on O2 (Nat.le_refl _)⟩
def greet0C : List Value := [.string ⟨#[]⟩, .int .u32 0, .slice none 0 0, .int .u32 0, .int .u8 0, .int .u16 0, .string ⟨#[]⟩]
set_option maxHeartbeats 1000000 in
theorem greeting27_c (w : World) : Calls Tryz.prog 49 #[] w fun e w' => ∃ A c, e = .returned (.agg #[.string (strL [56]), .int .u32 1, .slice A nonceT.length c, .int .u32 565760, .int .u8 45, .int .u16 2, .string (strL natL)]) ∧ Rd w' (.slice A nonceT.length c) nonceT ∧ Ext w w' := by
  obtain ⟨N, hN⟩ : ∃ N, N = nonceT.length := ⟨_, rfl⟩
  rw [← hN]
  have HN := Lib.hid hN
  clear hN
  go_enter Tryz.func49, Tryz.ntmps49
  go_wp2_with (first
    | ((with_reducible show wpList _ _ _ (⟨some 0, Op.alloc _, _, _, _, _⟩ :: _) _ _); refine wpl_alloc rfl _ rfl greet0C (by kernel_rfl) ?_; intro w1 B1 hx1)
    | (go_at_call 51; refine (nonce27_c _).mono ?_; rintro e w2 ⟨v2, rfl, ho2, hx2⟩; obtain ⟨A2, c2, hv2, _⟩ := id ho2.rd; rw [← HN.out] at hv2; subst hv2; have B2 := B1.ext hx2)
    | (go_at_call 91; refine (needed_c _).mono ?_; rintro e wx ⟨rfl, rfl⟩)
    | ((with_reducible show wpList _ _ _ (⟨none, Op.store _ _ _, _, _, _, _⟩ :: _) _ _); refine wpl_store_box rfl _ _ _ rfl _ [.string (strL [56]), .int .u32 1, .slice A2 N c2, .int .u32 565760, .int .u8 45, .int .u16 2, .string (strL natL)] rfl rfl B2 rfl (by kernel_rfl) (by rfl) ?_; intro w3 B3 O3)
    | fail)
  try simp only [Exit.inBlock, Exit.then]
  refine ret_box1 rfl rfl rfl B3 Tryz.underlying29 rfl (by kernel_rfl) ?_
  exact ⟨A2, c2, rfl, (ho2.on O3 (by have := B1.lt; omega)).rd, (hx1.trans hx2).on O3 (Nat.le_refl _)⟩
/-- An answer's bytes. -/
def ansL (nm pl r : List UInt8) : List UInt8 := answerB ⟨565760, 16777216, 45, nm, r, [], pl, []⟩
theorem ansL_ok (nm pl r : List UInt8) (h1 : nm.contains 0 = false) (h2 : pl.contains 0 = false) (h3 : r.length ≤ 255) : AnsOk ⟨565760, 16777216, 45, nm, r, [], pl, []⟩ :=
  ⟨by dsimp only; decide, by dsimp only; decide, by dsimp only; decide, by dsimp only; decide, h1, by dsimp only; decide, h2, .inl rfl, .inr (by dsimp only; decide), h3, by dsimp only; decide, .inl rfl⟩
set_option maxHeartbeats 1000000 in
theorem answer27_c (w : World) (nm pl r : List UInt8) (v : Value) (hr : Rd w v r) (h1 : nm.contains 0 = false) (h2 : pl.contains 0 = false) (h3 : r.length ≤ 255) (h4 : nm.length ≤ 100) (h5 : pl.length ≤ 100) :
    Calls Tryz.prog 52 #[.string (strL nm), .string (strL pl), v] w (RetB w (ansL nm pl r)) := by
  have HOK := Lib.hid (ansL_ok nm pl r h1 h2 h3)
  have HR := Lib.hid hr
  have H4 := Lib.hid h4
  have H5 := Lib.hid h5
  obtain ⟨A, c, rfl, _⟩ := hr
  obtain ⟨F, hF⟩ : ∃ F, F = ansL nm pl r := ⟨_, rfl⟩
  rw [← hF]
  have HF := Lib.hid hF
  clear h1 h2 h3 h4 h5 hF
  go_enter Tryz.func52, Tryz.ntmps52
  go_wp2_with (first
    | (go_at_call 91; refine (needed_c _).mono ?_; rintro e wx ⟨rfl, rfl⟩)
    | (go_at_call 93; refine (appendAnswer_g _ 565760 16777216 45 nm r [] pl [] _ _ HR.out (Recs.nil _ _) HOK.out (by have := H4.out; omega) (by simp) (by have := H5.out; omega) (by simp [attrsB])).mono ?_; rintro e w3 ⟨v3, rfl, ho3, hx3⟩)
    | fail)
  go_ret
  rw [HF.out]
  exact ⟨_, rfl, ho3, hx3⟩
end Go.Proofs.YtbodppfpmpmadaaGreat
