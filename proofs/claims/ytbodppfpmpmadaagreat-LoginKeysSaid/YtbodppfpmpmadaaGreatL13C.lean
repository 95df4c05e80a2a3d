import Derived.Test.YtbodppfpmpmadaaGreatGrG1C
import Derived.Test.YtbodppfpmpmadaaGreatGrG3C
import Derived.Test.YtbodppfpmpmadaaGreatL12C
import Derived.Test.YtbodppfpmpmadaaGreatGrIC
import Derived.Test.YtbodppfpmpmadaaGreatGrK1C
import Derived.Test.YtbodppfpmpmadaaGreatGrK2C
import Derived.Test.YtbodppfpmpmadaaGreatGrK3C
import Derived.Test.YtbodppfpmpmadaaGreatGrK4C
import Derived.Test.YtbodppfpmpmadaaGreatL11C
import Derived.Test.YtbodppfpmpmadaaGreatGrJlC
import Derived.Test.YtbodppfpmpmadaaGreatGrJrC
namespace Go.Proofs.YtbodppfpmpmadaaGreat
open Go.RowKit

theorem readGreeting_g (w : World) (v : Value) (l : List UInt8) (hr : Rd w v l) : Calls Tryz.prog 121 #[v] w (RetGre w (overP greetM gre0 l)) := by
  by_cases he : (overP greetM gre0 l).2 = 0
  · cases hk : hasC (greetM (l, 0)).1.caps 524288 with
    | true => exact readGreeting_ta w v l hr hk he
    | false => exact readGreeting_fa w v l hr hk he
  · cases hk : hasC (greetM (l, 0)).1.caps 524288 with
    | true => exact readGreeting_tz w v l hr hk he
    | false => exact readGreeting_fz w v l hr hk he
end Go.Proofs.YtbodppfpmpmadaaGreat

namespace Go.Proofs.YtbodppfpmpmadaaGreat
open Go.RowKit

theorem readAnswer_f (w : World) (v : Value) (l : List UInt8) (hr : Rd w v l) (hl : l.length ≤ 900000) : Calls Tryz.prog 99 #[v] w (RetAnsF w (overP answerM ans0 l)) := by
  by_cases he : (overP answerM ans0 l).2 = 0
  · cases hk : hasC ((rX 4 (l, 0)).1 % 4294967296) 2097152 with
    | true => exact readAnswer_la w v l hr hl hk he
    | false => exact readAnswer_ra w v l hr hl hk he
  · cases hk : hasC ((rX 4 (l, 0)).1 % 4294967296) 2097152 with
    | true => exact readAnswer_lz w v l hr hl hk he
    | false => exact readAnswer_rz w v l hr hl hk he
end Go.Proofs.YtbodppfpmpmadaaGreat

namespace Go.Proofs.YtbodppfpmpmadaaGreat
open Go.RowKit

theorem endB_ge {f : Bool} {s : List UInt8} (h : s = [] ∨ f = true) : s.length ≤ (endB f s).length := by
  rcases h with rfl | rfl
  · simp
  · simp [endB]
theorem ans_sizes {a : AnsV} {n : Nat} (h : AnsOk a) (hl : (answerB a).length ≤ n) : a.user.length ≤ n ∧ a.db.length ≤ n ∧ a.pl.length ≤ n := by
  have h1 := endB_ge h.dbF
  have h2 := endB_ge h.plF
  simp only [answerB, List.length_append, List.length_cons, List.length_nil] at hl
  omega
theorem readGreeting_s (w : World) (v : Value) (L ver n pl : List UInt8) (thr caps ch st er : Int) (hr : Rd w v L) (h : overP greetM gre0 L = (⟨ver, thr, n, caps, ch, st, pl⟩, er)) :
    Calls Tryz.prog 121 #[v] w fun e w' => ∃ A k c, e = .returned (.tuple #[.agg #[.string (strL ver), .int .u32 thr, .slice A k c, .int .u32 caps, .int .u8 ch, .int .u16 st, .string (strL pl)], .int .i64 er]) ∧ Rd w' (.slice A k c) n ∧ Ext w w' := by
  refine (readGreeting_g w v L hr).mono ?_
  rw [h]
  rintro e w' ⟨vn, rfl, hr2, hx⟩
  obtain ⟨A, c, hv, _⟩ := id hr2
  subst hv
  exact ⟨A, _, c, rfl, hr2, hx⟩
theorem readSwitch_s (w : World) (v : Value) (L pl n : List UInt8) (er : Int) (hr : Rd w v L) (h : overP switchM ([], []) L = ((pl, n), er)) :
    Calls Tryz.prog 169 #[v] w fun e w' => ∃ A k c, e = .returned (.tuple #[.agg #[.string (strL pl), .slice A k c], .int .i64 er]) ∧ Rd w' (.slice A k c) n ∧ Ext w w' := by
  refine (readSwitch_g w v L hr).mono ?_
  rw [h]
  rintro e w' ⟨vn, rfl, hr2, hx⟩
  obtain ⟨A, c, hv, _⟩ := id hr2
  subst hv
  exact ⟨A, _, c, rfl, hr2, hx⟩
end Go.Proofs.YtbodppfpmpmadaaGreat

namespace Go.Proofs.YtbodppfpmpmadaaGreat
open Go.RowKit

theorem DoorIs.dfail {w w1 : World} {S : List Nat} {g : Nat} {D : DoorV} {K : DoorK} {fv : Value} (h : DoorAt w S g D K fv) (hO : On g w w1) (hb : BoxF w1 g ((dcs K D fv).set 9 (.int .i64 3))) : DoorIs w1 S g { D with st := 3 } :=
  ⟨K, fv, h.turn hO (D' := { D with st := 3 }) hb rfl rfl rfl (h.fn.on hO h.gS)⟩
theorem readAnswer_o (w : World) (v : Value) (L user resp db pl : List UInt8) (caps most ch er : Int) (ps : Pairs) (hr : Rd w v L) (hl : L.length ≤ 900000) (h : overP answerM ans0 L = (⟨caps, most, ch, user, resp, db, pl, ps⟩, er)) :
    Calls Tryz.prog 99 #[v] w fun e w' => ∃ A k c B m d, e = .returned (.tuple #[.agg #[.int .u32 caps, .int .u32 most, .int .u8 ch, .string (strL user), .slice A k c, .string (strL db), .string (strL pl), .slice B m d], .int .i64 er]) ∧ Rd w' (.slice A k c) resp ∧ Ext w w' ∧ ∀ h, (Value.slice A k c).ownBlock = some h → w.heap.size ≤ h := by
  refine (readAnswer_f w v L hr hl).mono ?_
  rw [h]
  rintro e w' ⟨vr, va, rfl, hr2, ha2, hx, hn⟩
  obtain ⟨A, c, hv, _⟩ := id hr2
  obtain ⟨B, d, hv2, _⟩ := Recs.shape ha2
  subst hv hv2
  exact ⟨A, _, c, B, _, d, rfl, hr2, hx, hn⟩
def ans0C : List Value := [.int .u32 0, .int .u32 0, .int .u8 0, .string ⟨#[]⟩, .slice none 0 0, .string ⟨#[]⟩, .string ⟨#[]⟩, .slice none 0 0]
set_option maxHeartbeats 2000000 in
theorem answer_bad (w : World) (S : List Nat) (g : Nat) (D : DoorV) (l : List UInt8) (vb : Value) (h : DoorIs w S g D) (hr : Rd w vb l) (hl : l.length ≤ 900000) (he : (overP answerM ans0 l).2 ≠ 0) :
    Calls Tryz.prog 57 #[.pointer (some ⟨g, 0, none⟩), vb] w (RetD w S g ([oddL], { D with st := 3 })) := by
  obtain ⟨K, fv, h⟩ := h
  obtain ⟨⟨⟨caps, most, ch, user, resp, db, pl, ps⟩, er⟩, hA⟩ : ∃ x, overP answerM ans0 l = x := ⟨_, rfl⟩
  rw [hA] at he
  have hq : (er != 0) = true := by simpa using he
  have HA := Lib.hid hA
  have HR := Lib.hid hr
  have HL := Lib.hid hl
  have HH := Lib.hid h
  obtain ⟨Ab, cb, rfl, _⟩ := hr
  clear hA hl h he
  go_enter Tryz.func57, Tryz.ntmps57
  go_wp2_with (first
    | (go_at_call 99; refine (readAnswer_o _ _ l user resp db pl caps most ch er ps HR.out HL.out HA.out).mono ?_; rintro e w1 ⟨A1, k1, c1, A2, k2, c2, rfl, _, hx1, _⟩)
    | ((with_reducible show wpList _ _ _ (⟨some 5, Op.alloc _, _, _, _, _⟩ :: _) _ _); refine wpl_alloc rfl _ rfl ans0C (by kernel_rfl) ?_; intro w2 B2 hx2)
    | ((with_reducible show wpList _ _ _ (⟨none, Op.store _ _ _, _, _, _, _⟩ :: _) _ _); refine wpl_store_box rfl _ _ _ rfl _ [.int .u32 caps, .int .u32 most, .int .u8 ch, .string (strL user), .slice A1 k1 c1, .string (strL db), .string (strL pl), .slice A2 k2 c2] rfl rfl B2 rfl (by kernel_rfl) (by rfl) ?_; intro w3 B3 O3; have hx3 : Ext w w3 := (hx1.trans hx2).on O3 (Ext.size hx1))
    | (go_at_call 42; refine (odd_c _).mono ?_; rintro e w4 ⟨v4, rfl, hl4, hx4⟩; have hx5 := hx3.trans hx4)
    | (go_at_call 41; refine (dfail_c _ g (dcs K D fv) _ (HH.out.box.ext hx5) rfl).mono ?_; rintro e w6 ⟨rfl, B6, O6⟩)
    | fail)
  go_ret
  have hO : On g w w6 := (On.of hx5).trans O6
  exact ⟨_, rfl, (hl4.on O6 (Nat.lt_of_lt_of_le HH.out.box.lt (Ext.size hx3))).more (Ext.size hx3), DoorIs.dfail HH.out hO B6, hO⟩
end Go.Proofs.YtbodppfpmpmadaaGreat

namespace Go.Proofs.YtbodppfpmpmadaaGreat
open Go.RowKit

theorem RetD.from {w w1 w' : World} {S : List Nat} {g : Nat} {r : List (List UInt8) × DoorV} {e : Ending} (hO : On g w w1) (h : RetD w1 S g r e w') : RetD w S g r e w' := by
  obtain ⟨v, rfl, h1, h2, h3⟩ := h
  exact ⟨v, rfl, h1.more hO.size, h2, hO.trans h3⟩
set_option maxHeartbeats 2000000 in
theorem answer_odd (w : World) (S : List Nat) (g : Nat) (D : DoorV) (l user resp db pl : List UInt8) (caps most ch : Int) (ps : Pairs) (vb : Value) (h : DoorIs w S g D) (hr : Rd w vb l) (hl : l.length ≤ 900000) (hA : overP answerM ans0 l = (⟨caps, most, ch, user, resp, db, pl, ps⟩, 0)) (hk : checkC (bothC D.gc caps) ≠ 0) :
    Calls Tryz.prog 57 #[.pointer (some ⟨g, 0, none⟩), vb] w (RetD w S g ([oddL], { D with st := 3 })) := by
  obtain ⟨K, fv, h⟩ := h
  obtain ⟨gc, hgc⟩ : ∃ gc, gc = D.gc := ⟨_, rfl⟩
  obtain ⟨c, hc⟩ : ∃ c, bothC gc caps = c := ⟨_, rfl⟩
  rw [← hgc] at hk
  rw [hc] at hk
  have HA := Lib.hid hA
  have HR := Lib.hid hr
  have HL := Lib.hid hl
  have HH := Lib.hid h
  have HC := Lib.hid hc
  have HK := Lib.hid hk
  have HGC := Lib.hid hgc
  obtain ⟨Ab, cb, rfl, _⟩ := hr
  obtain ⟨ck, hck⟩ : ∃ ck, checkC c = ck := ⟨_, rfl⟩
  have HCK := Lib.hid hck
  rw [hck] at hk
  have hq : (ck != 0) = true := by simpa using hk
  clear hA hl h hc hgc hk hck
  go_enter Tryz.func57, Tryz.ntmps57
  go_wp2_with (first
    | (go_at_call 99; refine (readAnswer_o _ _ l user resp db pl caps most ch 0 ps HR.out HL.out HA.out).mono ?_; rintro e w1 ⟨A1, k1, c1, A2, k2, c2, rfl, hr1, hx1, hn1⟩)
    | ((with_reducible show wpList _ _ _ (⟨some 5, Op.alloc _, _, _, _, _⟩ :: _) _ _); refine wpl_alloc rfl _ rfl ans0C (by kernel_rfl) ?_; intro w2 B2 hx2)
    | ((with_reducible show wpList _ _ _ (⟨none, Op.store _ _ _, _, _, _, _⟩ :: _) _ _); refine wpl_store_box rfl _ _ _ rfl _ [.int .u32 caps, .int .u32 most, .int .u8 ch, .string (strL user), .slice A1 k1 c1, .string (strL db), .string (strL pl), .slice A2 k2 c2] rfl rfl B2 rfl (by kernel_rfl) (by rfl) ?_; intro w3 B3 O3; have hx3 : Ext w w3 := (hx1.trans hx2).on O3 (Ext.size hx1); have d4 : w3.cell? ⟨g, 4, none⟩ = some (.int .u32 gc) := (HH.out.box.ext hx3).at (j := 4) (by rw [HGC.out]; rfl); have b0 := B3.at (j := 0) rfl)
    | fail)
  have HX3 := Lib.hid hx3
  have HX1 := Lib.hid hx1
  have HB3 := Lib.hid B3
  have HR1 := Lib.hid hr1
  have HX13 := Lib.hid (show Ext w1 w3 from hx2.on O3 (Nat.le_refl _))
  have HNE := Lib.hid (show (Value.slice A1 k1 c1).ownBlock ≠ some g from fun e => by have := hn1 g e; have := HH.out.box.lt; omega)
  clear hx3 B2 B3 hr1 hx1 hx2 O3 hn1
  have hY := Ext.refl w3
  go_region_held3 (fun W' => W'.cell? ⟨g, 4, none⟩ = some (.int .u32 gc) ∧ W'.cell? ⟨w1.heap.size, 0, none⟩ = some (.int .u32 caps) ∧ Ext w3 W')
    ((refine (fun h => ⟨Ext.cell h d4, Ext.cell h b0, h⟩) ?_; repeat' (first | with_reducible exact hY | (with_reducible refine Ext.drew ?_) | (with_reducible refine Ext.alloc ?_ _))))
    (first
      | (go_at_call 100; go_must (refine (both_c _ gc caps).mono ?_; rintro e w4 ⟨rfl, hx4⟩; rw [HC.out]; replace hY : Ext w3 w4 := (Ext.refl _).drew.trans hx4))
      | fail)
  all_goals
    have HY := Lib.hid (HX3.out.trans hY)
    clear d4 b0 hY hx4
    go_wp2_with (first
      | (go_at_call 56; refine (capsCheck_c _ c).mono ?_; rintro e wx ⟨rfl, rfl⟩; rw [HCK.out])
      | (go_at_call 42; refine (odd_c _).mono ?_; rintro e w6 ⟨v6, rfl, hl6, hx6⟩; have hx7 := HY.out.trans hx6)
      | (go_at_call 41; refine (dfail_c _ g (dcs K D fv) _ (HH.out.box.ext hx7) rfl).mono ?_; rintro e w8 ⟨rfl, B8, O8⟩)
      | fail)
    go_ret
    have hO : On g w w8 := (On.of hx7).trans O8
    exact ⟨_, rfl, (hl6.on O8 (Nat.lt_of_lt_of_le HH.out.box.lt (Ext.size HY.out))).more (Ext.size HY.out), DoorIs.dfail HH.out hO B8, hO⟩
end Go.Proofs.YtbodppfpmpmadaaGreat

namespace Go.Proofs.YtbodppfpmpmadaaGreat
open Go.RowKit

set_option maxHeartbeats 4000000 in
theorem answer_nobody (w : World) (S : List Nat) (g : Nat) (D : DoorV) (l user resp db pl : List UInt8) (caps most ch : Int) (ps : Pairs) (vb : Value) (h : DoorIs w S g D) (hr : Rd w vb l) (hl : l.length ≤ 900000) (hA : overP answerM ans0 l = (⟨caps, most, ch, user, resp, db, pl, ps⟩, 0)) (hk : checkC (bothC D.gc caps) = 0)
    (hul : user.length ≤ 1000000) (D1 : DoorV) (hD : whoP { D with c := bothC D.gc caps } user db = D1) (hok : DoorOk D1) (hkn : D1.kn = false) :
    Calls Tryz.prog 57 #[.pointer (some ⟨g, 0, none⟩), vb] w (RetD w S g (changeP D1)) := by
  obtain ⟨K, fv, h⟩ := h
  obtain ⟨gc, hgc⟩ : ∃ gc, gc = D.gc := ⟨_, rfl⟩
  obtain ⟨c, hc⟩ : ∃ c, bothC gc caps = c := ⟨_, rfl⟩
  rw [← hgc] at hk
  rw [hc] at hk
  have HA := Lib.hid hA
  have HR := Lib.hid hr
  have HL := Lib.hid hl
  have HH := Lib.hid h
  have HC := Lib.hid hc
  have HK := Lib.hid hk
  have HGC := Lib.hid hgc
  obtain ⟨Ab, cb, rfl, _⟩ := hr
  have HD := Lib.hid (show whoP { D with c := c } user db = D1 by rw [← hD, ← hc, hgc])
  have HU := Lib.hid hul
  have HOK := Lib.hid hok
  have HKN := Lib.hid hkn
  obtain ⟨t, ht⟩ : ∃ t, strL D1.u.pl = t := ⟨_, rfl⟩
  have HPL := Lib.hid ht
  clear hok hkn ht
  clear hA hl h hc hgc hk hD hul
  go_enter Tryz.func57, Tryz.ntmps57
  go_wp2_with (first
    | (go_at_call 99; refine (readAnswer_o _ _ l user resp db pl caps most ch 0 ps HR.out HL.out HA.out).mono ?_; rintro e w1 ⟨A1, k1, c1, A2, k2, c2, rfl, hr1, hx1, hn1⟩)
    | ((with_reducible show wpList _ _ _ (⟨some 5, Op.alloc _, _, _, _, _⟩ :: _) _ _); refine wpl_alloc rfl _ rfl ans0C (by kernel_rfl) ?_; intro w2 B2 hx2)
    | ((with_reducible show wpList _ _ _ (⟨none, Op.store _ _ _, _, _, _, _⟩ :: _) _ _); refine wpl_store_box rfl _ _ _ rfl _ [.int .u32 caps, .int .u32 most, .int .u8 ch, .string (strL user), .slice A1 k1 c1, .string (strL db), .string (strL pl), .slice A2 k2 c2] rfl rfl B2 rfl (by kernel_rfl) (by rfl) ?_; intro w3 B3 O3; have hx3 : Ext w w3 := (hx1.trans hx2).on O3 (Ext.size hx1); have d4 : w3.cell? ⟨g, 4, none⟩ = some (.int .u32 gc) := (HH.out.box.ext hx3).at (j := 4) (by rw [HGC.out]; rfl); have b0 := B3.at (j := 0) rfl)
    | fail)
  have HX3 := Lib.hid hx3
  have HX1 := Lib.hid hx1
  have HB3 := Lib.hid B3
  have HR1 := Lib.hid hr1
  have HX13 := Lib.hid (show Ext w1 w3 from hx2.on O3 (Nat.le_refl _))
  have HNE := Lib.hid (show (Value.slice A1 k1 c1).ownBlock ≠ some g from fun e => by have := hn1 g e; have := HH.out.box.lt; omega)
  clear hx3 B2 B3 hr1 hx1 hx2 O3 hn1
  have hY := Ext.refl w3
  go_region_held3 (fun W' => W'.cell? ⟨g, 4, none⟩ = some (.int .u32 gc) ∧ W'.cell? ⟨w1.heap.size, 0, none⟩ = some (.int .u32 caps) ∧ Ext w3 W')
    ((refine (fun h => ⟨Ext.cell h d4, Ext.cell h b0, h⟩) ?_; repeat' (first | with_reducible exact hY | (with_reducible refine Ext.drew ?_) | (with_reducible refine Ext.alloc ?_ _))))
    (first
      | (go_at_call 100; go_must (refine (both_c _ gc caps).mono ?_; rintro e w4 ⟨rfl, hx4⟩; rw [HC.out]; replace hY : Ext w3 w4 := (Ext.refl _).drew.trans hx4))
      | fail)
  all_goals
    have HY := Lib.hid hY
    have HD4 := Lib.hid (HH.out.ext (HX3.out.trans hY))
    have HB4 := Lib.hid (HB3.out.ext hY)
    clear d4 b0 hY hx4
    go_wp2_with (first
      | (go_at_call 56; refine (capsCheck_c _ c).mono ?_; rintro e wx ⟨rfl, rfl⟩; rw [HK.out])
      | ((with_reducible show wpList _ _ _ (⟨none, Op.store _ _ _, _, _, _, _⟩ :: _) _ _); refine wpl_store_cell rfl _ _ _ rfl g 10 (.int .u32 c) rfl rfl rfl rfl (by kernel_rfl) HD4.out.box (show 10 < 19 by decide) ?_; intro w5 B5 O5; have D5 := HD4.out.turn O5 (D' := { D with c := c }) B5 rfl rfl rfl (HD4.out.fn.on O5 HD4.out.gS); have HB5 := Lib.hid (HB4.out.on O5 (by have := HH.out.box.lt; have := Ext.size HX1.out; omega)); have b3 := HB5.out.at (j := 3) rfl; have b5 := HB5.out.at (j := 5) rfl)
      | (go_at_call 44; refine (who_d _ S g { D with c := c } user db K fv D5 HU.out).mono ?_; rintro e w6 ⟨rfl, D6, O6⟩; rw [HD.out] at D6; have hO6 := O5.trans O6; have HB6 := Lib.hid (HB5.out.on O6 (by have := HH.out.box.lt; have := Ext.size HX1.out; omega)); clear b3 b5 D5 B5)
      | fail)
    have HD6 := Lib.hid D6
    have d17 : w6.cell? ⟨g, 17, none⟩ = some (.bool D1.kn) := D6.box.at (j := 17) rfl
    have d14 : w6.cell? ⟨g, 14, none⟩ = some (.string (strL D1.u.pl)) := D6.box.at (j := 14) rfl
    have b6 : w6.cell? ⟨w1.heap.size, 6, none⟩ = some (.string (strL pl)) := HB6.out.at (j := 6) rfl
    have HO6 := Lib.hid (show On g w w6 from ((On.of HX3.out).ext HY.out).trans hO6)
    have HR6 := Lib.hid (show Rd w6 (.slice A1 k1 c1) resp from (((HR1.out.ext HX13.out).ext HY.out).on hO6 HNE.out))
    clear D6 O5 O6 hO6
    rw [HKN.out] at d17
    rw [HPL.out] at d14
    (try dsimp only [Act.put])
    first | go_region | fail
    generalize hw7 : w6.drew = w7
    have hx7 : Ext w6 w7 := by rw [← hw7]; exact (Ext.refl w6).drew
    clear hw7 d17 d14 b6
    have HX7 := Lib.hid hx7
    clear hx7
    go_wp2_with (first
      | (go_at_call 45; refine (change_d _ S g D1 ⟨K, fv, HD6.out.ext HX7.out⟩ HOK.out.sw HOK.out.pl).mono ?_; rintro e w8 ⟨v8, rfl, hl8, hd8, O8⟩)
      | fail)
    go_ret
    exact RetD.from (HO6.out.ext HX7.out) ⟨_, rfl, hl8, hd8, O8⟩
end Go.Proofs.YtbodppfpmpmadaaGreat

namespace Go.Proofs.YtbodppfpmpmadaaGreat
open Go.RowKit

set_option maxHeartbeats 4000000 in
theorem answer_other (w : World) (S : List Nat) (g : Nat) (D : DoorV) (l user resp db pl : List UInt8) (caps most ch : Int) (ps : Pairs) (vb : Value) (h : DoorIs w S g D) (hr : Rd w vb l) (hl : l.length ≤ 900000) (hA : overP answerM ans0 l = (⟨caps, most, ch, user, resp, db, pl, ps⟩, 0)) (hk : checkC (bothC D.gc caps) = 0)
    (hul : user.length ≤ 1000000) (D1 : DoorV) (hD : whoP { D with c := bothC D.gc caps } user db = D1) (hok : DoorOk D1) (hkn : D1.kn = true) (hp : (pl == D1.u.pl) = false) :
    Calls Tryz.prog 57 #[.pointer (some ⟨g, 0, none⟩), vb] w (RetD w S g (changeP D1)) := by
  obtain ⟨K, fv, h⟩ := h
  obtain ⟨gc, hgc⟩ : ∃ gc, gc = D.gc := ⟨_, rfl⟩
  obtain ⟨c, hc⟩ : ∃ c, bothC gc caps = c := ⟨_, rfl⟩
  rw [← hgc] at hk
  rw [hc] at hk
  have HA := Lib.hid hA
  have HR := Lib.hid hr
  have HL := Lib.hid hl
  have HH := Lib.hid h
  have HC := Lib.hid hc
  have HK := Lib.hid hk
  have HGC := Lib.hid hgc
  obtain ⟨Ab, cb, rfl, _⟩ := hr
  have HD := Lib.hid (show whoP { D with c := c } user db = D1 by rw [← hD, ← hc, hgc])
  have HU := Lib.hid hul
  have HOK := Lib.hid hok
  have HKN := Lib.hid hkn
  obtain ⟨t, ht⟩ : ∃ t, strL D1.u.pl = t := ⟨_, rfl⟩
  have HPL := Lib.hid ht
  have g9 : ((strL pl).toList == t.toList) = false := by rw [← ht, strL_tl, strL_tl]; exact hp
  have g8 : ((strL pl).toList != t.toList) = true := by unfold bne; rw [g9]; rfl
  clear hok hkn ht hp
  clear hA hl h hc hgc hk hD hul
  go_enter Tryz.func57, Tryz.ntmps57
  go_wp2_with (first
    | (go_at_call 99; refine (readAnswer_o _ _ l user resp db pl caps most ch 0 ps HR.out HL.out HA.out).mono ?_; rintro e w1 ⟨A1, k1, c1, A2, k2, c2, rfl, hr1, hx1, hn1⟩)
    | ((with_reducible show wpList _ _ _ (⟨some 5, Op.alloc _, _, _, _, _⟩ :: _) _ _); refine wpl_alloc rfl _ rfl ans0C (by kernel_rfl) ?_; intro w2 B2 hx2)
    | ((with_reducible show wpList _ _ _ (⟨none, Op.store _ _ _, _, _, _, _⟩ :: _) _ _); refine wpl_store_box rfl _ _ _ rfl _ [.int .u32 caps, .int .u32 most, .int .u8 ch, .string (strL user), .slice A1 k1 c1, .string (strL db), .string (strL pl), .slice A2 k2 c2] rfl rfl B2 rfl (by kernel_rfl) (by rfl) ?_; intro w3 B3 O3; have hx3 : Ext w w3 := (hx1.trans hx2).on O3 (Ext.size hx1); have d4 : w3.cell? ⟨g, 4, none⟩ = some (.int .u32 gc) := (HH.out.box.ext hx3).at (j := 4) (by rw [HGC.out]; rfl); have b0 := B3.at (j := 0) rfl)
    | fail)
  have HX3 := Lib.hid hx3
  have HX1 := Lib.hid hx1
  have HB3 := Lib.hid B3
  have HR1 := Lib.hid hr1
  have HX13 := Lib.hid (show Ext w1 w3 from hx2.on O3 (Nat.le_refl _))
  have HNE := Lib.hid (show (Value.slice A1 k1 c1).ownBlock ≠ some g from fun e => by have := hn1 g e; have := HH.out.box.lt; omega)
  clear hx3 B2 B3 hr1 hx1 hx2 O3 hn1
  have hY := Ext.refl w3
  go_region_held3 (fun W' => W'.cell? ⟨g, 4, none⟩ = some (.int .u32 gc) ∧ W'.cell? ⟨w1.heap.size, 0, none⟩ = some (.int .u32 caps) ∧ Ext w3 W')
    ((refine (fun h => ⟨Ext.cell h d4, Ext.cell h b0, h⟩) ?_; repeat' (first | with_reducible exact hY | (with_reducible refine Ext.drew ?_) | (with_reducible refine Ext.alloc ?_ _))))
    (first
      | (go_at_call 100; go_must (refine (both_c _ gc caps).mono ?_; rintro e w4 ⟨rfl, hx4⟩; rw [HC.out]; replace hY : Ext w3 w4 := (Ext.refl _).drew.trans hx4))
      | fail)
  all_goals
    have HY := Lib.hid hY
    have HD4 := Lib.hid (HH.out.ext (HX3.out.trans hY))
    have HB4 := Lib.hid (HB3.out.ext hY)
    clear d4 b0 hY hx4
    go_wp2_with (first
      | (go_at_call 56; refine (capsCheck_c _ c).mono ?_; rintro e wx ⟨rfl, rfl⟩; rw [HK.out])
      | ((with_reducible show wpList _ _ _ (⟨none, Op.store _ _ _, _, _, _, _⟩ :: _) _ _); refine wpl_store_cell rfl _ _ _ rfl g 10 (.int .u32 c) rfl rfl rfl rfl (by kernel_rfl) HD4.out.box (show 10 < 19 by decide) ?_; intro w5 B5 O5; have D5 := HD4.out.turn O5 (D' := { D with c := c }) B5 rfl rfl rfl (HD4.out.fn.on O5 HD4.out.gS); have HB5 := Lib.hid (HB4.out.on O5 (by have := HH.out.box.lt; have := Ext.size HX1.out; omega)); have b3 := HB5.out.at (j := 3) rfl; have b5 := HB5.out.at (j := 5) rfl)
      | (go_at_call 44; refine (who_d _ S g { D with c := c } user db K fv D5 HU.out).mono ?_; rintro e w6 ⟨rfl, D6, O6⟩; rw [HD.out] at D6; have hO6 := O5.trans O6; have HB6 := Lib.hid (HB5.out.on O6 (by have := HH.out.box.lt; have := Ext.size HX1.out; omega)); clear b3 b5 D5 B5)
      | fail)
    have HD6 := Lib.hid D6
    have d17 : w6.cell? ⟨g, 17, none⟩ = some (.bool D1.kn) := D6.box.at (j := 17) rfl
    have d14 : w6.cell? ⟨g, 14, none⟩ = some (.string (strL D1.u.pl)) := D6.box.at (j := 14) rfl
    have b6 : w6.cell? ⟨w1.heap.size, 6, none⟩ = some (.string (strL pl)) := HB6.out.at (j := 6) rfl
    have HO6 := Lib.hid (show On g w w6 from ((On.of HX3.out).ext HY.out).trans hO6)
    have HR6 := Lib.hid (show Rd w6 (.slice A1 k1 c1) resp from (((HR1.out.ext HX13.out).ext HY.out).on hO6 HNE.out))
    clear D6 O5 O6 hO6
    rw [HKN.out] at d17
    rw [HPL.out] at d14
    (try dsimp only [Act.put])
    first | go_region | fail
    generalize hw7 : w6.drew = w7
    have hx7 : Ext w6 w7 := by rw [← hw7]; exact (Ext.refl w6).drew
    clear hw7 d17 d14 b6
    have HX7 := Lib.hid hx7
    clear hx7
    go_wp2_with (first
      | (go_at_call 45; refine (change_d _ S g D1 ⟨K, fv, HD6.out.ext HX7.out⟩ HOK.out.sw HOK.out.pl).mono ?_; rintro e w8 ⟨v8, rfl, hl8, hd8, O8⟩)
      | fail)
    go_ret
    exact RetD.from (HO6.out.ext HX7.out) ⟨_, rfl, hl8, hd8, O8⟩
set_option maxHeartbeats 4000000 in
theorem answer_look (w : World) (S : List Nat) (g : Nat) (D : DoorV) (l user resp db pl : List UInt8) (caps most ch : Int) (ps : Pairs) (vb : Value) (h : DoorIs w S g D) (hr : Rd w vb l) (hl : l.length ≤ 900000) (hA : overP answerM ans0 l = (⟨caps, most, ch, user, resp, db, pl, ps⟩, 0)) (hk : checkC (bothC D.gc caps) = 0)
    (hul : user.length ≤ 1000000) (D1 : DoorV) (hD : whoP { D with c := bothC D.gc caps } user db = D1) (hok : DoorOk D1) (hkn : D1.kn = true) (hp : (pl == D1.u.pl) = true) :
    Calls Tryz.prog 57 #[.pointer (some ⟨g, 0, none⟩), vb] w (RetD w S g (lookP D1 resp)) := by
  obtain ⟨K, fv, h⟩ := h
  obtain ⟨gc, hgc⟩ : ∃ gc, gc = D.gc := ⟨_, rfl⟩
  obtain ⟨c, hc⟩ : ∃ c, bothC gc caps = c := ⟨_, rfl⟩
  rw [← hgc] at hk
  rw [hc] at hk
  have HA := Lib.hid hA
  have HR := Lib.hid hr
  have HL := Lib.hid hl
  have HH := Lib.hid h
  have HC := Lib.hid hc
  have HK := Lib.hid hk
  have HGC := Lib.hid hgc
  obtain ⟨Ab, cb, rfl, _⟩ := hr
  have HD := Lib.hid (show whoP { D with c := c } user db = D1 by rw [← hD, ← hc, hgc])
  have HU := Lib.hid hul
  have HOK := Lib.hid hok
  have HKN := Lib.hid hkn
  obtain ⟨t, ht⟩ : ∃ t, strL D1.u.pl = t := ⟨_, rfl⟩
  have HPL := Lib.hid ht
  have g9 : ((strL pl).toList == t.toList) = true := by rw [← ht, strL_tl, strL_tl]; exact hp
  have g8 : ((strL pl).toList != t.toList) = false := by unfold bne; rw [g9]; rfl
  clear hok hkn ht hp
  clear hA hl h hc hgc hk hD hul
  go_enter Tryz.func57, Tryz.ntmps57
  go_wp2_with (first
    | (go_at_call 99; refine (readAnswer_o _ _ l user resp db pl caps most ch 0 ps HR.out HL.out HA.out).mono ?_; rintro e w1 ⟨A1, k1, c1, A2, k2, c2, rfl, hr1, hx1, hn1⟩)
    | ((with_reducible show wpList _ _ _ (⟨some 5, Op.alloc _, _, _, _, _⟩ :: _) _ _); refine wpl_alloc rfl _ rfl ans0C (by kernel_rfl) ?_; intro w2 B2 hx2)
    | ((with_reducible show wpList _ _ _ (⟨none, Op.store _ _ _, _, _, _, _⟩ :: _) _ _); refine wpl_store_box rfl _ _ _ rfl _ [.int .u32 caps, .int .u32 most, .int .u8 ch, .string (strL user), .slice A1 k1 c1, .string (strL db), .string (strL pl), .slice A2 k2 c2] rfl rfl B2 rfl (by kernel_rfl) (by rfl) ?_; intro w3 B3 O3; have hx3 : Ext w w3 := (hx1.trans hx2).on O3 (Ext.size hx1); have d4 : w3.cell? ⟨g, 4, none⟩ = some (.int .u32 gc) := (HH.out.box.ext hx3).at (j := 4) (by rw [HGC.out]; rfl); have b0 := B3.at (j := 0) rfl)
    | fail)
  have HX3 := Lib.hid hx3
  have HX1 := Lib.hid hx1
  have HB3 := Lib.hid B3
  have HR1 := Lib.hid hr1
  have HX13 := Lib.hid (show Ext w1 w3 from hx2.on O3 (Nat.le_refl _))
  have HNE := Lib.hid (show (Value.slice A1 k1 c1).ownBlock ≠ some g from fun e => by have := hn1 g e; have := HH.out.box.lt; omega)
  clear hx3 B2 B3 hr1 hx1 hx2 O3 hn1
  have hY := Ext.refl w3
  go_region_held3 (fun W' => W'.cell? ⟨g, 4, none⟩ = some (.int .u32 gc) ∧ W'.cell? ⟨w1.heap.size, 0, none⟩ = some (.int .u32 caps) ∧ Ext w3 W')
    ((refine (fun h => ⟨Ext.cell h d4, Ext.cell h b0, h⟩) ?_; repeat' (first | with_reducible exact hY | (with_reducible refine Ext.drew ?_) | (with_reducible refine Ext.alloc ?_ _))))
    (first
      | (go_at_call 100; go_must (refine (both_c _ gc caps).mono ?_; rintro e w4 ⟨rfl, hx4⟩; rw [HC.out]; replace hY : Ext w3 w4 := (Ext.refl _).drew.trans hx4))
      | fail)
  all_goals
    have HY := Lib.hid hY
    have HD4 := Lib.hid (HH.out.ext (HX3.out.trans hY))
    have HB4 := Lib.hid (HB3.out.ext hY)
    clear d4 b0 hY hx4
    go_wp2_with (first
      | (go_at_call 56; refine (capsCheck_c _ c).mono ?_; rintro e wx ⟨rfl, rfl⟩; rw [HK.out])
      | ((with_reducible show wpList _ _ _ (⟨none, Op.store _ _ _, _, _, _, _⟩ :: _) _ _); refine wpl_store_cell rfl _ _ _ rfl g 10 (.int .u32 c) rfl rfl rfl rfl (by kernel_rfl) HD4.out.box (show 10 < 19 by decide) ?_; intro w5 B5 O5; have D5 := HD4.out.turn O5 (D' := { D with c := c }) B5 rfl rfl rfl (HD4.out.fn.on O5 HD4.out.gS); have HB5 := Lib.hid (HB4.out.on O5 (by have := HH.out.box.lt; have := Ext.size HX1.out; omega)); have b3 := HB5.out.at (j := 3) rfl; have b5 := HB5.out.at (j := 5) rfl)
      | (go_at_call 44; refine (who_d _ S g { D with c := c } user db K fv D5 HU.out).mono ?_; rintro e w6 ⟨rfl, D6, O6⟩; rw [HD.out] at D6; have hO6 := O5.trans O6; have HB6 := Lib.hid (HB5.out.on O6 (by have := HH.out.box.lt; have := Ext.size HX1.out; omega)); clear b3 b5 D5 B5)
      | fail)
    have HD6 := Lib.hid D6
    have d17 : w6.cell? ⟨g, 17, none⟩ = some (.bool D1.kn) := D6.box.at (j := 17) rfl
    have d14 : w6.cell? ⟨g, 14, none⟩ = some (.string (strL D1.u.pl)) := D6.box.at (j := 14) rfl
    have b6 : w6.cell? ⟨w1.heap.size, 6, none⟩ = some (.string (strL pl)) := HB6.out.at (j := 6) rfl
    have HO6 := Lib.hid (show On g w w6 from ((On.of HX3.out).ext HY.out).trans hO6)
    have HR6 := Lib.hid (show Rd w6 (.slice A1 k1 c1) resp from (((HR1.out.ext HX13.out).ext HY.out).on hO6 HNE.out))
    clear D6 O5 O6 hO6
    rw [HKN.out] at d17
    rw [HPL.out] at d14
    (try dsimp only [Act.put])
    first | go_region | fail
    generalize hw7 : w6.drew = w7
    have hx7 : Ext w6 w7 := by rw [← hw7]; exact (Ext.refl w6).drew
    clear hw7 d17 d14 b6
    have HX7 := Lib.hid hx7
    clear hx7
    have b4 : w7.cell? ⟨w1.heap.size, 4, none⟩ = some (.slice A1 k1 c1) := (HB6.out.ext HX7.out).at (j := 4) rfl
    go_wp2_with (first
      | (go_at_call 87; refine (look_d _ S g D1 resp _ ⟨K, fv, HD6.out.ext HX7.out⟩ HOK.out.pw (HR6.out.ext HX7.out)).mono ?_; rintro e w8 ⟨v8, rfl, hl8, hd8, O8⟩)
      | fail)
    go_ret
    exact RetD.from (HO6.out.ext HX7.out) ⟨_, rfl, hl8, hd8, O8⟩
end Go.Proofs.YtbodppfpmpmadaaGreat

namespace Go.Proofs.YtbodppfpmpmadaaGreat
open Go.RowKit

theorem appendAnswer_g (w : World) (caps most ch : Int) (user resp db pl : List UInt8) (ps : Pairs) (vr va : Value) (hr : Rd w vr resp) (ha : Attrs w va ps) (h : AnsOk ⟨caps, most, ch, user, resp, db, pl, ps⟩)
    (hul : user.length ≤ 10000) (hdl : db.length ≤ 10000) (hpl : pl.length ≤ 10000) (hal : (attrsB ps).length ≤ 900000) :
    Calls Tryz.prog 93 #[.slice none 0 0, .agg #[.int .u32 caps, .int .u32 most, .int .u8 ch, .string (strL user), vr, .string (strL db), .string (strL pl), va]] w (RetBE w (answerB ⟨caps, most, ch, user, resp, db, pl, ps⟩) 0) := by
  cases hk : hasC caps 2097152 with
  | true => exact appendAnswer_l w caps most ch user resp db pl ps vr va hr ha h hul hdl hpl hal hk
  | false => exact appendAnswer_r w caps most ch user resp db pl ps vr va hr ha h hul hdl hpl hal hk

def nonceT : List UInt8 := (List.range 20).map fun i => UInt8.ofNat (i + 1)
theorem nonceT_take (k : Nat) (h : k < 20) : nonceT.take (k + 1) = nonceT.take k ++ [UInt8.ofNat (((k : Int) + 1).toNat)] := by
  have e : ((k : Int) + 1).toNat = k + 1 := by omega
  rw [e]
  unfold nonceT
  rw [List.take_add_one, List.getElem?_map, List.getElem?_range h]
  rfl
end Go.Proofs.YtbodppfpmpmadaaGreat

