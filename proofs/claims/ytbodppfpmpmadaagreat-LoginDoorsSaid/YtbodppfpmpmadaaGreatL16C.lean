import Derived.Test.YtbodppfpmpmadaaGreatRfK1C
import Derived.Test.YtbodppfpmpmadaaGreatRfK2C
import Derived.Test.YtbodppfpmpmadaaGreatRfK3C
import Derived.Test.YtbodppfpmpmadaaGreatRfK4C
import Derived.Test.YtbodppfpmpmadaaGreatRfN1C
import Derived.Test.YtbodppfpmpmadaaGreatRfN2C
import Derived.Test.YtbodppfpmpmadaaGreatL15C
import Derived.Test.YtbodppfpmpmadaaGreatL12C
import Derived.Deep.AppendSrc
import Derived.Test.YtbodppfpmpmadaaGreatL13C
namespace Go.Proofs.YtbodppfpmpmadaaGreat
open Go.RowKit

theorem readAnswerR_g (w : World) (v : Value) (l : List UInt8) (hr : Rd w v l) (hl : l.length ≤ 900000) : Calls Tryz.prog 65 #[v] w (RetAnsR w (overP answerM ans0 l)) := by
  by_cases he : (overP answerM ans0 l).2 = 0
  · cases hk : hasC ((rX 4 (l, 0)).1 % 4294967296) 2097152 with
    | true => exact readAnswerR_la w v l hr hl hk he
    | false => exact readAnswerR_ra w v l hr hl hk he
  · cases hk : hasC ((rX 4 (l, 0)).1 % 4294967296) 2097152 with
    | true => exact readAnswerR_lz w v l hr hl hk he
    | false => exact readAnswerR_rz w v l hr hl hk he
theorem readChangeR_g (w : World) (c : Int) (v : Value) (l : List UInt8) (hr : Rd w v l) (hl : l.length ≤ 900000) : Calls Tryz.prog 62 #[v, .int .u32 c] w (RetChgR w (overP (changeM c) chgV0 l)) := by
  by_cases he : (overP (changeM c) chgV0 l).2 = 0
  · exact readChangeR_a w c v l hr hl he
  · exact readChangeR_z w c v l hr hl he
end Go.Proofs.YtbodppfpmpmadaaGreat

namespace Go.Proofs.YtbodppfpmpmadaaGreat
open Go.RowKit

theorem who_r (w : World) (S : List Nat) (g : Nat) (D : DoorV) (K : RefK) (aw : Int) (sv nm sc pl l : List UInt8) (vr : Value) (cn : Bool) (h : RefAt w S g D K aw sv) (hst : D.st = 1) (hfit : DoorFit D) (hr : ∀ w', On g w w' → Rd w' vr l) :
    Calls Tryz.prog 64 #[.pointer (some ⟨g, 0, none⟩), .string (strL nm), .string (strL sc), .string (strL pl), vr, .bool cn] w
      (RetRf w S g (if (whoP D nm sc).kn && (cn && pl == (whoP D nm sc).u.pl) then lookP (whoP D nm sc) l else changeP (whoP D nm sc))) := by
  cases hk : findU D.us nm with
  | none =>
    have hkn : (whoP D nm sc).kn = false := by unfold whoP; rw [hk]; rfl
    rw [hkn, Bool.false_and, if_neg Bool.false_ne_true]
    exact who_no w S g D K aw sv nm sc pl vr cn h hst hfit hk
  | some u =>
    have hkn : (whoP D nm sc).kn = true := by unfold whoP; rw [hk]; rfl
    have hu : (whoP D nm sc).u = u := by unfold whoP; rw [hk]; rfl
    rw [hkn, Bool.true_and, hu]
    obtain ⟨u1, u2, u3, u4, ad⟩ := u
    exact who_yes w S g D K aw sv nm sc pl l vr cn _ u1 u2 u3 u4 ad h hst hfit hk rfl hr
theorem noneR_c (w : World) (g : Nat) (c0 : w.cell? ⟨g, 0, none⟩ = some (.bool true)) :
    Calls Tryz.prog 60 #[.pointer (some ⟨g, 0, none⟩)] w fun e w' => e = .returned (.bool false) ∧ w = w' := by
  go_enter Tryz.func60, Tryz.ntmps60
  go_wp2_with fail
  go_ret
  exact ⟨rfl, rfl⟩
theorem readAnswerR_o (w : World) (v : Value) (L user resp db pl : List UInt8) (caps most ch er : Int) (ps : Pairs) (hr : Rd w v L) (hl : L.length ≤ 900000) (h : overP answerM ans0 L = (⟨caps, most, ch, user, resp, db, pl, ps⟩, er)) :
    Calls Tryz.prog 65 #[v] w fun e w' => ∃ A k c B m d, e = .returned (.tuple #[.agg #[.int .u32 caps, .int .u32 most, .int .u8 ch, .string (strL user), .slice A k c, .string (strL db), .string (strL pl), .slice B m d], .int .i64 er]) ∧ Rd w' (.slice A k c) resp ∧ Ext w w' ∧ ∀ h, (Value.slice A k c).ownBlock = some h → w.heap.size ≤ h := by
  refine (readAnswerR_g w v L hr hl).mono ?_
  rw [h]
  rintro e w' ⟨vr, B, m, d, rfl, hr2, hx, hn⟩
  obtain ⟨A, c, hv, _⟩ := id hr2
  subst hv
  exact ⟨A, _, c, B, m, d, rfl, hr2, hx, hn⟩
def RetFr (w : World) (S : List Nat) (g : Nat) (r : List (List UInt8) × Int × DoorV) (e : Ending) (w' : World) : Prop :=
  ∃ v, e = .returned (.tuple #[v, .int .i64 r.2.1]) ∧ ListsN w' w.heap.size v r.1 ∧ RefIs w' S g r.2.2 ∧ On g w w'

set_option maxHeartbeats 1000000 in
theorem feedR_over (w : World) (S : List Nat) (g : Nat) (D : DoorV) (vb : Value) (h : RefIs w S g D) (hs : D.st ≠ 1) (hz : D.st ≠ 0) (l : List UInt8) :
    Calls Tryz.prog 24 #[.pointer (some ⟨g, 0, none⟩), vb] w (RetFr w S g (feedP D l)) := by
  obtain ⟨K, aw, sv, h⟩ := h
  have HH := Lib.hid h
  have c0 : w.cell? ⟨g, 0, none⟩ = some (.bool true) := h.box.at (j := 0) rfl
  have c10 : w.cell? ⟨g, 10, none⟩ = some (.int .i64 D.st) := h.box.at (j := 10) rfl
  have hp : feedP D l = ([], 9, D) := by unfold feedP; rw [if_neg hz, if_neg hs]
  rw [hp]
  obtain ⟨st, hst⟩ : ∃ st, D.st = st := ⟨_, rfl⟩
  rw [hst] at c10 hs
  have hq : (st != 1) = true := by simpa using hs
  clear h hs hst hz hp
  go_enter Tryz.func24, Tryz.ntmps24
  go_wp2_with (go_at_call 60; refine (noneR_c _ g c0).mono ?_; rintro e wx ⟨rfl, rfl⟩)
  go_ret2
  exact ⟨_, rfl, ListsN.nil _ _, ⟨K, aw, sv, HH.out⟩, On.refl _ _⟩

set_option maxHeartbeats 2000000 in
theorem feedR_bad (w : World) (S : List Nat) (g : Nat) (D : DoorV) (K : RefK) (sv l : List UInt8) (vb : Value) (h : RefAt w S g D K 0 sv) (hst : D.st = 1) (hr : Rd w vb l) (hl : l.length ≤ 900000) (he : (overP answerM ans0 l).2 ≠ 0) :
    Calls Tryz.prog 24 #[.pointer (some ⟨g, 0, none⟩), vb] w (RetFr w S g ([oddL], 0, { D with st := 3 })) := by
  obtain ⟨⟨⟨caps, most, ch, user, resp, db, pl, ps⟩, er⟩, hA⟩ : ∃ x, overP answerM ans0 l = x := ⟨_, rfl⟩
  rw [hA] at he
  have hq : (er != 0) = true := by simpa using he
  have HA := Lib.hid hA
  have HR := Lib.hid hr
  have HL := Lib.hid hl
  have HH := Lib.hid h
  obtain ⟨Ab, cb, rfl, _⟩ := hr
  have c0 : w.cell? ⟨g, 0, none⟩ = some (.bool true) := h.box.at (j := 0) rfl
  have c9 : w.cell? ⟨g, 9, none⟩ = some (.int .i64 0) := h.box.at (j := 9) rfl
  have c10 : w.cell? ⟨g, 10, none⟩ = some (.int .i64 1) := h.box.at (j := 10) (by rw [← hst]; rfl)
  clear hA hl h he hst
  go_enter Tryz.func24, Tryz.ntmps24
  go_wp2_with (first
    | (go_at_call 60; refine (noneR_c _ g c0).mono ?_; rintro e wx ⟨rfl, rfl⟩)
    | (go_at_call 65; refine (readAnswerR_o _ _ l user resp db pl caps most ch er ps HR.out HL.out HA.out).mono ?_; rintro e w1 ⟨A1, k1, c1, A2, k2, c2, rfl, _, hx1, _⟩)
    | ((with_reducible show wpList _ _ _ (⟨some 6, Op.alloc _, _, _, _, _⟩ :: _) _ _); refine wpl_alloc rfl _ rfl ans0C (by kernel_rfl) ?_; intro w2 B2 hx2)
    | ((with_reducible show wpList _ _ _ (⟨none, Op.store _ _ _, _, _, _, _⟩ :: _) _ _); refine wpl_store_box rfl _ _ _ rfl _ [.int .u32 caps, .int .u32 most, .int .u8 ch, .string (strL user), .slice A1 k1 c1, .string (strL db), .string (strL pl), .slice A2 k2 c2] rfl rfl B2 rfl (by kernel_rfl) (by rfl) ?_; intro w3 B3 O3; have hx3 : Ext w w3 := (hx1.trans hx2).on O3 (Ext.size hx1); clear c0 c9 c10)
    | (go_at_call 63; refine (odd_r _ S g D K 0 sv (HH.out.ext hx3)).mono ?_; rintro e w4 ⟨v4, rfl, hl4, hr4, hO4⟩)
    | fail)
  go_ret2
  exact ⟨_, rfl, hl4.more (Ext.size hx3), hr4, (On.of hx3).trans hO4⟩

set_option maxHeartbeats 4000000 in
theorem feedR_answer (w : World) (S : List Nat) (g : Nat) (D : DoorV) (K : RefK) (sv l user resp db pl : List UInt8) (caps most ch : Int) (ps : Pairs) (vb : Value) (h : RefAt w S g D K 0 sv) (hst : D.st = 1) (hr : Rd w vb l) (hl : l.length ≤ 900000) (hf : DoorFit D) (hA : overP answerM ans0 l = (⟨caps, most, ch, user, resp, db, pl, ps⟩, 0)) :
    Calls Tryz.prog 24 #[.pointer (some ⟨g, 0, none⟩), vb] w (RetFr w S g ((answerP D l).1, 0, (answerP D l).2)) := by
  obtain ⟨gc, hgc⟩ : ∃ gc, gc = D.gc := ⟨_, rfl⟩
  obtain ⟨c, hc⟩ : ∃ c, bothC gc caps = c := ⟨_, rfl⟩
  obtain ⟨R, hR⟩ : ∃ R, answerP D l = R := ⟨_, rfl⟩
  rw [hR]
  unfold answerP at hR
  rw [hA] at hR
  dsimp only at hR
  rw [if_pos rfl, show bothC D.gc caps = c by rw [← hgc]; exact hc] at hR
  obtain ⟨ck, hck⟩ : ∃ x, checkC c = x := ⟨_, rfl⟩
  rw [hck] at hR
  have HA := Lib.hid hA
  have HR := Lib.hid hr
  have HL := Lib.hid hl
  have HH := Lib.hid h
  have HC := Lib.hid hc
  have HCK := Lib.hid hck
  have HST := Lib.hid hst
  have HF := Lib.hid (show DoorFit { D with c := c } from ⟨hf.us, hf.u, hf.n⟩)
  obtain ⟨Ab, cb, rfl, _⟩ := hr
  have c0 : w.cell? ⟨g, 0, none⟩ = some (.bool true) := h.box.at (j := 0) rfl
  have c9 : w.cell? ⟨g, 9, none⟩ = some (.int .i64 0) := h.box.at (j := 9) rfl
  have c10 : w.cell? ⟨g, 10, none⟩ = some (.int .i64 1) := h.box.at (j := 10) (by rw [← hst]; rfl)
  have HG5 := Lib.hid (show (rcs K D 0 sv)[5]? = some (.int .u32 gc) by rw [hgc, ← h.caps]; rfl)
  have hlt := h.box.lt
  by_cases h0 : ck = 0
  · have hb0 : (ck != 0) = false := by simp [h0]
    rw [if_pos h0] at hR
    have HRR := Lib.hid hR
    clear hA hl h hst hc hgc hck hR hf h0
    go_enter Tryz.func24, Tryz.ntmps24
    go_wp2_with (first
      | (go_at_call 60; refine (noneR_c _ g c0).mono ?_; rintro e wx ⟨rfl, rfl⟩)
      | (go_at_call 65; refine (readAnswerR_o _ _ l user resp db pl caps most ch 0 ps HR.out HL.out HA.out).mono ?_; rintro e w1 ⟨A1, k1, c1, A2, k2, c2, rfl, hr1, hx1, hn1⟩)
      | ((with_reducible show wpList _ _ _ (⟨some 6, Op.alloc _, _, _, _, _⟩ :: _) _ _); refine wpl_alloc rfl _ rfl ans0C (by kernel_rfl) ?_; intro w2 B2 hx2)
      | ((with_reducible show AtW 95); refine wpl_store_box rfl _ _ _ rfl _ [.int .u32 caps, .int .u32 most, .int .u8 ch, .string (strL user), .slice A1 k1 c1, .string (strL db), .string (strL pl), .slice A2 k2 c2] rfl rfl B2 rfl (by kernel_rfl) (by rfl) ?_; intro w3 B3 O3; have hx3 : Ext w w3 := (hx1.trans hx2).on O3 (Ext.size hx1); have d5 : w3.cell? ⟨g, 5, none⟩ = some (.int .u32 gc) := (HH.out.box.ext hx3).at (j := 5) HG5.out; have b0 := B3.at (j := 0) rfl; clear c0 c9 c10)
      | fail)
    have HX3 := Lib.hid hx3
    have HX1 := Lib.hid hx1
    have HB3 := Lib.hid B3
    have HR1 := Lib.hid hr1
    have HX13 := Lib.hid (show Ext w1 w3 from hx2.on O3 (Nat.le_refl _))
    have HNE := Lib.hid (show (Value.slice A1 k1 c1).ownBlock ≠ some g from fun e => by have := hn1 g e; omega)
    have hw1 := Ext.size hx1
    clear hx3 B2 B3 hr1 hx1 hx2 O3 hn1
    have hY := Ext.refl w3
    go_region_held3 (fun W' => W'.cell? ⟨g, 5, none⟩ = some (.int .u32 gc) ∧ W'.cell? ⟨w1.heap.size, 0, none⟩ = some (.int .u32 caps) ∧ Ext w3 W')
      ((refine (fun h => ⟨Ext.cell h d5, Ext.cell h b0, h⟩) ?_; repeat' (first | with_reducible exact hY | (with_reducible refine Ext.drew ?_) | (with_reducible refine Ext.alloc ?_ _))))
      (first
        | (go_at_call 66; go_must (refine (bothR_c _ gc caps).mono ?_; rw [HC.out]; rintro e w4 ⟨rfl, hw4⟩; subst hw4; replace hY : Ext w3 w3.drew := (Ext.refl _).drew))
        | fail)
    all_goals
      generalize hW4 : w3.drew = w4 at hY ⊢
      clear hW4
      have HY := Lib.hid hY
      have HD4 := Lib.hid (HH.out.ext (HX3.out.trans hY))
      have HB4 := Lib.hid (HB3.out.ext hY)
      clear d5 b0 hY
      go_wp2_with (first
        | (go_at_call 59; refine (capsCheckR_c _ c).mono ?_; rw [HCK.out]; rintro e wx ⟨rfl, rfl⟩)
        | ((with_reducible show wpList _ _ _ (⟨none, Op.store _ _ _, _, _, _, _⟩ :: _) _ _); refine wpl_store_cell rfl _ _ _ rfl g 11 (.int .u32 c) rfl rfl rfl rfl (by kernel_rfl) HD4.out.box (show 11 < 19 by decide) ?_; intro w5 B5 O5; have D5 := HD4.out.turn O5 (D' := { D with c := c }) B5 rfl rfl rfl rfl ⟨HD4.out.ok.aw, HD4.out.ok.sv, HD4.out.ok.two, HD4.out.ok.one, HD4.out.ok.pl, HD4.out.ok.end_⟩; have B6 := HB4.out.on O5 (by omega); have b3 := B6.at (j := 3) rfl; have b4 := B6.at (j := 4) rfl; have b5 := B6.at (j := 5) rfl; have b6 := B6.at (j := 6) rfl; have HR5 := Lib.hid ((((HR1.out.ext HX13.out).ext HY.out)).on O5 HNE.out); clear B6)
        | (go_at_call 64; go_loud (refine (who_r _ S g { D with c := c } K 0 sv user db pl resp _ true D5 HST.out HF.out (fun w' k => HR5.out.on k HNE.out)).mono ?_; rw [Bool.true_and, HRR.out]; rintro e w6 ⟨v6, rfl, hl6, hr6, hO6⟩))
        | fail)
      go_ret2
      have hO5 : On g w w5 := ((On.of HX3.out).ext HY.out).trans O5
      exact ⟨_, rfl, hl6.more hO5.size, hr6, hO5.trans hO6⟩
  · have hb0 : (ck != 0) = true := by simp [h0]
    rw [if_neg h0] at hR
    have HRR := Lib.hid hR
    clear hA hl h hst hc hgc hck hR hf h0
    go_enter Tryz.func24, Tryz.ntmps24
    go_wp2_with (first
      | (go_at_call 60; refine (noneR_c _ g c0).mono ?_; rintro e wx ⟨rfl, rfl⟩)
      | (go_at_call 65; refine (readAnswerR_o _ _ l user resp db pl caps most ch 0 ps HR.out HL.out HA.out).mono ?_; rintro e w1 ⟨A1, k1, c1, A2, k2, c2, rfl, hr1, hx1, hn1⟩)
      | ((with_reducible show wpList _ _ _ (⟨some 6, Op.alloc _, _, _, _, _⟩ :: _) _ _); refine wpl_alloc rfl _ rfl ans0C (by kernel_rfl) ?_; intro w2 B2 hx2)
      | ((with_reducible show AtW 95); refine wpl_store_box rfl _ _ _ rfl _ [.int .u32 caps, .int .u32 most, .int .u8 ch, .string (strL user), .slice A1 k1 c1, .string (strL db), .string (strL pl), .slice A2 k2 c2] rfl rfl B2 rfl (by kernel_rfl) (by rfl) ?_; intro w3 B3 O3; have hx3 : Ext w w3 := (hx1.trans hx2).on O3 (Ext.size hx1); have d5 : w3.cell? ⟨g, 5, none⟩ = some (.int .u32 gc) := (HH.out.box.ext hx3).at (j := 5) HG5.out; have b0 := B3.at (j := 0) rfl; clear c0 c9 c10)
      | fail)
    have HX3 := Lib.hid hx3
    clear hx3 B2 B3 hr1 hx1 hx2 O3 hn1
    have hY := Ext.refl w3
    go_region_held3 (fun W' => W'.cell? ⟨g, 5, none⟩ = some (.int .u32 gc) ∧ W'.cell? ⟨w1.heap.size, 0, none⟩ = some (.int .u32 caps) ∧ Ext w3 W')
      ((refine (fun h => ⟨Ext.cell h d5, Ext.cell h b0, h⟩) ?_; repeat' (first | with_reducible exact hY | (with_reducible refine Ext.drew ?_) | (with_reducible refine Ext.alloc ?_ _))))
      (first
        | (go_at_call 66; go_must (refine (bothR_c _ gc caps).mono ?_; rw [HC.out]; rintro e w4 ⟨rfl, hw4⟩; subst hw4; replace hY : Ext w3 w3.drew := (Ext.refl _).drew))
        | fail)
    all_goals
      generalize hW4 : w3.drew = w4 at hY ⊢
      clear hW4
      have HD4 := Lib.hid (HH.out.ext (HX3.out.trans hY))
      have HY := Lib.hid hY
      clear d5 b0 hY
      go_wp2_with (first
        | (go_at_call 59; refine (capsCheckR_c _ c).mono ?_; rw [HCK.out]; rintro e wx ⟨rfl, rfl⟩)
        | (go_at_call 63; refine (odd_r _ S g D K 0 sv HD4.out).mono ?_; rw [HRR.out]; rintro e w6 ⟨v6, rfl, hl6, hr6, hO6⟩)
        | fail)
      go_ret2
      have hO5 : On g w w4 := (On.of HX3.out).ext HY.out
      exact ⟨_, rfl, hl6.more hO5.size, hr6, hO5.trans hO6⟩
end Go.Proofs.YtbodppfpmpmadaaGreat

namespace Go.Proofs.YtbodppfpmpmadaaGreat
open Go.RowKit

structure Conv (w0 w : World) (g n c : Nat) (l : List UInt8) : Prop where
  ext : Ext w0 w
  new : w0.heap.size ≤ g
  lt : g < w.heap.size
  len : n = l.length
  le : n ≤ c
  max : c ≤ maxLen
  cell : ∀ j, j < l.length → w.cell? ⟨g, j, none⟩ = some (.int .u8 ((l.getD j 0).toNat : Int))
  spare : ∀ j, j < c → (w.cell? ⟨g, j, none⟩).isSome = true ∧ w.frozen? ⟨g, j, none⟩ = false
theorem Conv.more {w0 w w' : World} {g n c : Nat} {l : List UInt8} (h : Conv w0 w g n c l) (k : Ext w w') : Conv w0 w' g n c l :=
  ⟨h.ext.trans k, h.new, Nat.lt_of_lt_of_le h.lt (Ext.size k), h.len, h.le, h.max, fun j hj => k.cell (h.cell j hj), fun j hj => by
    have e := k.block g h.lt
    refine ⟨?_, (World.frozen?_of_block (a := ⟨g, j, none⟩) e).trans (h.spare j hj).2⟩
    obtain ⟨u, hu⟩ := Option.isSome_iff_exists.1 (h.spare j hj).1
    rw [k.cell hu]; rfl⟩
section
variable {P : Program} {ops : Array Oper} {rest : List Oper} {o : Oper} {a : Act} {w : World} {Q : Exit → Act → World → Prop}
theorem wpl_conv (hT : BT P) (s : ByteArray) (hn : s.size ≤ maxLen) (hgd : o.guard = none) (x : Operand) (ho : o.op = .convert 9 22 x) (hx : a.eval x = .string s)
    (h : ∀ g n c w', Conv w w' g n c s.data.toList → wpList P ops Q rest (a.put o.dst (.slice (some ⟨g, 0, none⟩) n c)) w') : wpList P ops Q (o :: rest) a w := by
  have hr := Lib.run_convert_string_bytes (P := P) w 9 22 5 s hT.st hT.sl hT.el
  have hge : s.size ≤ grownCap w s.size 0 5 := grownCap_ge _ _ _ _
  have hsz : (Lib.bytesCells w 5 s).size = grownCap w s.size 0 5 := by
    unfold Lib.bytesCells
    rw [Array.size_append, Array.size_map, Array.size_replicate]
    show s.size + _ = _
    omega
  refine wpl_val hgd (v := .slice (some ⟨w.heap.size, 0, none⟩) s.size (grownCap w s.size 0 5)) (w' := Lib.bytesWorld w 5 s) ?_ (h _ _ _ _ ⟨⟨rfl, rfl, rfl, by rw [Lib.bytesWorld_size]; omega, fun k hk => Lib.bytesWorld_at_old w 5 s k hk⟩, Nat.le_refl _, by rw [Lib.bytesWorld_size]; omega, by rw [size_toList], hge, grownCap_le_maxLen _ _ _ _ hn, fun j hj => ?_, fun j hj => ?_⟩)
  · unfold execOp
    simp only [ho, hx, hr, Sem.run_bind, Sem.run_pure, Result.andThen_ok]
  · exact Lib.bytesWorld_cell w 5 s j (by rw [size_toList] at hj; exact hj)
  · have e := Lib.bytesWorld_at_new w 5 s
    refine ⟨?_, ?_⟩
    · simp only [World.cell?, e]
      rw [Array.getElem?_eq_getElem (by omega)]
      rfl
    · simp only [World.frozen?, e]
      rw [hsz]
      simp
      omega
theorem run_append_conv (hT : BT P) {w0 w : World} {g n c : Nat} {l : List UInt8} (C : Conv w0 w g n c l) (z : UInt8) (b : Nat) (hb : w.cell? ⟨b, 0, none⟩ = some (.int .u8 (z.toNat : Int))) (hl : l.length ≤ 1000000) (ty : TypeId) :
    ∃ v' w', (Builtin.append_ #[22, 22] ty #[.slice (some ⟨g, 0, none⟩) n c, .slice (some ⟨b, 0, none⟩) 1 1]).run P w = .ok v' w' ∧ Rd w' v' (l ++ [z]) ∧ Ext w0 w' := by
  obtain ⟨i, hi, hz, hs1, hb1⟩ := hT.info
  have hn := C.len
  have hmax := C.max
  have hle := C.le
  have hS : Src P 1 22 (.slice (some ⟨b, 0, none⟩) 1 1) 1 [.int .u8 (z.toNat : Int)] w := Src.ofSlice w hT.sl _ _ _ _ rfl (fun j u hj => by
    rcases j with _ | j
    · rw [addr0, hb, ← hj]; rfl
    · simp at hj) (by simp; rfl)
  have hO : Src P 1 22 (.slice (some ⟨g, 0, none⟩) n c) n (bc l) w := Src.ofSlice w hT.sl _ _ _ _ (by rw [bc_length, hn, Nat.mul_one]) (fun j u hj => by
    have hjl : j < l.length := by
      rcases Nat.lt_or_ge j l.length with h | h
      · exact h
      · rw [List.getElem?_eq_none (by rw [bc_length]; exact h)] at hj; cases hj
    rw [bc_get l j hjl] at hj
    rw [addr0, C.cell j hjl]
    exact hj) (bc_one l)
  rcases Nat.lt_or_ge n c with h | h
  · have hrun := run_append_room_src (P := P) w 22 22 ty 5 i hT.sl hi g 0 n c (.slice (some ⟨b, 0, none⟩) 1 1) 1 [.int .u8 (z.toNat : Int)] (by rw [hs1]; exact hS) (by omega)
      (fun j hj => by rw [hs1]; have : j = 0 := (by simpa using hj); subst this; simpa using (C.spare n h).1) (fun j hj => by rw [hs1]; have : j = 0 := (by simpa using hj); subst this; simpa using (C.spare n h).2)
    rw [hs1, Nat.mul_one, Nat.zero_add] at hrun
    refine ⟨_, _, hrun, ⟨some ⟨g, 0, none⟩, c, by rw [hn]; simp, by simp; omega, hmax, (fun e => by cases e), fun _ => ⟨g, 0, rfl, fun j hj => ?_⟩⟩, C.ext.on (On.sets w n _) C.new⟩
    rw [Nat.zero_add]
    rw [List.length_append] at hj
    rcases Nat.lt_or_ge j l.length with hjl | hjl
    · rw [World.cell?_setCells_out g _ _ _ _ (fun _ _ => .inl (by show j < n; omega)), C.cell j hjl, List.getD_eq_getElem?_getD, List.getD_eq_getElem?_getD, List.getElem?_append_left hjl]
    · have e : j = n := by simp at hj; omega
      subst e
      have := World.cell?_setCells_in g [.int .u8 (z.toNat : Int)] j w (fun k hk => by have : k = 0 := (by simpa using hk); subst this; exact (C.spare j h).1) 0 (by simp)
      rw [Nat.add_zero] at this
      rw [this, List.getD_eq_getElem?_getD, List.getElem?_append_right hjl, hn]
      simp
  · have hrun := run_append_grow_src (P := P) w 22 22 ty 5 i (.int .u8 0) hT.sl hi hz (some ⟨g, 0, none⟩) n c (bc l) (by rw [hs1]; exact hO.cellsD) (.slice (some ⟨b, 0, none⟩) 1 1) 1 [.int .u8 (z.toNat : Int)] (by rw [hs1]; exact hS) (by omega) (by omega)
      (by rw [hb1]; exact growslice_fits (bytes := 1) (by omega) (by omega))
    have hge := grownCap_ge w (n + 1) c 5
    have hcm := grownCap_le_maxLen w (n + 1) c 5 (by unfold maxLen; omega)
    refine ⟨_, _, hrun, ⟨some ⟨w.heap.size, 0, none⟩, grownCap w (n + 1) c 5, by rw [List.length_append, ← hn]; rfl, by rw [List.length_append, ← hn]; exact hge, hcm, (fun e => by cases e), fun _ => ⟨_, 0, rfl, fun j hj => ?_⟩⟩, (C.ext.trans (Ext.refl w).drew).alloc _⟩
    rw [Nat.zero_add]
    rw [List.length_append] at hj
    have e1 := World.cell?_alloc_new w.drew (((bc l) ++ [Value.int .u8 (z.toNat : Int)]).toArray ++ Builtin.zeroCells (Value.int .u8 0).cells (grownCap w (n + 1) c 5 - (n + 1))) 5 j
    refine Eq.trans e1 ?_
    rw [Array.getElem?_append_left (by simp [bc_length]; simpa using hj), List.getElem?_toArray]
    have e2 : bc l ++ [Value.int .u8 (z.toNat : Int)] = bc (l ++ [z]) := by rw [bc_append]; rfl
    rw [e2, bc_get _ j (by rw [List.length_append]; exact hj)]
theorem wpl_append_conv (hT : BT P) {w0 : World} {g n c : Nat} {l : List UInt8} (C : Conv w0 w g n c l) (z : UInt8) (b : Nat) (hb : w.cell? ⟨b, 0, none⟩ = some (.int .u8 (z.toNat : Int))) (hl : l.length ≤ 1000000)
    (hgd : o.guard = none) (s x : Operand) (ho : o.op = .call { callee := .builtin .append, args := #[s, x], argTypes := #[22, 22] })
    (hs : a.eval s = .slice (some ⟨g, 0, none⟩) n c) (hx : a.eval x = .slice (some ⟨b, 0, none⟩) 1 1)
    (h : ∀ v' w', Rd w' v' (l ++ [z]) → Ext w0 w' → wpList P ops Q rest (a.put o.dst v') w') : wpList P ops Q (o :: rest) a w := by
  obtain ⟨v', w', hr, h2, h3⟩ := run_append_conv (P := P) hT C z b hb hl o.type
  refine wpl_val hgd (v := v') (w' := w') ?_ (h v' w' h2 h3)
  unfold execOp
  simp only [ho, resolve, invoke, builtin, Sem.run_bind, Sem.run_pure, Result.andThen_ok, List.map_toArray, List.map_cons, List.map_nil, hs, hx, hr]
end
end Go.Proofs.YtbodppfpmpmadaaGreat

namespace Go.Proofs.YtbodppfpmpmadaaGreat
open Go.RowKit

theorem feedR_look (w : World) (S : List Nat) (g : Nat) (D : DoorV) (K : RefK) (sv l : List UInt8) (vb : Value) (h : RefAt w S g D K 1 sv) (hst : D.st = 1) (hkn : D.kn = true) (hf : DoorFit D) (hr : Rd w vb l) :
    Calls Tryz.prog 24 #[.pointer (some ⟨g, 0, none⟩), vb] w (RetFr w S g ((lookP D l).1, 0, (lookP D l).2)) := by
  obtain ⟨R, hR⟩ : ∃ R, lookP D l = R := ⟨_, rfl⟩
  rw [hR]
  have HRR := Lib.hid hR
  have HR := Lib.hid hr
  have HH := Lib.hid h
  have HP := Lib.hid hf.ok.pw
  have HKN := Lib.hid hkn
  have HST := Lib.hid hst
  obtain ⟨Ab, cb, rfl, _⟩ := hr
  have c0 : w.cell? ⟨g, 0, none⟩ = some (.bool true) := h.box.at (j := 0) rfl
  have c9 : w.cell? ⟨g, 9, none⟩ = some (.int .i64 1) := h.box.at (j := 9) rfl
  have c10 : w.cell? ⟨g, 10, none⟩ = some (.int .i64 1) := h.box.at (j := 10) (by rw [← hst]; rfl)
  clear h hst hkn hf hR
  go_enter Tryz.func24, Tryz.ntmps24
  go_wp2_with (first
    | (go_at_call 60; refine (noneR_c _ g c0).mono ?_; rintro e wx ⟨rfl, rfl⟩)
    | (go_at_call 67; refine (look_r _ S g D K 1 sv l _ HH.out HST.out HKN.out HP.out HR.out).mono ?_; rw [HRR.out]; rintro e w4 ⟨v4, rfl, hl4, hr4, hO4⟩)
    | fail)
  go_ret2
  exact ⟨_, rfl, hl4, hr4, hO4⟩
theorem feedR_no (w : World) (S : List Nat) (g : Nat) (D : DoorV) (K : RefK) (aw : Int) (sv : List UInt8) (vb : Value) (h : RefAt w S g D K aw sv) (hst : D.st = 1) (haw : aw = 2 ∨ aw = 4) :
    Calls Tryz.prog 24 #[.pointer (some ⟨g, 0, none⟩), vb] w (RetFr w S g ([refusedL], 0, { D with st := 3 })) := by
  have HH := Lib.hid h
  have c0 : w.cell? ⟨g, 0, none⟩ = some (.bool true) := h.box.at (j := 0) rfl
  have c9 : w.cell? ⟨g, 9, none⟩ = some (.int .i64 aw) := h.box.at (j := 9) rfl
  have c10 : w.cell? ⟨g, 10, none⟩ = some (.int .i64 1) := h.box.at (j := 10) (by rw [← hst]; rfl)
  clear h hst
  rcases haw with haw | haw
  all_goals
    subst haw
    go_enter Tryz.func24, Tryz.ntmps24
    go_wp2_with (first
      | (go_at_call 60; refine (noneR_c _ g c0).mono ?_; rintro e wx ⟨rfl, rfl⟩)
      | (go_at_call 70; refine (refused_r _ S g D K _ sv HH.out).mono ?_; rintro e w4 ⟨v4, rfl, hl4, hr4, hO4⟩)
      | fail)
    go_ret2
    exact ⟨_, rfl, hl4, hr4, hO4⟩
set_option maxHeartbeats 1000000 in
theorem feedR_full (w : World) (S : List Nat) (g : Nat) (D : DoorV) (K : RefK) (sv l : List UInt8) (vb : Value) (h : RefAt w S g D K 3 sv) (hst : D.st = 1) (hkn : D.kn = true) (hf : DoorFit D) (hr : Rd w vb l) :
    Calls Tryz.prog 24 #[.pointer (some ⟨g, 0, none⟩), vb] w (RetFr w S g ((fullP D l).1, 0, (fullP D l).2)) := by
  obtain ⟨q, hq⟩ : ∃ q, (l == D.u.pw ++ [0]) = q := ⟨_, rfl⟩
  obtain ⟨pw, hpw⟩ : ∃ pw, pw = D.u.pw := ⟨_, rfl⟩
  unfold fullP
  rw [hq]
  rw [← hpw] at hq
  have HQ := Lib.hid hq
  have HR := Lib.hid hr
  have HH := Lib.hid h
  have HP := Lib.hid (show pw.length ≤ 1000000 by rw [hpw]; exact hf.ok.pw)
  have HKN := Lib.hid hkn
  obtain ⟨Ab, cb, rfl, _⟩ := hr
  have c0 : w.cell? ⟨g, 0, none⟩ = some (.bool true) := h.box.at (j := 0) rfl
  have c9 : w.cell? ⟨g, 9, none⟩ = some (.int .i64 3) := h.box.at (j := 9) rfl
  have c10 : w.cell? ⟨g, 10, none⟩ = some (.int .i64 1) := h.box.at (j := 10) (by rw [← hst]; rfl)
  have c13 : w.cell? ⟨g, 13, none⟩ = some (.string (strL pw)) := h.box.at (j := 13) (by rw [hpw]; rfl)
  clear h hst hkn hf hq hpw
  cases q
  all_goals
    go_enter Tryz.func24, Tryz.ntmps24
    go_wp2_with (first
      | (go_at_call 60; refine (noneR_c _ g c0).mono ?_; rintro e wx ⟨rfl, rfl⟩)
      | ((with_reducible show AtS 73); refine wpl_conv bt _ (by rw [strL_size]; have := HP.out; unfold maxLen; omega) rfl _ rfl rfl ?_; intro tg tn tc w1 C1; rw [strL_toList] at C1; clear c0 c9 c10 c13)
      | ((with_reducible show AtS 75); go_loud (refine wpl_append_conv bt (C1.more ((Ext.refl w1).alloc _)) 0 w1.heap.size (by rw [World.cell?_alloc_new]; rfl) HP.out rfl _ _ rfl rfl rfl ?_; intro v2 w2 hr2 hx2))
      | (go_at_call 68; go_loud (refine (same27R_c _ _ _ l _ (HR.out.ext hx2) hr2).mono ?_; rw [HQ.out]; rintro e wx ⟨rfl, rfl⟩))
      | (go_at_call 70; refine (refused_r _ S g D K _ sv (HH.out.ext hx2)).mono ?_; rintro e w4 ⟨v4, rfl, hl4, hr4, hO4⟩)
      | (go_at_call 69; refine (in_r _ S g D K _ sv (HH.out.ext hx2) HKN.out).mono ?_; rintro e w4 ⟨v4, rfl, hl4, hr4, hO4⟩)
      | fail)
    go_ret2
    exact ⟨_, rfl, hl4.more (Ext.size hx2), hr4, (On.of hx2).trans hO4⟩
theorem nextP_no (D : DoorV) (l : List UInt8) (h : 3 ≤ D.nx) : nextP D l = ([refusedL], { D with st := 3 }) := by
  obtain ⟨us, gc, n, hello, st, c, nx, u, kn, sc⟩ := D
  dsimp only at h
  rcases nx with _ | _ | _ | nx
  · omega
  · omega
  · omega
  · rfl
theorem feed_r (w : World) (S : List Nat) (g : Nat) (D : DoorV) (l : List UInt8) (vb : Value) (h : RefIs w S g D) (hr : Rd w vb l) (hl : l.length ≤ 900000) (hf : DoorFit D) (hz : D.st ≠ 0) :
    Calls Tryz.prog 24 #[.pointer (some ⟨g, 0, none⟩), vb] w (RetFr w S g (feedP D l)) := by
  by_cases hs : D.st = 1
  · obtain ⟨K, aw, sv, h⟩ := h
    have haw := h.ok.aw hs
    subst haw
    have hp : feedP D l = ((nextP D l).1, 0, (nextP D l).2) := by unfold feedP; rw [if_neg hz, if_pos hs]
    rw [hp]
    rcases hn : D.nx with _ | _ | _ | _ | n
    · rw [hn] at h
      rw [show nextP D l = answerP D l by unfold nextP; rw [hn]; rfl]
      by_cases he : (overP answerM ans0 l).2 = 0
      · obtain ⟨⟨⟨caps, most, ch, user, resp, db, pl, ps⟩, er⟩, hA⟩ : ∃ x, overP answerM ans0 l = x := ⟨_, rfl⟩
        have he0 : er = 0 := by rw [hA] at he; exact he
        subst he0
        exact feedR_answer w S g D K sv l user resp db pl caps most ch ps vb h hs hr hl hf hA
      · have ha : answerP D l = ([oddL], { D with st := 3 }) := by unfold answerP; rw [if_neg he]
        rw [ha]
        exact feedR_bad w S g D K sv l vb h hs hr hl he
    · rw [hn] at h
      rw [show nextP D l = lookP D l by unfold nextP; rw [hn]; rfl]
      exact feedR_look w S g D K sv l vb h hs (h.ok.one hs (.inl hn)) hf hr
    · rw [hn] at h
      rw [show nextP D l = fullP D l by unfold nextP; rw [hn]; rfl]
      exact feedR_full w S g D K sv l vb h hs (h.ok.one hs (.inr hn)) hf hr
    · rw [hn] at h
      rw [nextP_no D l (by omega)]
      exact feedR_no w S g D K 2 sv vb h hs (.inl rfl)
    · rw [hn] at h
      rw [nextP_no D l (by omega)]
      exact feedR_no w S g D K 4 sv vb h hs (.inr rfl)
  · exact feedR_over w S g D vb h hs hz l
end Go.Proofs.YtbodppfpmpmadaaGreat

namespace Go.Proofs.YtbodppfpmpmadaaGreat
open Go.RowKit

theorem readChangeR_o (w : World) (c : Int) (v : Value) (L user resp db pl : List UInt8) (ch er : Int) (ps : Pairs) (hr : Rd w v L) (hl : L.length ≤ 900000) (h : overP (changeM c) chgV0 L = (⟨user, resp, db, ch, pl, ps⟩, er)) :
    Calls Tryz.prog 62 #[v, .int .u32 c] w fun e w' => ∃ A k c B m d, e = .returned (.tuple #[.agg #[.string (strL user), .slice A k c, .string (strL db), .int .u16 ch, .string (strL pl), .slice B m d], .int .i64 er]) ∧ Ext w w' := by
  refine (readChangeR_g w c v L hr hl).mono ?_
  rw [h]
  rintro e w' ⟨vr, B, m, d, rfl, hr2, hx⟩
  obtain ⟨A, c, hv, _⟩ := id hr2
  subst hv
  exact ⟨A, _, c, B, m, d, rfl, hx⟩
theorem RefAt.turnN {w w' : World} {S : List Nat} {g : Nat} {D D' : DoorV} {K : RefK} {aw aw' : Int} {sv sv' : List UInt8} {A : Option Addr} {cp : Nat} (h : RefAt w S g D K aw sv) (k : On g w w') (hb : BoxF w' g (rcs { K with A := A, cp := cp } D' aw' sv')) (hu : D'.us = D.us) (hg : D'.gc = D.gc) (hh : D'.hello = D.hello)
    (hr : Rd w' (.slice A D'.n.length cp) D'.n) (ho' : Off w' S (.slice A D'.n.length cp)) (ho : RefOk D' aw' sv') : RefAt w' S g D' { K with A := A, cp := cp } aw' sv' :=
  ⟨hb, by rw [hu]; exact h.us.on k (h.uS.ne h.mem), by rw [hu]; exact h.uS.mono k.size, hr, ho', h.gr.on k (h.gS.ne h.mem), h.gS.mono k.size, by rw [hu]; exact h.good, h.gok, by rw [hg]; exact h.caps, by rw [hh]; exact h.hello, h.glen, ho, h.mem, fun x hx => Nat.lt_of_lt_of_le (h.lt x hx) k.size⟩

set_option maxHeartbeats 1000000 in
theorem changeR_over (w : World) (S : List Nat) (g : Nat) (D : DoorV) (l other : List UInt8) (vb vo : Value) (h : RefIs w S g D) (hz : D.st ≠ 0) (hs : D.st ≠ 2) :
    Calls Tryz.prog 23 #[.pointer (some ⟨g, 0, none⟩), vb, vo] w (RetFr w S g (changeUP D l other)) := by
  obtain ⟨K, aw, sv, h⟩ := h
  have HH := Lib.hid h
  have c0 : w.cell? ⟨g, 0, none⟩ = some (.bool true) := h.box.at (j := 0) rfl
  have c10 : w.cell? ⟨g, 10, none⟩ = some (.int .i64 D.st) := h.box.at (j := 10) rfl
  have hp : changeUP D l other = ([], 9, D) := by unfold changeUP; rw [if_neg hz, if_neg hs]
  rw [hp]
  obtain ⟨st, hst⟩ : ∃ st, D.st = st := ⟨_, rfl⟩
  rw [hst] at c10 hs
  have hq : (st != 2) = true := by simpa using hs
  clear h hs hst hz hp
  go_enter Tryz.func23, Tryz.ntmps23
  go_wp2_with (go_at_call 60; refine (noneR_c _ g c0).mono ?_; rintro e wx ⟨rfl, rfl⟩)
  go_ret2
  exact ⟨_, rfl, ListsN.nil _ _, ⟨K, aw, sv, HH.out⟩, On.refl _ _⟩
set_option maxHeartbeats 1000000 in
theorem changeR_arg (w : World) (S : List Nat) (g : Nat) (D : DoorV) (l other : List UInt8) (vb vo : Value) (h : RefIs w S g D) (hs : D.st = 2) (ho : Rd w vo other) (hc : checkE other ≠ 0) :
    Calls Tryz.prog 23 #[.pointer (some ⟨g, 0, none⟩), vb, vo] w (RetFr w S g (changeUP D l other)) := by
  obtain ⟨K, aw, sv, h⟩ := h
  have HH := Lib.hid h
  have HO := Lib.hid ho
  have HC := Lib.hid (check_two hc)
  have c0 : w.cell? ⟨g, 0, none⟩ = some (.bool true) := h.box.at (j := 0) rfl
  have c10 : w.cell? ⟨g, 10, none⟩ = some (.int .i64 2) := h.box.at (j := 10) (by rw [← hs]; rfl)
  have hp : changeUP D l other = ([], 2, D) := by unfold changeUP; rw [if_neg (by rw [hs]; decide), if_pos hs, if_neg hc]
  rw [hp]
  clear h hs ho hc hp
  go_enter Tryz.func23, Tryz.ntmps23
  go_wp2_with (first
    | (go_at_call 60; refine (noneR_c _ g c0).mono ?_; rintro e wx ⟨rfl, rfl⟩)
    | (go_at_call 61; refine (check_r _ _ other 2 HO.out HC.out).mono ?_; rintro e wx ⟨rfl, rfl⟩)
    | fail)
  go_ret2
  exact ⟨_, rfl, ListsN.nil _ _, ⟨K, aw, sv, HH.out⟩, On.refl _ _⟩
set_option maxHeartbeats 2000000 in
theorem changeR_bad (w : World) (S : List Nat) (g : Nat) (D : DoorV) (l other : List UInt8) (vb vo : Value) (h : RefIs w S g D) (hs : D.st = 2) (hr : Rd w vb l) (hl : l.length ≤ 900000) (ho : Rd w vo other) (hc : checkE other = 0) (he : (overP (changeM D.c) chgV0 l).2 ≠ 0) :
    Calls Tryz.prog 23 #[.pointer (some ⟨g, 0, none⟩), vb, vo] w (RetFr w S g (changeUP D l other)) := by
  obtain ⟨K, aw, sv, h⟩ := h
  have hp : changeUP D l other = ([oddL], 0, { D with st := 3 }) := by unfold changeUP; rw [if_neg (by rw [hs]; decide), if_pos hs, if_pos hc, if_neg he]
  rw [hp]
  obtain ⟨⟨⟨user, resp, db, ch, pl, ps⟩, er⟩, hA⟩ : ∃ x, overP (changeM D.c) chgV0 l = x := ⟨_, rfl⟩
  rw [hA] at he
  have hq : (er != 0) = true := by simpa using he
  have HA := Lib.hid hA
  have HR := Lib.hid hr
  have HL := Lib.hid hl
  have HH := Lib.hid h
  have HO := Lib.hid ho
  have HC := Lib.hid hc
  have c0 : w.cell? ⟨g, 0, none⟩ = some (.bool true) := h.box.at (j := 0) rfl
  have c10 : w.cell? ⟨g, 10, none⟩ = some (.int .i64 2) := h.box.at (j := 10) (by rw [← hs]; rfl)
  have c11 : w.cell? ⟨g, 11, none⟩ = some (.int .u32 D.c) := h.box.at (j := 11) rfl
  clear h hs hr hl ho hc he hA hp
  go_enter Tryz.func23, Tryz.ntmps23
  go_wp2_with (first
    | (go_at_call 60; refine (noneR_c _ g c0).mono ?_; rintro e wx ⟨rfl, rfl⟩)
    | (go_at_call 61; refine (check_r _ _ other 0 HO.out HC.out).mono ?_; rintro e wx ⟨rfl, rfl⟩)
    | (go_at_call 62; refine (readChangeR_o _ _ _ l user resp db pl ch er ps HR.out HL.out HA.out).mono ?_; rintro e w1 ⟨A1, k1, c1, A2, k2, c2, rfl, hx1⟩)
    | ((with_reducible show wpList _ _ _ (⟨some 8, Op.alloc _, _, _, _, _⟩ :: _) _ _); refine wpl_alloc rfl _ rfl chg0C (by kernel_rfl) ?_; intro w2 B2 hx2)
    | ((with_reducible show wpList _ _ _ (⟨none, Op.store _ _ _, _, _, _, _⟩ :: _) _ _); refine wpl_store_box rfl _ _ _ rfl _ [.string (strL user), .slice A1 k1 c1, .string (strL db), .int .u16 ch, .string (strL pl), .slice A2 k2 c2] rfl rfl B2 rfl (by kernel_rfl) (by rfl) ?_; intro w3 B3 O3; have hx3 : Ext w w3 := (hx1.trans hx2).on O3 (Ext.size hx1); clear c0 c10 c11)
    | (go_at_call 63; refine (odd_r _ S g D K aw sv (HH.out.ext hx3)).mono ?_; rintro e w4 ⟨v4, rfl, hl4, hr4, hO4⟩)
    | fail)
  go_ret2
  exact ⟨_, rfl, hl4.more (Ext.size hx3), hr4, (On.of hx3).trans hO4⟩
set_option maxHeartbeats 4000000 in
theorem changeR_yes (w : World) (S : List Nat) (g : Nat) (D : DoorV) (l other user resp db pl : List UInt8) (ch : Int) (ps : Pairs) (vb vo : Value) (h : RefIs w S g D) (hs : D.st = 2) (hr : Rd w vb l) (hl : l.length ≤ 900000) (ho : Rd w vo other) (hov : vo.ownBlock ≠ some g) (hc : checkE other = 0) (hf : DoorFit D) (hA : overP (changeM D.c) chgV0 l = (⟨user, resp, db, ch, pl, ps⟩, 0)) :
    Calls Tryz.prog 23 #[.pointer (some ⟨g, 0, none⟩), vb, vo] w (RetFr w S g (changeUP D l other)) := by
  obtain ⟨K, aw, sv, h⟩ := h
  have haw := h.ok.end_ hs
  subst haw
  have hkn := h.ok.two hs
  have hp : changeUP D l other = ((changeP (whoP { D with st := 1, n := other, nx := 4 } user db)).1, 0, (changeP (whoP { D with st := 1, n := other, nx := 4 } user db)).2) := by
    unfold changeUP
    rw [if_neg (by rw [hs]; decide), if_pos hs, if_pos hc, hA]
    dsimp only
    rw [if_pos rfl]
    unfold changeP
    rw [show (whoP { D with st := 1, n := other } user db).kn = (whoP { D with st := 1, n := other, nx := 4 } user db).kn from rfl]
    cases (whoP { D with st := 1, n := other, nx := 4 } user db).kn <;> rfl
  rw [hp]
  obtain ⟨R, hR⟩ : ∃ R, changeP (whoP { D with st := 1, n := other, nx := 4 } user db) = R := ⟨_, rfl⟩
  rw [hR]
  have hno := checkE_nonce hc
  have HRR := Lib.hid hR
  have HA := Lib.hid hA
  have HR := Lib.hid hr
  have HL := Lib.hid hl
  have HH := Lib.hid h
  have HO := Lib.hid ho
  have HC := Lib.hid hc
  have HOV := Lib.hid hov
  have HON := Lib.hid (show other.length = 20 from hno.1)
  have HF := Lib.hid (show DoorFit { D with st := 1, n := other, nx := 4 } from ⟨hf.us, hf.u, hno⟩)
  have HOK := Lib.hid (show RefOk { D with st := 1, n := other, nx := 4 } 4 sv from ⟨fun _ => rfl, h.ok.sv, fun _ => hkn, fun _ _ => hkn, h.ok.pl, fun _ => rfl⟩)
  have c0 : w.cell? ⟨g, 0, none⟩ = some (.bool true) := h.box.at (j := 0) rfl
  have c10 : w.cell? ⟨g, 10, none⟩ = some (.int .i64 2) := h.box.at (j := 10) (by rw [← hs]; rfl)
  have c11 : w.cell? ⟨g, 11, none⟩ = some (.int .u32 D.c) := h.box.at (j := 11) rfl
  have hlt := h.box.lt
  obtain ⟨Ao, co, rfl, _⟩ := ho
  clear h hs hr hl hov hc hA hp hR hkn hf hno
  go_enter Tryz.func23, Tryz.ntmps23
  go_wp2_with (first
    | (go_at_call 60; refine (noneR_c _ g c0).mono ?_; rintro e wx ⟨rfl, rfl⟩)
    | (go_at_call 61; refine (check_r _ _ other 0 HO.out HC.out).mono ?_; rintro e wx ⟨rfl, rfl⟩)
    | (go_at_call 62; refine (readChangeR_o _ _ _ l user resp db pl ch 0 ps HR.out HL.out HA.out).mono ?_; rintro e w1 ⟨A1, k1, c1, A2, k2, c2, rfl, hx1⟩)
    | ((with_reducible show wpList _ _ _ (⟨some 8, Op.alloc _, _, _, _, _⟩ :: _) _ _); refine wpl_alloc rfl _ rfl chg0C (by kernel_rfl) ?_; intro w2 B2 hx2)
    | ((with_reducible show AtW 75); refine wpl_store_box rfl _ _ _ rfl _ [.string (strL user), .slice A1 k1 c1, .string (strL db), .int .u16 ch, .string (strL pl), .slice A2 k2 c2] rfl rfl B2 rfl (by kernel_rfl) (by rfl) ?_; intro w3 B3 O3; have hx3 : Ext w w3 := (hx1.trans hx2).on O3 (Ext.size hx1); have Bd3 := HH.out.box.ext hx3; have hw1 := Ext.size hx1; clear c0 c10 c11)
    | ((with_reducible show AtW 3); refine wpl_store_cell rfl _ _ _ rfl g 10 (.int .i64 1) rfl rfl rfl rfl (by kernel_rfl) Bd3 (show 10 < 19 by decide) ?_; intro w5 B5 O5; have Bu5 := B3.on O5 (by omega); have HO5 := Lib.hid (show On g w w5 from (On.of hx3).trans O5); have HOT := Lib.hid (HO.out.on HO5.out HOV.out))
    | ((with_reducible show AtS 42); go_loud (refine wpl_append_rd bt (own_nil w5 w5.heap.size w5.heap.size rfl (Nat.le_refl _)) (HOT.out.ext ((Ext.refl w5).alloc _)) rfl _ _ rfl rfl rfl (by have := HON.out; simp; omega) (by simp) ?_; intro v6 w6 ho6 hb6; have hx6 : Ext w5 w6 := ((Ext.refl w5).alloc _).below hb6 (Nat.le_refl _); rw [List.nil_append] at ho6; obtain ⟨A6, c6, hv6, _⟩ := id ho6.rd; subst hv6; have B6 := B5.ext hx6; have Bu6 := Bu5.ext hx6))
    | ((with_reducible show AtW 22); refine wpl_store_cell rfl _ _ _ rfl g 18 (.slice A6 other.length c6) rfl rfl rfl rfl (by kernel_rfl) B6 (show 18 < 19 by decide) ?_; intro w7 B7 O7; have Bu7 := Bu6.on O7 (by omega); have b0 := Bu7.at (j := 0) rfl; have b2 := Bu7.at (j := 2) rfl; have b4 := Bu7.at (j := 4) rfl)
    | (go_at_call 64; go_loud (have hO7 : On g w w7 := (HO5.out.ext hx6).trans O7; have hs5 := HO5.out.size; have hs7 := O7.size; have hoff : Off w7 S (.slice A6 other.length c6) := (fun x e => ⟨fun hm => by have := HH.out.lt x hm; have := (World.ownsRow.lt ho6 x e).1; omega, Nat.lt_of_lt_of_le (World.ownsRow.lt ho6 x e).2 hs7⟩); have hr7 := ho6.rd.on O7 (fun e => by have := (World.ownsRow.lt ho6 g e).1; omega); have D7 := HH.out.turnN (A := A6) (cp := c6) hO7 (D' := { D with st := 1, n := other, nx := 4 }) (aw' := 4) (sv' := sv) B7 rfl rfl rfl hr7 hoff HOK.out; refine (who_r _ S g _ _ 4 sv user db pl [] _ false D7 rfl HF.out (fun w' k => Rd.nil _)).mono ?_; rw [Bool.false_and, Bool.and_false, if_neg Bool.false_ne_true, HRR.out]; rintro e w8 ⟨v8, rfl, hl8, hr8, hO8⟩))
    | fail)
  go_ret2
  have hO7 : On g w w7 := (HO5.out.ext hx6).trans O7
  exact ⟨_, rfl, hl8.more hO7.size, hr8, hO7.trans hO8⟩
theorem changeU_r (w : World) (S : List Nat) (g : Nat) (D : DoorV) (l other : List UInt8) (vb vo : Value) (h : RefIs w S g D) (hz : D.st ≠ 0) (hr : Rd w vb l) (hl : l.length ≤ 900000) (ho : Rd w vo other) (hov : other ≠ [] → vo.ownBlock ≠ some g) (hf : DoorFit D) :
    Calls Tryz.prog 23 #[.pointer (some ⟨g, 0, none⟩), vb, vo] w (RetFr w S g (changeUP D l other)) := by
  by_cases hs : D.st = 2
  · by_cases hc : checkE other = 0
    · by_cases he : (overP (changeM D.c) chgV0 l).2 = 0
      · obtain ⟨⟨⟨user, resp, db, ch, pl, ps⟩, er⟩, hA⟩ : ∃ x, overP (changeM D.c) chgV0 l = x := ⟨_, rfl⟩
        have he0 : er = 0 := by rw [hA] at he; exact he
        subst he0
        exact changeR_yes w S g D l other user resp db pl ch ps vb vo h hs hr hl ho (hov (by rintro rfl; exact absurd hc (by decide))) hc hf hA
      · exact changeR_bad w S g D l other vb vo h hs hr hl ho hc he
    · exact changeR_arg w S g D l other vb vo h hs ho hc
  · exact changeR_over w S g D l other vb vo h hz hs
end Go.Proofs.YtbodppfpmpmadaaGreat

