import Derived.Test.YtbodppfpmpmadaaGreatLogXC
import Derived.Test.YtbodppfpmpmadaaGreatGrIC
import Derived.Maps.OwnOps
import Derived.Test.YtbodppfpmpmadaaGreatL11C
namespace Go.Proofs.YtbodppfpmpmadaaGreat
open Go.RowKit

def changeUP (D : DoorV) (l other : List UInt8) : List (List UInt8) × Int × DoorV :=
  if D.st = 0 then ([], 1, D) else if D.st = 2 then
    (if checkE other = 0 then
      (if (overP (changeM D.c) chgV0 l).2 = 0 then
        ((changeP (whoP { D with st := 1, n := other } (overP (changeM D.c) chgV0 l).1.user (overP (changeM D.c) chgV0 l).1.db)).1, 0,
          (changeP (whoP { D with st := 1, n := other } (overP (changeM D.c) chgV0 l).1.user (overP (changeM D.c) chgV0 l).1.db)).2)
      else ([oddL], 0, { D with st := 3 }))
    else ([], 2, D))
  else ([], 9, D)
theorem DoorAt.turnN {w w' : World} {S : List Nat} {g : Nat} {D D' : DoorV} {K : DoorK} {fv fv' : Value} {A : Option Addr} {cp : Nat} (h : DoorAt w S g D K fv) (k : On g w w') (hb : BoxF w' g (dcs { K with A := A, cp := cp } D' fv')) (hu : D'.us = D.us) (hh : D'.hello = D.hello)
    (hr : Rd w' (.slice A D'.n.length cp) D'.n) (ho : Off w' S (.slice A D'.n.length cp)) (hf : FnIs w' S g D'.nx fv') : DoorAt w' S g D' { K with A := A, cp := cp } fv' :=
  ⟨hb, by rw [hu]; exact h.map.on k (fun e => h.bS (e ▸ h.gS)), h.bS, hr, ho, by rw [hh]; exact h.hr.on k (h.hS.ne h.gS), h.hS.mono k.size, hf, h.gS, fun x hx => Nat.lt_of_lt_of_le (h.lt x hx) k.size⟩
theorem checkE_nonce {n : List UInt8} (h : checkE n = 0) : n.length = 20 ∧ nonceOk n = true := by
  refine ⟨checkE_len h, ?_⟩
  unfold checkE at h
  split at h
  · rename_i h1
    unfold nonceOk
    simp_all
  · cases h
def chg0C : List Value := [.string ⟨#[]⟩, .slice none 0 0, .string ⟨#[]⟩, .int .u16 0, .string ⟨#[]⟩, .slice none 0 0]
set_option maxHeartbeats 1000000 in
theorem change_no (w : World) (S : List Nat) (g : Nat) (D : DoorV) (l other : List UInt8) (vb vo : Value) (h : DoorIs w S g D) (ho : Rd w vo other) (hs : D.st ≠ 2 ∨ checkE other ≠ 0) :
    Calls Tryz.prog 7 #[.pointer (some ⟨g, 0, none⟩), vb, vo] w (RetF w S g (changeUP D l other)) := by
  obtain ⟨K, fv, h⟩ := h
  have HH := Lib.hid h
  have c9 : w.cell? ⟨g, 9, none⟩ = some (.int .i64 D.st) := h.box.at (j := 9) rfl
  obtain ⟨st, hst⟩ : ∃ st, D.st = st := ⟨_, rfl⟩
  rw [hst] at c9 hs
  have HO := Lib.hid ho
  unfold changeUP
  rw [hst]
  clear h hst ho
  by_cases h0 : st = 0
  · subst h0
    rw [if_pos rfl]
    clear hs
    go_enter Tryz.func7, Tryz.ntmps7
    go_wp2_with (go_at_call 38; refine (dnone_c _ g 0 c9).mono ?_; rintro e wx ⟨rfl, rfl⟩)
    go_ret2
    exact ⟨_, rfl, ListsN.nil _ _, ⟨K, fv, HH.out⟩, On.refl _ _⟩
  · rw [if_neg h0]
    have HQ := Lib.hid (show (st == 0) = false by simp [h0])
    by_cases h2 : st = 2
    · subst h2
      rw [if_pos rfl]
      have h3 : checkE other ≠ 0 := by
        rcases hs with h | h
        · exact absurd rfl h
        · exact h
      rw [if_neg h3]
      have h4 : checkE other = 2 := (checkE_or other).resolve_left h3
      have H4 := Lib.hid h4
      clear hs h3 h4 h0 HQ
      go_enter Tryz.func7, Tryz.ntmps7
      go_wp2_with (first
        | (go_at_call 38; refine (dnone_c _ g 2 c9).mono ?_; rintro e wx ⟨rfl, rfl⟩)
        | (go_at_call 39; refine (check_c _ _ other 2 HO.out H4.out).mono ?_; rintro e wx ⟨rfl, rfl⟩)
        | fail)
      go_ret2
      exact ⟨_, rfl, ListsN.nil _ _, ⟨K, fv, HH.out⟩, On.refl _ _⟩
    · rw [if_neg h2]
      have hq : (st != 2) = true := by simpa using h2
      clear hs h0 h2
      go_enter Tryz.func7, Tryz.ntmps7
      go_wp2_with (go_at_call 38; refine (dnone_c _ g st c9).mono ?_; rintro e wx ⟨rfl, rfl⟩; rw [HQ.out])
      go_ret2
      exact ⟨_, rfl, ListsN.nil _ _, ⟨K, fv, HH.out⟩, On.refl _ _⟩
set_option maxHeartbeats 2000000 in
theorem change_bad (w : World) (S : List Nat) (g : Nat) (D : DoorV) (l other : List UInt8) (vb vo : Value) (h : DoorIs w S g D) (hr : Rd w vb l) (hl : l.length ≤ 900000) (ho : Rd w vo other) (hs : D.st = 2) (h4 : checkE other = 0) (he : (overP (changeM D.c) chgV0 l).2 ≠ 0) :
    Calls Tryz.prog 7 #[.pointer (some ⟨g, 0, none⟩), vb, vo] w (RetF w S g ([oddL], 0, { D with st := 3 })) := by
  obtain ⟨K, fv, h⟩ := h
  obtain ⟨⟨⟨user, resp, db, ch, pl, ps⟩, er⟩, hA⟩ : ∃ x, overP (changeM D.c) chgV0 l = x := ⟨_, rfl⟩
  rw [hA] at he
  have hq : (er != 0) = true := by simpa using he
  have HA := Lib.hid hA
  have HR := Lib.hid hr
  have HL := Lib.hid hl
  have HH := Lib.hid h
  have HO := Lib.hid ho
  have H4 := Lib.hid h4
  have c9 : w.cell? ⟨g, 9, none⟩ = some (.int .i64 2) := h.box.at (j := 9) (by rw [← hs]; rfl)
  have c10 : w.cell? ⟨g, 10, none⟩ = some (.int .u32 D.c) := h.box.at (j := 10) rfl
  obtain ⟨Ab, cb, rfl, _⟩ := hr
  clear hA hl h he ho h4
  go_enter Tryz.func7, Tryz.ntmps7
  go_wp2_with (first
    | (go_at_call 38; refine (dnone_c _ g 2 c9).mono ?_; rintro e wx ⟨rfl, rfl⟩)
    | (go_at_call 39; refine (check_c _ _ other 0 HO.out H4.out).mono ?_; rintro e wx ⟨rfl, rfl⟩)
    | (go_at_call 40; refine (readChange_s _ D.c _ l user resp db pl ch er ps HR.out HL.out HA.out).mono ?_; rintro e w1 ⟨A1, k1, c1, A2, k2, c2, rfl, _, _, hx1⟩)
    | ((with_reducible show wpList _ _ _ (⟨some 8, Op.alloc _, _, _, _, _⟩ :: _) _ _); refine wpl_alloc rfl _ rfl chg0C (by kernel_rfl) ?_; intro w2 B2 hx2)
    | ((with_reducible show AtW 75); refine wpl_store_box rfl _ _ _ rfl _ [.string (strL user), .slice A1 k1 c1, .string (strL db), .int .u16 ch, .string (strL pl), .slice A2 k2 c2] rfl rfl B2 rfl (by kernel_rfl) (by rfl) ?_; intro w3 B3 O3; have hx3 : Ext w w3 := (hx1.trans hx2).on O3 (Ext.size hx1))
    | (go_at_call 42; refine (odd_c _).mono ?_; rintro e w4 ⟨v4, rfl, hl4, hx4⟩; have hx5 := hx3.trans hx4)
    | (go_at_call 41; refine (dfail_c _ g (dcs K D fv) _ (HH.out.box.ext hx5) rfl).mono ?_; rintro e w6 ⟨rfl, B6, O6⟩)
    | fail)
  go_ret2
  have hO : On g w w6 := (On.of hx5).trans O6
  exact ⟨_, rfl, (hl4.on O6 (Nat.lt_of_lt_of_le HH.out.box.lt (Ext.size hx3))).more (Ext.size hx3), DoorIs.dfail HH.out hO B6, hO⟩
set_option maxHeartbeats 4000000 in
theorem change_up (w : World) (S : List Nat) (g : Nat) (D : DoorV) (l other user resp db pl : List UInt8) (ch : Int) (ps : Pairs) (vb vo : Value) (h : DoorIs w S g D) (hr : Rd w vb l) (hl : l.length ≤ 900000) (ho : Rd w vo other) (hs : D.st = 2) (h4 : checkE other = 0)
    (hA : overP (changeM D.c) chgV0 l = (⟨user, resp, db, ch, pl, ps⟩, 0)) (hul : user.length ≤ 1000000) (D1 : DoorV) (hD : whoP { D with st := 1, n := other } user db = D1) (hok : DoorOk D1) :
    Calls Tryz.prog 7 #[.pointer (some ⟨g, 0, none⟩), vb, vo] w (RetF w S g ((changeP D1).1, 0, (changeP D1).2)) := by
  obtain ⟨K, fv, h⟩ := h
  have HA := Lib.hid hA
  have HR := Lib.hid hr
  have HL := Lib.hid hl
  have HH := Lib.hid h
  have HO := Lib.hid ho
  have H4 := Lib.hid h4
  have HU := Lib.hid hul
  have HD := Lib.hid hD
  have HOK := Lib.hid hok
  have H20 := Lib.hid (checkE_len h4)
  have c9 : w.cell? ⟨g, 9, none⟩ = some (.int .i64 2) := h.box.at (j := 9) (by rw [← hs]; rfl)
  have c10 : w.cell? ⟨g, 10, none⟩ = some (.int .u32 D.c) := h.box.at (j := 10) rfl
  obtain ⟨Ab, cb, rfl, _⟩ := hr
  have hgl := h.box.lt
  have HGL := Lib.hid hgl
  clear hA hl h ho h4 hul hD hok hgl
  go_enter Tryz.func7, Tryz.ntmps7
  go_wp2_with (first
    | (go_at_call 38; refine (dnone_c _ g 2 c9).mono ?_; rintro e wx ⟨rfl, rfl⟩)
    | (go_at_call 39; refine (check_c _ _ other 0 HO.out H4.out).mono ?_; rintro e wx ⟨rfl, rfl⟩)
    | (go_at_call 40; refine (readChange_s _ D.c _ l user resp db pl ch 0 ps HR.out HL.out HA.out).mono ?_; rintro e w1 ⟨A1, k1, c1, A2, k2, c2, rfl, _, _, hx1⟩)
    | ((with_reducible show wpList _ _ _ (⟨some 8, Op.alloc _, _, _, _, _⟩ :: _) _ _); refine wpl_alloc rfl _ rfl chg0C (by kernel_rfl) ?_; intro w2 B2 hx2)
    | ((with_reducible show AtW 75); refine wpl_store_box rfl _ _ _ rfl _ [.string (strL user), .slice A1 k1 c1, .string (strL db), .int .u16 ch, .string (strL pl), .slice A2 k2 c2] rfl rfl B2 rfl (by kernel_rfl) (by rfl) ?_; intro w3 B3 O3; have hx3 : Ext w w3 := (hx1.trans hx2).on O3 (Ext.size hx1); have hs1 := Ext.size hx1; clear c9 c10 B2)
    | (go_at_call 43; refine (cloneS_c _ _ other (HO.out.ext hx3) (by rw [H20.out]; omega)).mono ?_; rintro e w4 ⟨v4, rfl, ho4, hx4⟩; obtain ⟨A4, c4, hv4, _⟩ := id ho4.rd; subst hv4; have hx34 := hx3.trans hx4; have B4 := HH.out.box.ext hx34; have D4 := B3.ext hx4)
    | ((with_reducible show AtW 3); refine wpl_store_cell rfl _ _ _ rfl g 9 (.int .i64 1) rfl rfl rfl rfl (by kernel_rfl) B4 (show 9 < 19 by decide) ?_; intro w5 B5 O5; clear B4)
    | ((with_reducible show AtW 22); refine wpl_store_cell rfl _ _ _ rfl g 3 (.slice A4 other.length c4) rfl rfl rfl rfl (by kernel_rfl) B5 (show 3 < 19 by decide) ?_; intro w6 B6 O6; have hO6 := O5.trans O6; have hgn : w1.heap.size ≠ g := (by have := HGL.out; omega); have D6 := Lib.hid (D4.on hO6 hgn); have b0 := D6.out.at (j := 0) rfl; have b2 := D6.out.at (j := 2) rfl; have E6 : DoorAt w6 S g { D with st := 1, n := other } { K with A := A4, cp := c4 } fv := (HH.out.ext hx34).turnN (D' := { D with st := 1, n := other }) hO6 B6 rfl rfl ((ho4.on hO6 (by have := HGL.out; have := Ext.size hx3; omega)).rd) (fun x hx => (by have := World.ownsRow.lt ho4 x hx; refine ⟨fun hm => ?_, Nat.lt_of_lt_of_le this.2 hO6.size⟩; have := HH.out.lt x hm; have := Ext.size hx3; omega)) ((HH.out.fn.ext hx34).on hO6 HH.out.gS); clear B5 D4)
    | (go_at_call 44; refine (who_d _ S g { D with st := 1, n := other } user db { K with A := A4, cp := c4 } fv E6 HU.out).mono ?_; rintro e w7 ⟨rfl, E7, O7⟩; rw [HD.out] at E7)
    | (go_at_call 45; refine (change_d _ S g D1 ⟨_, _, E7⟩ HOK.out.sw HOK.out.pl).mono ?_; rintro e w8 ⟨v8, rfl, hl8, hd8, O8⟩)
    | fail)
  go_ret2
  have hO7 : On g w w7 := ((On.of hx34).trans hO6).trans O7
  exact ⟨_, rfl, hl8.more hO7.size, hd8, hO7.trans O8⟩
theorem changeU_d (w : World) (S : List Nat) (g : Nat) (D : DoorV) (l other : List UInt8) (vb vo : Value) (h : DoorIs w S g D) (hr : Rd w vb l) (hl : l.length ≤ 900000) (ho : Rd w vo other) (hf : DoorFit D) :
    Calls Tryz.prog 7 #[.pointer (some ⟨g, 0, none⟩), vb, vo] w (RetF w S g (changeUP D l other)) := by
  by_cases hs : D.st = 2
  · by_cases h4 : checkE other = 0
    · by_cases he : (overP (changeM D.c) chgV0 l).2 = 0
      · obtain ⟨⟨⟨user, resp, db, ch, pl, ps⟩, er⟩, hA⟩ : ∃ x, overP (changeM D.c) chgV0 l = x := ⟨_, rfl⟩
        have he0 : er = 0 := by rw [hA] at he; exact he
        subst he0
        obtain ⟨hXa, hoka, _⟩ := overP_inv (inv_change D.c) hA
        have hus := (chg_sizes hoka (Nat.le_trans hXa hl)).1
        have e : changeUP D l other = ((changeP (whoP { D with st := 1, n := other } user db)).1, 0, (changeP (whoP { D with st := 1, n := other } user db)).2) := by
          unfold changeUP
          rw [if_neg (by rw [hs]; decide), if_pos hs, if_pos h4, hA]
          rfl
        rw [e]
        exact change_up w S g D l other user resp db pl ch ps vb vo h hr hl ho hs h4 hA (by dsimp only at hus; omega) _ rfl (DoorFit.who (D := { D with st := 1, n := other }) ⟨hf.us, hf.u, checkE_nonce h4⟩ _ _).ok
      · have e : changeUP D l other = ([oddL], 0, { D with st := 3 }) := by
          unfold changeUP
          rw [if_neg (by rw [hs]; decide), if_pos hs, if_pos h4, if_neg he]
        rw [e]
        exact change_bad w S g D l other vb vo h hr hl ho hs h4 he
    · exact change_no w S g D l other vb vo h ho (.inr h4)
  · exact change_no w S g D l other vb vo h ho (.inl hs)
theorem changeUP_fit {D : DoorV} (h : DoorFit D) (l other : List UInt8) : DoorFit (changeUP D l other).2.2 := by
  unfold changeUP
  split
  · exact h
  · split
    · split
      · rename_i h4
        split
        · exact changeP_fit (DoorFit.who (D := { D with st := 1, n := other }) ⟨h.us, h.u, checkE_nonce h4⟩ _ _)
        · exact ⟨h.us, h.u, h.n⟩
      · exact h
    · exact h
end Go.Proofs.YtbodppfpmpmadaaGreat

namespace Go.Proofs.YtbodppfpmpmadaaGreat
open Go.RowKit

theorem state_d (w : World) (S : List Nat) (g : Nat) (D : DoorV) (h : DoorIs w S g D) :
    Calls Tryz.prog 10 #[.pointer (some ⟨g, 0, none⟩)] w fun e w' => e = .returned (.int .i64 D.st) ∧ w = w' := by
  obtain ⟨K, fv, h⟩ := h
  exact dstate_c w g D.st (h.box.at (j := 9) rfl)
theorem schema_d (w : World) (S : List Nat) (g : Nat) (D : DoorV) (h : DoorIs w S g D) :
    Calls Tryz.prog 13 #[.pointer (some ⟨g, 0, none⟩)] w fun e w' => e = .returned (.string (if D.st = 2 then strL D.sc else ByteArray.empty)) ∧ w = w' := by
  obtain ⟨K, fv, h⟩ := h
  exact dschema_c w g D.st (strL D.sc) (h.box.at (j := 9) rfl) (h.box.at (j := 18) rfl)
theorem user_d (w : World) (S : List Nat) (g : Nat) (D : DoorV) (h : DoorIs w S g D) :
    Calls Tryz.prog 12 #[.pointer (some ⟨g, 0, none⟩)] w fun e w' => e = .returned (.agg (if D.st = 2 then userC D.u else user0).toArray) ∧ Ext w w' := by
  obtain ⟨K, fv, h⟩ := h
  exact duser_c w g (dcs K D fv) D.st D.u.name D.u.pw D.u.pl D.u.sc D.u.adm h.box rfl rfl
theorem caps_d (w : World) (S : List Nat) (g : Nat) (D : DoorV) (h : DoorIs w S g D) (hz : D.st ≠ 0) :
    Calls Tryz.prog 11 #[.pointer (some ⟨g, 0, none⟩)] w fun e w' => e = .returned (.int .u32 D.c) ∧ w = w' := by
  obtain ⟨K, fv, h⟩ := h
  have c9 : w.cell? ⟨g, 9, none⟩ = some (.int .i64 D.st) := h.box.at (j := 9) rfl
  have c10 : w.cell? ⟨g, 10, none⟩ = some (.int .u32 D.c) := h.box.at (j := 10) rfl
  have HQ := Lib.hid (show (D.st == 0) = false by simp [hz])
  clear h hz
  go_enter Tryz.func11, Tryz.ntmps11
  go_wp2_with (go_at_call 38; refine (dnone_c _ g D.st c9).mono ?_; rw [HQ.out]; rintro e wx ⟨rfl, rfl⟩)
  go_ret
  exact ⟨rfl, rfl⟩
theorem greeting_d (w : World) (S : List Nat) (g : Nat) (D : DoorV) (h : DoorIs w S g D) (hz : D.st ≠ 0) (hl : D.hello.length ≤ 100000000) :
    Calls Tryz.prog 9 #[.pointer (some ⟨g, 0, none⟩)] w (RetB w D.hello) := by
  obtain ⟨K, fv, h⟩ := h
  have c9 : w.cell? ⟨g, 9, none⟩ = some (.int .i64 D.st) := h.box.at (j := 9) rfl
  have c8 : w.cell? ⟨g, 8, none⟩ = some K.vh := h.box.at (j := 8) rfl
  have HR := Lib.hid h.hr
  have HL := Lib.hid hl
  obtain ⟨A, c, hv, _⟩ := id h.hr
  rw [hv] at c8 HR
  have HQ := Lib.hid (show (D.st == 0) = false by simp [hz])
  clear h hz hl hv
  go_enter Tryz.func9, Tryz.ntmps9
  go_wp2_with (first
    | (go_at_call 38; refine (dnone_c _ g D.st c9).mono ?_; rw [HQ.out]; rintro e wx ⟨rfl, rfl⟩)
    | (go_at_call 43; refine (cloneS_c _ _ _ HR.out HL.out).mono ?_; rintro e w1 ⟨v1, rfl, ho1, hx1⟩)
    | fail)
  go_ret
  exact ⟨_, rfl, ho1, hx1⟩
end Go.Proofs.YtbodppfpmpmadaaGreat

namespace Go.Proofs.YtbodppfpmpmadaaGreat
open Go.RowKit

section
variable {ops : Array Oper} {rest : List Oper} {o : Oper} {a : Act} {w : World} {Q : Exit → Act → World → Prop}
theorem wpl_lookU (hg : o.guard = none) (m x : Operand) (ho : o.op = .lookup TM m x true) {b : Nat} {us : List UserV} (hM : MapU w b us) (hm : a.eval m = .map (some b)) (nm : List UInt8) (hx : a.eval x = .string (strL nm)) (hn : nm.length ≤ maxLen) {u : UserV} {kn : Bool}
    (hu : (findU us nm).getD userZ = u) (hk : (findU us nm).isSome = kn) (h : wpList Tryz.prog ops Q rest (a.put o.dst (.tuple #[.agg #[.string (strL u.name), .string (strL u.pw), .string (strL u.pl), .string (strL u.sc), .bool u.adm], .bool kn])) w) : wpList Tryz.prog ops Q (o :: rest) a w :=
  wpl_val hg (w' := w) (by unfold execOp; simp only [ho, hm, hx, hM.look nm hn hu hk, Sem.run_bind, Sem.run_pure, Result.andThen_ok]) h
end
def GoodU (us : List UserV) : Prop := ∀ k, k < us.length → okU (us.getD k userZ) = true ∧ findU (us.take k) (us.getD k userZ).name = none
def MapN (w : World) (b n : Nat) (us : List UserV) : Prop := w.ownsMap Tryz.prog TS userR b n (usD us)
theorem MapN.u {w : World} {b n : Nat} {us : List UserV} (h : MapN w b n us) : MapU w b us := ⟨n, h⟩
theorem MapN.on {g : Nat} {w w' : World} {b n : Nat} {us : List UserV} (h : MapN w b n us) (k : On g w w') (hne : b ≠ g) : MapN w' b n us := World.ownsMap.kept h k (by intro e; injection e with e; exact hne e)
theorem MapN.ext {w w' : World} {b n : Nat} {us : List UserV} (h : MapN w b n us) (k : Ext w w') : MapN w' b n us := World.ownsMap.kept (row := none) h ⟨k.os, k.tape, k.output, Ext.size k, fun i hi _ => k.block i hi⟩ (by simp)
theorem okU_name {u : UserV} (h : okU u = true) : u.name.length ≤ 64 := by
  unfold okU plainU at h
  simp only [Bool.and_eq_true, decide_eq_true_eq] at h
  exact h.2.1.1
theorem take_snoc (us : List UserV) (k : Nat) (h : k < us.length) : us.take (k + 1) = us.take k ++ [us.getD k userZ] := by
  rw [List.take_add_one, List.getD_eq_getElem?_getD, List.getElem?_eq_getElem h]; rfl
def door0 (us : List UserV) (gc : Int) (n hello : List UInt8) : DoorV := ⟨us, gc, n, hello, 1, 0, 0, userZ, false, []⟩
theorem rangeAt_userC (us : List UserV) (k : Nat) (h : k < us.length) : (us.map userC).getD k [] = userC (us.getD k userZ) := by
  rw [List.getD_eq_getElem?_getD, List.getD_eq_getElem?_getD, List.getElem?_map, List.getElem?_eq_getElem h]; rfl
set_option maxRecDepth 100000 in
set_option maxHeartbeats 1000000 in
theorem newDoor_ok (w : World) (v : Value) (us : List UserV) (ver n pl : List UInt8) (thr caps ch st : Int) (vn : Value) (hus : Recs w 5 v (us.map userC)) (hgood : GoodU us) (h64 : us.length ≤ 64) (hn : Rd w vn n) (hzv : ver.contains 0 = false) (hzp : pl.contains 0 = false) (h20 : n.length = 20) (hno : nonceOk n = true)
    (hc : hasC caps 33280 = true) (hpf : pl = [] ∨ hasC caps 524288 = true) (ht : 0 ≤ thr ∧ thr < 4294967296) (hcaps : 0 ≤ caps ∧ caps < 4294967296) (hch : 0 ≤ ch ∧ ch < 256) (hst : 0 ≤ st ∧ st < 65536) (hpl : pl.length ≤ 10000) (hvl : ver.length ≤ 10000) (hck : checkC caps = 0) :
    Calls Tryz.prog 21 #[v, .agg #[.string (strL ver), .int .u32 thr, vn, .int .u32 caps, .int .u8 ch, .int .u16 st, .string (strL pl)]] w fun e w' => ∃ g, e = .returned (.tuple #[.pointer (some ⟨g, 0, none⟩), .int .i64 0]) ∧
      w.heap.size ≤ g ∧ g < w'.heap.size ∧ Ext w w' ∧ ∀ S : List Nat, g ∈ S → (∀ x ∈ S, x = g ∨ x < w.heap.size) → DoorIs w' S g (door0 us caps n (greetBs ver thr n caps ch st pl)) := by
  have HUS := Lib.hid hus
  have HGOOD := Lib.hid hgood
  obtain ⟨A, cap, hv, hle, hm⟩ := hus.shape
  rw [List.length_map] at hv hle
  unfold maxLen at hm
  obtain ⟨N, hN⟩ : ∃ N, N = us.length := ⟨_, rfl⟩
  rw [← hN] at hv hle h64
  subst hv
  have HN := Lib.hid hN
  obtain ⟨An, cn, rfl, _⟩ := id hn
  have HNN := Lib.hid hn
  obtain ⟨G, hG⟩ : ∃ G, G = greetBs ver thr n caps ch st pl := ⟨_, rfl⟩
  have HG : ∀ w v, Rd w v n → Calls Tryz.prog 55 #[.slice none 0 0, .agg #[.string (strL ver), .int .u32 thr, v, .int .u32 caps, .int .u8 ch, .int .u16 st, .string (strL pl)]] w (RetBE w G 0) := fun w v hv => by
    rw [hG]
    exact appendGreeting_g w ver n pl thr caps ch st v hv hzv hzp h20 hno hc hpf ht hcaps hch hst hpl hvl
  replace HG := Lib.hid HG
  have HCK := Lib.hid hck
  have H20 := Lib.hid h20
  rw [← hG]
  have hN64 : ¬ (N : Int) > 64 := by omega
  have hmm := @run_makeMap Tryz.prog
  clear hus hgood hN hn hG hck h20 hzv hzp hno hc hpf ht hcaps hch hst hpl hvl
  go_enter Tryz.func21, Tryz.ntmps21
  go_upto_region 1 with fail
  generalize hW0 : w.alloc _ = wS
  have hb0 : BoxF wS w.heap.size [.string (strL ver), .int .u32 thr, .slice An n.length cn, .int .u32 caps, .int .u8 ch, .int .u16 st, .string (strL pl)] := by rw [← hW0]; exact BoxF.new w _ _
  have hx0 : Ext w wS := by rw [← hW0]; exact (Ext.refl w).alloc _
  have hs0 : w.heap.size < wS.heap.size := by rw [← hW0]; simp
  clear hW0
  have HB0 := Lib.hid hb0
  have HX0 := Lib.hid hx0
  clear hb0 hx0
  go_wp2_with fail
  have hM0 : MapN (wS.alloc (.map #[] 0)) wS.heap.size 0 (us.take 0) := World.ownsMap_made wS Tryz.prog TS userR
  have hX1 : Ext w (wS.alloc (.map #[] 0)) := HX0.out.alloc _
  have hB1 := HB0.out.ext ((Ext.refl wS).alloc (.map #[] 0))
  go_loopw [8, 9, 10, 17] (fun _ _ _ i W => ∃ k : Nat, k ≤ N ∧ i = .int .i64 k ∧ MapN W wS.heap.size k (us.take k) ∧ Ext w W ∧ BoxF W w.heap.size [.string (strL ver), .int .u32 thr, .slice An n.length cn, .int .u32 caps, .int .u8 ch, .int .u16 st, .string (strL pl)] ∧ wS.heap.size ≤ W.heap.size) (fun _ _ _ i _ => N - (intOf i).toNat)
  case atStart => exact ⟨0, Nat.zero_le _, rfl, hM0, hX1, hB1, by simp⟩
  case round =>
    clear hM0 hX1 hB1
    obtain ⟨k, hk, rfl, hM, hx, hb, hsz⟩ := hrel
    by_cases hkN : k < N
    · have hbk : (k : Int) < (N : Int) := by omega
      obtain ⟨b0, o0, rfl, hn2, hcs⟩ := (HUS.out.ext hx).at_ (A := A) (n := N) (cap := cap) (by omega)
      have hck := hcs k hkN
      rw [rangeAt_userC us k (by have := HN.out; omega)] at hck
      have hgk := HGOOD.out k (by have := HN.out; omega)
      have hus1 := take_snoc us k (by have := HN.out; omega)
      generalize us.getD k userZ = u at hck hgk hus1
      obtain ⟨nm, pw, plg, sc, ad⟩ := u
      have HCKk := Lib.hid (show wr.rangeAt b0 (o0 + k * 5) [.string (strL nm), .string (strL pw), .string (strL plg), .string (strL sc), .bool ad] from hck)
      have HNM := Lib.hid (show nm.length ≤ maxLen by have := okU_name hgk.1; unfold maxLen; dsimp only at this; omega)
      have HF0 := Lib.hid (show (findU (us.take k) nm).getD userZ = ⟨[], [], [], [], false⟩ by rw [hgk.2]; rfl)
      have HF1 := Lib.hid (show (findU (us.take k) nm).isSome = false by rw [hgk.2]; rfl)
      have HCU := Lib.hid (show checkU ⟨nm, pw, plg, sc, ad⟩ = 0 by unfold checkU; rw [hgk.1]; rfl)
      have HKEY := Lib.hid (show keyOf Tryz.prog TS (Value.string (strL nm)) = some (Lit.string nm) from Go.WideMaps.keyOf_string_mk Tryz.underlying9 (s := strL nm) (by rw [strL_size]; exact HNM.out))
      have HUS1 := Lib.hid hus1
      have HM := Lib.hid hM
      have HB := Lib.hid hb
      clear hck hgk hus1 hM hb hcs hn2
      have tok1 : True := trivial
      go_wp2_with (first
        | ((with_reducible show AtS 20); refine wpl_load_rec rfl _ _ rfl b0 _ rfl HCKk.out Tryz.underlying32 rfl (by kernel_rfl) ?_)
        | ((with_reducible show wpList _ _ _ (⟨some 8, Op.alloc _, _, _, _, _⟩ :: _) _ _); refine wpl_alloc rfl _ rfl user0 (by kernel_rfl) ?_; intro w1 B1 hx1)
        | ((with_reducible show AtW 32); have _t := tok1; refine wpl_store_box rfl _ _ _ rfl _ [.string (strL nm), .string (strL pw), .string (strL plg), .string (strL sc), .bool ad] rfl rfl B1 rfl (by kernel_rfl) (by rfl) ?_; intro w2 B2 O2; have hx2 : Ext wr w2 := hx1.on O2 (Nat.le_refl _); have c0 := B2.at (j := 0) rfl; clear tok1 B1 O2 hx1)
        | ((with_reducible show AtS 25); refine wpl_lookU rfl _ _ rfl (HM.out.ext hx2).u rfl nm rfl HNM.out HF0.out HF1.out ?_)
        | ((with_reducible show wpList _ _ _ (⟨some 9, Op.alloc _, _, _, _, _⟩ :: _) _ _); refine wpl_alloc rfl _ rfl user0 (by kernel_rfl) ?_; intro w3 B3 hx3)
        | ((with_reducible show AtW 32); refine wpl_store_box rfl _ _ _ rfl _ [.string (strL []), .string (strL []), .string (strL []), .string (strL []), .bool false] rfl rfl B3 rfl (by kernel_rfl) (by rfl) ?_; intro w4 B4 O4; have hx24 : Ext w2 w4 := hx3.on O4 (Nat.le_refl _); have hx4 : Ext wr w4 := hx2.trans hx24; have B24 := B2.ext hx24; have d0 := B24.at (j := 0) rfl; have d1 := B24.at (j := 1) rfl; have d2 := B24.at (j := 2) rfl; have d3 := B24.at (j := 3) rfl; have d4 := B24.at (j := 4) rfl; clear c0 B2 B3 B4 O4 hx3 hx24 hx2)
        | (go_at_call 19; refine (checkU_c _ nm pw plg sc ad).mono ?_; rintro e w5 ⟨rfl, hx5⟩; rw [HCU.out]; have B25 := B24.ext hx5; have e0 := B25.at (j := 0) rfl; have hx45 := hx4.trans hx5; clear d0 d1 d2 d3 d4 B24)
        | ((with_reducible show AtS 37); refine wpl_load_box rfl _ _ rfl _ rfl B25 Tryz.underlying32 rfl (by kernel_rfl) ?_)
        | ((with_reducible show wpList _ _ _ (⟨none, Op.mapUpdate _ _ _ _, _, _, _, _⟩ :: _) _ _); (refine wpList_mapUpdate_own _ rfl _ _ _ TM rfl TS 32 lawS Tryz.underlying24 userR wS.heap.size k (usD (us.take k)) rfl (HM.out.ext hx45) (by unfold maxLen; omega) (.string (strL nm)) (.agg #[.string (strL nm), .string (strL pw), .string (strL plg), .string (strL sc), .bool ad]) (.string nm) rfl rfl HKEY.out (userD ⟨nm, pw, plg, sc, ad⟩) [] (userR_mk ⟨nm, pw, plg, sc, ad⟩) ?_; intro w6 hM6 hg6))
        | fail)
      go_roundw
      case rel =>
        have hO6 : On wS.heap.size w5 w6 := hg6
        exact ⟨k + 1, by omega, by go_num, by rw [HUS1.out]; unfold MapN; rw [usD_snoc]; exact hM6, (hx.trans hx45).on hO6 (Ext.size HX0.out), (HB.out.ext hx45).on hO6 (by omega), Nat.le_trans hsz (Nat.le_trans (Ext.size hx45) hO6.size)⟩
      case measure => simp [intOf]; omega
    · obtain rfl : k = N := by omega
      have hb9 : ¬ (k : Int) < (k : Int) := by omega
      have hT : us.take k = us := by rw [HN.out]; exact List.take_length
      rw [hT] at hM
      have HM := Lib.hid hM
      have HB := Lib.hid hb
      have HX := Lib.hid hx
      have HSZ := Lib.hid hsz
      clear hT hM hb hx hsz
      go_wp2_with (first
        | ((with_reducible show AtS 40); refine wpl_load_box rfl _ _ rfl _ rfl HB.out Tryz.underlying29 rfl (by kernel_rfl) ?_)
        | (go_at_call 55; refine (HG.out _ _ (HNN.out.ext HX.out)).mono ?_; rintro e w1 ⟨v1, rfl, ho1, hx1⟩; obtain ⟨A1, c1, hv1, _⟩ := id ho1.rd; subst hv1; have B1 := HB.out.ext hx1; have g3 := B1.at (j := 3) rfl; have g2 := B1.at (j := 2) rfl)
        | (go_at_call 56; refine (capsCheck_c _ caps).mono ?_; rintro e wx ⟨rfl, rfl⟩; rw [HCK.out])
        | (go_at_call 43; refine (cloneS_c _ _ n (HNN.out.ext (HX.out.trans hx1)) (by rw [H20.out]; omega)).mono ?_; rintro e w2 ⟨v2, rfl, ho2, hx2⟩; obtain ⟨A2, c2, hv2, _⟩ := id ho2.rd; subst hv2; have B2 := B1.ext hx2; clear g2 g3 B1)
        | ((with_reducible show AtW 22); refine wpl_store_cell rfl _ _ _ rfl w.heap.size 2 (.slice A2 n.length c2) rfl rfl rfl rfl (by kernel_rfl) B2 (by simp) ?_; intro w3 B3 O3)
        | ((with_reducible show AtS 62); refine wpl_load_box rfl _ _ rfl _ rfl B3 Tryz.underlying29 rfl (by kernel_rfl) ?_)
        | ((with_reducible show AtW 30); refine wpl_store_cell rfl _ _ _ rfl w3.heap.size 11 (fnAnswer w3.heap.size) rfl rfl rfl rfl (by kernel_rfl) (BoxF.new w3 [.map (some wS.heap.size), .string (strL ver), .int .u32 thr, .slice A2 n.length c2, .int .u32 caps, .int .u8 ch, .int .u16 st, .string (strL pl), .slice A1 G.length c1, .int .i64 1, .int .u32 0, _, .string ⟨#[]⟩, .string ⟨#[]⟩, .string ⟨#[]⟩, .string ⟨#[]⟩, .bool false, .bool false, .string ⟨#[]⟩] _) (by simp) ?_; intro w5 B5 O5)
        | fail)
      go_ret2
      have hs := HSZ.out
      have hs1 : wr.heap.size ≤ w1.heap.size := Ext.size hx1
      have hs2 : w1.heap.size ≤ w2.heap.size := Ext.size hx2
      have hs3 := O3.size
      have hs5 : w3.heap.size < w5.heap.size := Nat.lt_of_lt_of_le (by simp) O5.size
      have hX3 : Ext w w3 := ((HX.out.trans hx1).trans hx2).on O3 (Nat.le_refl _)
      have ho2' : Own w3 w1.heap.size (.slice A2 n.length c2) n := ho2.on O3 (by omega)
      have ho1' : Own w3 wr.heap.size (.slice A1 G.length c1) G := (ho1.ext hx2).on O3 (by omega)
      have hm3 : MapN w3 wS.heap.size k us := ((HM.out.ext hx1).ext hx2).on O3 (by omega)
      have hml := HM.out.u.lt
      refine ⟨w3.heap.size, rfl, Ext.size hX3, hs5, (hX3.alloc _).on O5 (Ext.size hX3), fun S hg hS => ?_⟩
      have hlo1 : ∀ h, (Value.slice A1 G.length c1).ownBlock = some h → wr.heap.size ≤ h ∧ h < w3.heap.size := fun h hb => World.ownsRow.lt ho1' h hb
      have hlo2 : ∀ h, (Value.slice A2 n.length c2).ownBlock = some h → w1.heap.size ≤ h ∧ h < w3.heap.size := fun h hb => World.ownsRow.lt ho2' h hb
      refine ⟨⟨wS.heap.size, .string (strL ver), .int .u32 thr, A2, c2, .int .u8 ch, .int .u16 st, .string (strL pl), .slice A1 G.length c1⟩, fnAnswer w3.heap.size, B5, ((hm3.ext ((Ext.refl _).alloc _)).on O5 (by omega)).u, ?_, ?_, ?_, ?_, ?_, .inl ⟨rfl, rfl⟩, hg, ?_⟩
      · intro hm9
        rcases hS _ hm9 with h | h <;> dsimp only at h <;> omega
      · exact (ho2'.rd.ext ((Ext.refl _).alloc _)).on O5 (fun e => by have := (hlo2 _ e).2; omega)
      · intro h hb9
        have := hlo2 h hb9
        refine ⟨fun hm9 => ?_, by omega⟩
        rcases hS _ hm9 with h | h <;> omega
      · exact (ho1'.rd.ext ((Ext.refl _).alloc _)).on O5 (fun e => by have := (hlo1 _ e).2; omega)
      · intro h hb9
        have := hlo1 h hb9
        refine ⟨fun hm9 => ?_, by omega⟩
        rcases hS _ hm9 with h | h <;> omega
      · intro x hx9
        rcases hS x hx9 with h | h <;> omega
end Go.Proofs.YtbodppfpmpmadaaGreat

namespace Go.Proofs.YtbodppfpmpmadaaGreat
open Go.RowKit

set_option maxRecDepth 100000 in
set_option maxHeartbeats 1000000 in
theorem nonce27_c (w : World) : Calls Tryz.prog 51 #[] w (RetB w nonceT) := by
  go_enter Tryz.func51, Tryz.ntmps51
  go_wp2_with fail
  have OW0 : Own w w.heap.size (.slice none 0 0) (nonceT.take 0) := Own.nil _ _
  go_loopw [1, 2] (fun b i W => ∃ k : Nat, k ≤ 20 ∧ i = .int .i64 ((k : Int) + 1) ∧ Own W w.heap.size b (nonceT.take k) ∧ Ext w W) (fun _ i _ => 20 - ((intOf i).toNat - 1))
  case atStart => exact ⟨0, Nat.zero_le _, rfl, OW0, Ext.refl _⟩
  case round =>
    clear OW0
    obtain ⟨k, hk, rfl, ho, hx⟩ := hrel
    have HO := Lib.hid ho
    have HX := Lib.hid hx
    clear ho hx
    by_cases hkN : k < 20
    · have hb : (k : Int) + 1 ≤ 20 := by omega
      have HL := Lib.hid (show (nonceT.take k).length ≤ 20 by rw [List.length_take]; omega)
      go_wp2_with ((with_reducible show AtS 11); refine wpl_append_rd bt (HO.out.ext ((Ext.refl _).alloc _)) (rd_byte _ ((k : Int) + 1) (by omega) _ rfl) rfl _ _ rfl rfl rfl (by have := HL.out; simp only [List.length_cons, List.length_nil]; omega) (Ext.size (HX.out.alloc _)) ?_; intro v1 w1 ho1 hb1)
      rw [← nonceT_take k hkN] at ho1
      go_roundw
      case rel => exact ⟨k + 1, by omega, by go_num, ho1, (HX.out.alloc _).below hb1 (Nat.le_refl _)⟩
      case measure => simp [intOf]; omega
    · obtain rfl : k = 20 := by omega
      have hb : ¬ ((20 : Nat) : Int) + 1 ≤ 20 := by omega
      have e : nonceT.take 20 = nonceT := by decide
      have E := Lib.hid e
      clear e
      go_wp2_with fail
      go_ret
      exact ⟨_, rfl, E.out ▸ HO.out, HX.out⟩
def userN : UserV := ⟨[117], [112, 119], natL, [100], false⟩
set_option maxHeartbeats 1000000 in
theorem user27_c (w : World) : Calls Tryz.prog 48 #[] w fun e w' => e = .returned (.agg #[.string (strL [117]), .string (strL [112, 119]), .string (strL natL), .string (strL [100]), .bool false]) ∧ Ext w w' := by
  go_enter Tryz.func48, Tryz.ntmps48
  go_wp2_with (first
    | ((with_reducible show wpList _ _ _ (⟨some 0, Op.alloc _, _, _, _, _⟩ :: _) _ _); refine wpl_alloc rfl _ rfl user0 (by kernel_rfl) ?_; intro w1 B1 hx1)
    | ((with_reducible show wpList _ _ _ (⟨none, Op.store _ _ _, _, _, _, _⟩ :: _) _ _); refine wpl_store_box rfl _ _ _ rfl _ [.string (strL [117]), .string (strL [112, 119]), .string (strL natL), .string (strL [100]), .bool false] rfl rfl B1 rfl (by kernel_rfl) (by rfl) ?_; intro w2 B2 O2)
    | fail)
  try simp only [Exit.inBlock, Exit.then]
  refine ret_box1 rfl rfl rfl B2 Tryz.underlying32 rfl (by kernel_rfl) ?_
  exact ⟨rfl, hx1.on O2 (Nat.le_refl _)⟩
def greet0C : List Value := [.string ⟨#[]⟩, .int .u32 0, .slice none 0 0, .int .u32 0, .int .u8 0, .int .u16 0, .string ⟨#[]⟩]
set_option maxHeartbeats 1000000 in
theorem greeting27_c (w : World) : Calls Tryz.prog 49 #[] w fun e w' => ∃ A c, e = .returned (.agg #[.string (strL [56]), .int .u32 1, .slice A nonceT.length c, .int .u32 565760, .int .u8 45, .int .u16 2, .string (strL natL)]) ∧ Rd w' (.slice A nonceT.length c) nonceT ∧ Ext w w' := by
  obtain ⟨N, hN⟩ : ∃ N, N = nonceT.length := ⟨_, rfl⟩
  rw [← hN]
  have HN := Lib.hid hN
  clear hN
  go_enter Tryz.func49, Tryz.ntmps49
  go_wp2_with (first
    | ((with_reducible show wpList _ _ _ (⟨some 0, Op.alloc _, _, _, _, _⟩ :: _) _ _); refine wpl_alloc rfl _ rfl greet0C (by kernel_rfl) ?_; intro w1 B1 hx1)
    | (go_at_call 51; refine (nonce27_c _).mono ?_; rintro e w2 ⟨v2, rfl, ho2, hx2⟩; obtain ⟨A2, c2, hv2, _⟩ := id ho2.rd; rw [← HN.out] at hv2; subst hv2; have B2 := B1.ext hx2)
    | (go_at_call 91; refine (needed_c _).mono ?_; rintro e wx ⟨rfl, rfl⟩)
    | ((with_reducible show wpList _ _ _ (⟨none, Op.store _ _ _, _, _, _, _⟩ :: _) _ _); refine wpl_store_box rfl _ _ _ rfl _ [.string (strL [56]), .int .u32 1, .slice A2 N c2, .int .u32 565760, .int .u8 45, .int .u16 2, .string (strL natL)] rfl rfl B2 rfl (by kernel_rfl) (by rfl) ?_; intro w3 B3 O3)
    | fail)
  try simp only [Exit.inBlock, Exit.then]
  refine ret_box1 rfl rfl rfl B3 Tryz.underlying29 rfl (by kernel_rfl) ?_
  exact ⟨A2, c2, rfl, (ho2.on O3 (by have := B1.lt; omega)).rd, (hx1.trans hx2).on O3 (Nat.le_refl _)⟩
def ansL (nm pl r : List UInt8) : List UInt8 := answerB ⟨565760, 16777216, 45, nm, r, [], pl, []⟩
theorem ansL_ok (nm pl r : List UInt8) (h1 : nm.contains 0 = false) (h2 : pl.contains 0 = false) (h3 : r.length ≤ 255) : AnsOk ⟨565760, 16777216, 45, nm, r, [], pl, []⟩ :=
  ⟨by dsimp only; decide, by dsimp only; decide, by dsimp only; decide, by dsimp only; decide, h1, by dsimp only; decide, h2, .inl rfl, .inr (by dsimp only; decide), h3, by dsimp only; decide, .inl rfl⟩
set_option maxHeartbeats 1000000 in
theorem answer27_c (w : World) (nm pl r : List UInt8) (v : Value) (hr : Rd w v r) (h1 : nm.contains 0 = false) (h2 : pl.contains 0 = false) (h3 : r.length ≤ 255) (h4 : nm.length ≤ 100) (h5 : pl.length ≤ 100) :
    Calls Tryz.prog 52 #[.string (strL nm), .string (strL pl), v] w (RetB w (ansL nm pl r)) := by
  have HOK := Lib.hid (ansL_ok nm pl r h1 h2 h3)
  have HR := Lib.hid hr
  have H4 := Lib.hid h4
  have H5 := Lib.hid h5
  obtain ⟨A, c, rfl, _⟩ := hr
  obtain ⟨F, hF⟩ : ∃ F, F = ansL nm pl r := ⟨_, rfl⟩
  rw [← hF]
  have HF := Lib.hid hF
  clear h1 h2 h3 h4 h5 hF
  go_enter Tryz.func52, Tryz.ntmps52
  go_wp2_with (first
    | (go_at_call 91; refine (needed_c _).mono ?_; rintro e wx ⟨rfl, rfl⟩)
    | (go_at_call 93; refine (appendAnswer_r _ 565760 16777216 45 nm r [] pl [] _ _ HR.out (Recs.nil _ _) HOK.out (by have := H4.out; omega) (by simp) (by have := H5.out; omega) (by simp [attrsB]) (by decide)).mono ?_; rintro e w3 ⟨v3, rfl, ho3, hx3⟩)
    | fail)
  go_ret
  rw [HF.out]
  exact ⟨_, rfl, ho3, hx3⟩
end Go.Proofs.YtbodppfpmpmadaaGreat

namespace Go.Proofs.YtbodppfpmpmadaaGreat
open Go.RowKit

def rNn : List UInt8 := respP 1 [112, 119] nonceT
theorem checkE_nonceT : checkE nonceT = 0 := by decide +kernel
theorem rN_len : rNn.length = 20 := by
  unfold rNn respP
  rw [if_pos ⟨checkE_nonceT, by decide⟩, xorL_length, sumP_len 1 _ (.inl rfl), mixP_len 1 _ _ (.inl rfl)]
  rfl
theorem over_ansL (nm pl r : List UInt8) (h1 : nm.contains 0 = false) (h2 : pl.contains 0 = false) (h3 : r.length ≤ 255) : overP answerM ans0 (ansL nm pl r) = (⟨565760, 16777216, 45, nm, r, [], pl, []⟩, 0) :=
  overP_full (eats_answer _ (ansL_ok nm pl r h1 h2 h3) (fun p hp => by simp at hp) (by simp [attrsB]))
theorem both_all : bothC 565760 565760 = 565760 := by decide +kernel
theorem check_all : checkC 565760 = 0 := by decide +kernel
def d0N (h : List UInt8) : DoorV := door0 [userN] 565760 nonceT h
def d1N (h : List UInt8) (st : Int) (nx : Nat) : DoorV := ⟨[userN], 565760, nonceT, h, st, 565760, nx, userN, true, [100]⟩
theorem d0N_fit (h : List UInt8) : DoorFit (d0N h) := ⟨fun u hu => by
  have : u = userN := by simpa [d0N, door0] using hu
  subst this
  exact ⟨by decide, by decide, by decide⟩, fitU_zero, show nonceT.length = 20 by decide +kernel, show nonceOk nonceT = true by decide +kernel⟩
theorem answerP_of (D : DoorV) (l : List UInt8) (a : AnsV) (h : overP answerM ans0 l = (a, 0)) (c : Int) (hb : bothC D.gc a.caps = c) (hk : checkC c = 0) :
    answerP D l = if (whoP { D with c := c } a.user a.db).kn && a.pl == (whoP { D with c := c } a.user a.db).u.pl then lookP (whoP { D with c := c } a.user a.db) a.resp else changeP (whoP { D with c := c } a.user a.db) := by
  unfold answerP
  simp only [h, hb, hk, ↓reduceIte]
theorem feed0 (h l : List UInt8) : feedP (d0N h) l = ((answerP (d0N h) l).1, 0, (answerP (d0N h) l).2) := rfl
theorem ans_known (h pl r : List UInt8) (h2 : pl.contains 0 = false) (h3 : r.length ≤ 255) : answerP (d0N h) (ansL [117] pl r) = if pl == natL then lookP (d1N h 1 0) r else changeP (d1N h 1 0) := by
  rw [answerP_of (d0N h) _ _ (over_ansL [117] pl r (by decide) h2 h3) 565760 both_all check_all]
  have e : whoP { d0N h with c := 565760 } [117] [] = d1N h 1 0 := rfl
  dsimp only
  rw [e]
  rfl
theorem look_yes (h : List UInt8) (nx : Nat) : lookP (d1N h 1 nx) rNn = ([okL 565760], d1N h 2 nx) := by
  unfold lookP
  have e : respPl (d1N h 1 nx).u.pl (d1N h 1 nx).u.pw (d1N h 1 nx).n = rNn := rfl
  rw [e]
  have e2 : (rNn == rNn) = true := by simp
  rw [e2]
  rfl
theorem ex_right (h : List UInt8) : feedP (d0N h) (ansL [117] natL rNn) = ([okL 565760], 0, d1N h 2 0) := by
  rw [feed0, ans_known h natL rNn (by decide) (by rw [rN_len]; decide), if_pos (by decide), look_yes]
theorem okL_head : ∃ t, okL 565760 = 0 :: t := ⟨_, rfl⟩
theorem goodN : GoodU [userN] := fun k hk => by
  have : k = 0 := by simpa using hk
  subst this
  exact ⟨by decide +kernel, rfl⟩
theorem DoorIs.ext {w w' : World} {S : List Nat} {g : Nat} {D : DoorV} (h : DoorIs w S g D) (k : Ext w w') : DoorIs w' S g D := by
  obtain ⟨K, fv, h⟩ := h
  exact ⟨K, fv, h.ext k⟩
theorem DoorIs.on {w w' : World} {S : List Nat} {g b : Nat} {D : DoorV} (h : DoorIs w S g D) (k : On b w w') (hb : b ∈ S) (hne : g ≠ b) : DoorIs w' S g D := by
  obtain ⟨K, fv, h⟩ := h
  exact ⟨K, fv, h.on k hb hne⟩
theorem recs_one (w : World) (u : UserV) (t : TypeId) : Recs (w.alloc (.cells #[.string (strL u.name), .string (strL u.pw), .string (strL u.pl), .string (strL u.sc), .bool u.adm] t)) 5 (.slice (some ⟨w.heap.size, 0, none⟩) 1 1) [userC u] := by
  refine ⟨_, 1, rfl, Nat.le_refl _, by unfold maxLen; simp, fun _ => ⟨w.heap.size, 0, rfl, fun j hj => ?_⟩⟩
  have : j = 0 := by simpa using hj
  subst this
  intro i v hv
  have h9 := (Box.new w (userC u) t).range i v hv
  rw [show 0 + 0 * 5 + i = 0 + i by omega]
  exact h9
theorem ListsN.head {w : World} {base : Nat} {v : Value} {x : UInt8} {t : List UInt8} {r : List (List UInt8)} (h : ListsN w base v ((x :: t) :: r)) :
    ∃ b o cap b2 o2 c2 M, v = .slice (some ⟨b, o, none⟩) (r.length + 1) cap ∧ 0 < M ∧ w.cell? ⟨b, o, none⟩ = some (.slice (some ⟨b2, o2, none⟩) M c2) ∧ w.cell? ⟨b2, o2, none⟩ = some (.int .u8 (x.toNat : Int)) := by
  obtain ⟨A, cap, hv, hc1, hc2, hcs⟩ := h
  obtain ⟨b, o, rfl, _, hcell⟩ := hcs (by simp)
  obtain ⟨u, hu, hr⟩ := hcell 0 (by simp)
  obtain ⟨A2, c2, rfl, _, _, _, hz⟩ := hr.rd
  obtain ⟨b2, o2, rfl, hcell2⟩ := hz (by simp)
  have p := hcell2 0 (by simp)
  rw [Nat.add_zero] at hu p
  exact ⟨b, o, cap, b2, o2, c2, _, hv, by simp, hu, p⟩
end Go.Proofs.YtbodppfpmpmadaaGreat

namespace Go.Proofs.YtbodppfpmpmadaaGreat
open Go.RowKit

theorem newN_c (w : World) (v : Value) (A : Option Addr) (c : Nat) (hus : Recs w 5 v [userC userN]) (hn : Rd w (.slice A nonceT.length c) nonceT) :
    Calls Tryz.prog 21 #[v, .agg #[.string (strL [56]), .int .u32 1, .slice A nonceT.length c, .int .u32 565760, .int .u8 45, .int .u16 2, .string (strL natL)]] w fun e w' => ∃ g, e = .returned (.tuple #[.pointer (some ⟨g, 0, none⟩), .int .i64 0]) ∧
      w.heap.size ≤ g ∧ g < w'.heap.size ∧ Ext w w' ∧ ∀ S : List Nat, g ∈ S → (∀ x ∈ S, x = g ∨ x < w.heap.size) → DoorIs w' S g (d0N (greetBs [56] 1 nonceT 565760 45 2 natL)) :=
  newDoor_ok w v [userN] [56] nonceT natL 1 565760 45 2 _ hus goodN (by decide) hn (by decide) (by decide) (by decide +kernel) (by decide +kernel) (by decide) (.inr (by decide)) (by omega) (by omega) (by omega) (by omega) (by decide) (by decide) check_all
theorem ntvN_c (w : World) (v : Value) (hn : Rd w v nonceT) : Calls Tryz.prog 50 #[.string ⟨#[112, 119]⟩, v] w fun e w' => ∃ A c, e = .returned (.tuple #[.slice A 20 c, .int .i64 0]) ∧ Rd w' (.slice A 20 c) rNn ∧ Ext w w' := by
  refine (ntv_c w ⟨#[112, 119]⟩ v nonceT (by decide) hn).mono ?_
  rw [checkE_nonceT]
  rintro e w' ⟨v', rfl, hr, hx⟩
  have hr2 : Rd w' v' rNn := hr
  obtain ⟨A, c, hv, _⟩ := id hr2
  rw [rN_len] at hv
  subst hv
  exact ⟨A, c, rfl, hr2, hx⟩
set_option maxRecDepth 100000 in
set_option maxHeartbeats 2000000 in
theorem lives27_c (w : World) : Calls Tryz.prog 17 #[] w fun e w' => e = .returned (.bool true) ∧ Ext w w' := by
  obtain ⟨H, hH⟩ : ∃ H, H = greetBs [56] 1 nonceT 565760 45 2 natL := ⟨_, rfl⟩
  have HH := Lib.hid hH
  obtain ⟨F, hF⟩ : ∃ F, F = ansL [117] natL rNn := ⟨_, rfl⟩
  have HF := Lib.hid hF
  have HE := Lib.hid (show feedP (d0N H) F = ([okL 565760], 0, d1N H 2 0) by rw [hF]; exact ex_right H)
  have HFL := Lib.hid (show F.length ≤ 900000 by rw [hF]; decide +kernel)
  have HRL := Lib.hid rN_len
  clear hH hF
  go_enter Tryz.func17, Tryz.ntmps17
  have tok1 : True := trivial
  go_wp2_with (first
    | (go_at_call 48; have _t := tok1; refine (user27_c _).mono ?_; rintro e w1 ⟨rfl, hx1⟩; clear tok1)
    | (go_at_call 49; refine (greeting27_c _).mono ?_; rintro e w2 ⟨A2, c2, rfl, hr2, hx2⟩)
    | (go_at_call 21; refine (newN_c _ _ A2 c2 ((recs_one w1 userN _).ext hx2) hr2).mono ?_; rw [← HH.out]; rintro e w3 ⟨g, rfl, hg1, hg2, hx3, hd3⟩; have hX3 : Ext w w3 := ((hx1.alloc _).trans hx2).trans hx3)
    | (go_at_call 51; refine (nonce27_c _).mono ?_; rintro e w4 ⟨v4, rfl, ho4, hx4⟩)
    | (go_at_call 50; refine (ntvN_c _ _ ho4.rd).mono ?_; rintro e w5 ⟨A5, c5, rfl, hr5, hx5⟩)
    | (go_at_call 52; refine (answer27_c _ [117] natL rNn _ hr5 (by decide) (by decide) (by rw [HRL.out]; decide) (by decide) (by decide)).mono ?_; rw [← HF.out]; rintro e w6 ⟨v6, rfl, ho6, hx6⟩)
    | (go_at_call 6; refine (feed_d _ [g] g (d0N H) F _ ((hd3 [g] (by simp) (by intro x hx; left; simpa using hx)).ext ((hx4.trans hx5).trans hx6)) ho6.rd HFL.out (d0N_fit H)).mono ?_; rw [HE.out]; rintro e w7 ⟨v7, rfl, hl7, ⟨K, fv, hd7⟩, O7⟩; obtain ⟨t7, ht7⟩ := okL_head; rw [ht7] at hl7; obtain ⟨b7, o7, k7, b8, o8, c8, M8, rfl, hM8, p7, p8⟩ := hl7.head; have hM9 : (M8 : Int) > 0 := (by omega); have c9 : w7.cell? ⟨g, 9, none⟩ = some (.int .i64 2) := hd7.box.at (j := 9) rfl; have c18 : w7.cell? ⟨g, 18, none⟩ = some (.string (strL [100])) := hd7.box.at (j := 18) rfl; have hO7 : Ext w w7 := (((hX3.trans hx4).trans hx5).trans hx6).on O7 (by have := Ext.size hx1; have := Ext.size hx2; simp at this; omega))
    | (go_at_call 10; refine (dstate_c _ g 2 c9).mono ?_; rintro e wx ⟨rfl, rfl⟩)
    | (go_at_call 12; refine (duser_c _ g _ 2 [117] [112, 119] natL [100] false hd7.box rfl rfl).mono ?_; rintro e w9 ⟨rfl, hx9⟩)
    | (go_at_call 48; refine (user27_c _).mono ?_; rintro e w10 ⟨rfl, hx10⟩; have d9 := Ext.cell (hx9.trans hx10) c9; have d18 := Ext.cell (hx9.trans hx10) c18)
    | (go_at_call 13; refine (dschema_c _ g 2 (strL [100]) d9 d18).mono ?_; rintro e wx ⟨rfl, rfl⟩)
    | fail)
  go_ret
  exact ⟨congrArg (fun z => Ending.returned (.bool z)) (by rw [strL_tl]; rfl), (hO7.trans hx9).trans hx10⟩
end Go.Proofs.YtbodppfpmpmadaaGreat

