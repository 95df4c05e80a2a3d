import Derived.Test.YtbodppfpmpmadaaGreatL11C
import Derived.Test.YtbodppfpmpmadaaGreatL7C
import Derived.Test.YtbodppfpmpmadaaGreatGrK1C
import Derived.Test.YtbodppfpmpmadaaGreatGrK2C
import Derived.Test.YtbodppfpmpmadaaGreatGrK3C
import Derived.Test.YtbodppfpmpmadaaGreatGrK4C
namespace Go.Proofs.YtbodppfpmpmadaaGreat
open Go.RowKit

def Off (w : World) (S : List Nat) (v : Value) : Prop := ∀ h, v.ownBlock = some h → h ∉ S ∧ h < w.heap.size
theorem Off.mono {w w' : World} {S : List Nat} {v : Value} (h : Off w S v) (k : w.heap.size ≤ w'.heap.size) : Off w' S v := fun b hb => ⟨(h b hb).1, Nat.lt_of_lt_of_le (h b hb).2 k⟩
theorem Off.ne {w : World} {S : List Nat} {v : Value} {g : Nat} (h : Off w S v) (hg : g ∈ S) : v.ownBlock ≠ some g := fun e => (h g e).1 hg
theorem Off.more {w : World} {S S' : List Nat} {v : Value} (h : Off w S v) (k : ∀ x ∈ S', x ∈ S ∨ w.heap.size ≤ x) : Off w S' v := fun b hb => ⟨fun hm => by
  rcases k b hm with h1 | h1
  · exact (h b hb).1 h1
  · have := (h b hb).2; omega, (h b hb).2⟩
structure DoorK where
  b : Nat
  v1 : Value
  v2 : Value
  A : Option Addr
  cp : Nat
  v5 : Value
  v6 : Value
  v7 : Value
  vh : Value
def dcs (K : DoorK) (D : DoorV) (fv : Value) : List Value :=
  [.map (some K.b), K.v1, K.v2, .slice K.A D.n.length K.cp, .int .u32 D.gc, K.v5, K.v6, K.v7, K.vh, .int .i64 D.st, .int .u32 D.c, fv, .string (strL D.u.name), .string (strL D.u.pw), .string (strL D.u.pl), .string (strL D.u.sc), .bool D.u.adm, .bool D.kn, .string (strL D.sc)]
def fnAnswer (g : Nat) : Value := .func (.func 57) #[.pointer (some ⟨g, 0, none⟩)] #[]
def FnIs (w : World) (S : List Nat) (g : Nat) (nx : Nat) (fv : Value) : Prop :=
  (nx = 0 ∧ fv = fnAnswer g) ∨ (nx = 1 ∧ fv = fnLook g) ∨ (nx = 2 ∧ fv = fnFull g) ∨
    (3 ≤ nx ∧ ∃ h, fv = fnNobody h ∧ w.cell? ⟨h, 0, none⟩ = some (.pointer (some ⟨g, 0, none⟩)) ∧ h ∉ S)
theorem FnIs.on {w w' : World} {S : List Nat} {g nx b : Nat} {fv : Value} (h : FnIs w S g nx fv) (k : On b w w') (hb : b ∈ S) : FnIs w' S g nx fv := by
  rcases h with h | h | h | ⟨h0, x, h1, h2, h3⟩
  · exact .inl h
  · exact .inr (.inl h)
  · exact .inr (.inr (.inl h))
  · exact .inr (.inr (.inr ⟨h0, x, h1, k.cell h2 (fun e => h3 (by rw [show x = b from e]; exact hb)), h3⟩))
theorem FnIs.ext {w w' : World} {S : List Nat} {g nx : Nat} {fv : Value} (h : FnIs w S g nx fv) (k : Ext w w') : FnIs w' S g nx fv := by
  rcases h with h | h | h | ⟨h0, x, h1, h2, h3⟩
  · exact .inl h
  · exact .inr (.inl h)
  · exact .inr (.inr (.inl h))
  · exact .inr (.inr (.inr ⟨h0, x, h1, k.cell h2, h3⟩))
theorem FnIs.more {w : World} {S S' : List Nat} {g nx : Nat} {fv : Value} (h : FnIs w S g nx fv) (k : ∀ x ∈ S', x ∈ S ∨ w.heap.size ≤ x) : FnIs w S' g nx fv := by
  rcases h with h | h | h | ⟨h0, x, h1, h2, h3⟩
  · exact .inl h
  · exact .inr (.inl h)
  · exact .inr (.inr (.inl h))
  · refine .inr (.inr (.inr ⟨h0, x, h1, h2, fun hm => ?_⟩))
    rcases k x hm with h4 | h4
    · exact h3 h4
    · have := World.block_lt_of_cell? w _ h2
      dsimp only at this
      omega
structure DoorAt (w : World) (S : List Nat) (g : Nat) (D : DoorV) (K : DoorK) (fv : Value) : Prop where
  box : BoxF w g (dcs K D fv)
  map : MapU w K.b D.us
  bS : K.b ∉ S
  nr : Rd w (.slice K.A D.n.length K.cp) D.n
  nS : Off w S (.slice K.A D.n.length K.cp)
  hr : Rd w K.vh D.hello
  hS : Off w S K.vh
  fn : FnIs w S g D.nx fv
  gS : g ∈ S
  lt : ∀ x ∈ S, x < w.heap.size
theorem DoorAt.ext {w w' : World} {S : List Nat} {g : Nat} {D : DoorV} {K : DoorK} {fv : Value} (h : DoorAt w S g D K fv) (k : Ext w w') : DoorAt w' S g D K fv :=
  ⟨h.box.ext k, h.map.ext k, h.bS, h.nr.ext k, h.nS.mono (Ext.size k), h.hr.ext k, h.hS.mono (Ext.size k), h.fn.ext k, h.gS, fun x hx => Nat.lt_of_lt_of_le (h.lt x hx) (Ext.size k)⟩
theorem DoorAt.on {w w' : World} {S : List Nat} {g b : Nat} {D : DoorV} {K : DoorK} {fv : Value} (h : DoorAt w S g D K fv) (k : On b w w') (hb : b ∈ S) (hne : g ≠ b) : DoorAt w' S g D K fv :=
  ⟨h.box.on k hne, h.map.on k (fun e => h.bS (e ▸ hb)), h.bS, h.nr.on k (h.nS.ne hb), h.nS.mono k.size, h.hr.on k (h.hS.ne hb), h.hS.mono k.size, h.fn.on k hb, h.gS, fun x hx => Nat.lt_of_lt_of_le (h.lt x hx) k.size⟩
theorem DoorAt.more {w : World} {S S' : List Nat} {g : Nat} {D : DoorV} {K : DoorK} {fv : Value} (h : DoorAt w S g D K fv) (k : ∀ x ∈ S', x ∈ S ∨ w.heap.size ≤ x) {w' : World} (k2 : Ext w w') (hlt : ∀ x ∈ S', x < w'.heap.size) (hs : ∀ x ∈ S, x ∈ S') : DoorAt w' S' g D K fv :=
  ⟨h.box.ext k2, h.map.ext k2, fun hm => by
    rcases k _ hm with h1 | h1
    · exact h.bS h1
    · have := h.map.lt; omega, h.nr.ext k2, (h.nS.more k).mono (Ext.size k2), h.hr.ext k2, (h.hS.more k).mono (Ext.size k2), (h.fn.more k).ext k2, hs _ h.gS, hlt⟩
theorem DoorAt.turn {w w' : World} {S : List Nat} {g : Nat} {D D' : DoorV} {K : DoorK} {fv fv' : Value} (h : DoorAt w S g D K fv) (k : On g w w') (hb : BoxF w' g (dcs K D' fv')) (hu : D'.us = D.us) (hn : D'.n = D.n) (hh : D'.hello = D.hello) (hf : FnIs w' S g D'.nx fv') : DoorAt w' S g D' K fv' :=
  ⟨hb, by rw [hu]; exact h.map.on k (fun e => h.bS (e ▸ h.gS)), h.bS, by rw [hn]; exact h.nr.on k (h.nS.ne h.gS), by rw [hn]; exact h.nS.mono k.size, by rw [hh]; exact h.hr.on k (h.hS.ne h.gS), h.hS.mono k.size, hf, h.gS, fun x hx => Nat.lt_of_lt_of_le (h.lt x hx) k.size⟩
def DoorIs (w : World) (S : List Nat) (g : Nat) (D : DoorV) : Prop := ∃ K fv, DoorAt w S g D K fv
def RetD (w : World) (S : List Nat) (g : Nat) (r : List (List UInt8) × DoorV) (e : Ending) (w' : World) : Prop :=
  ∃ v, e = .returned v ∧ ListsN w' w.heap.size v r.1 ∧ DoorIs w' S g r.2 ∧ On g w w'
structure DoorOk (D : DoorV) : Prop where
  pw : D.u.pw.length ≤ 1000000
  pl : D.u.pl.length ≤ 10000
  sw : switchOk (D.u.pl, D.n)

theorem look_d (w : World) (S : List Nat) (g : Nat) (D : DoorV) (l : List UInt8) (vb : Value) (h : DoorIs w S g D) (hp : D.u.pw.length ≤ 1000000) (hr : Rd w vb l) :
    Calls Tryz.prog 87 #[.pointer (some ⟨g, 0, none⟩), vb] w (RetD w S g (lookP D l)) := by
  obtain ⟨K, fv, h⟩ := h
  cases hpl : D.u.pl == natL with
  | true =>
    have e : D.u.pl = natL := by simpa using hpl
    have hrp : respPl D.u.pl D.u.pw D.n = respP 1 D.u.pw D.n := by rw [e]; rfl
    refine (look_nat w g (dcs K D fv) D.c D.u.pw l D.n vb K.A D.n.length K.cp h.box rfl rfl rfl rfl (by unfold dcs; rw [e]; rfl) h.nr hr hp).mono ?_
    rintro e' w' ⟨v, rfl, hl, hb, hO⟩
    unfold lookP
    rw [hrp, hpl]
    cases hq : l == respP 1 D.u.pw D.n with
    | true =>
      rw [hq] at hl hb
      exact ⟨v, rfl, hl, ⟨K, fv, h.turn hO (D' := { D with st := 2 }) hb rfl rfl rfl (h.fn.on hO h.gS)⟩, hO⟩
    | false =>
      rw [hq] at hl hb
      exact ⟨v, rfl, hl, ⟨K, fv, h.turn hO (D' := { D with st := 3 }) hb rfl rfl rfl (h.fn.on hO h.gS)⟩, hO⟩
  | false =>
    cases hq : l == respPl D.u.pl D.u.pw D.n with
    | true =>
      refine (look_right w g (dcs K D fv) D.c D.u.pl D.u.pw l D.n vb K.A D.n.length K.cp h.box rfl rfl rfl rfl rfl hpl h.nr hr hp hq).mono ?_
      rintro e' w' ⟨v, rfl, hl, hb, hO⟩
      unfold lookP
      rw [hpl, hq]
      cases he : l.isEmpty with
      | true =>
        rw [he] at hl
        exact ⟨v, rfl, hl, ⟨K, fv, h.turn hO (D' := { D with st := 2 }) hb rfl rfl rfl (h.fn.on hO h.gS)⟩, hO⟩
      | false =>
        rw [he] at hl
        exact ⟨v, rfl, hl, ⟨K, fv, h.turn hO (D' := { D with st := 2 }) hb rfl rfl rfl (h.fn.on hO h.gS)⟩, hO⟩
    | false =>
      refine (look_ask w g (dcs K D fv) D.u.pl D.u.pw l D.n vb K.A D.n.length K.cp h.box rfl rfl rfl rfl hpl h.nr hr hp hq).mono ?_
      rintro e' w' ⟨v, rfl, hl, hb, hO⟩
      unfold lookP
      rw [hpl, hq]
      exact ⟨v, rfl, hl, ⟨K, fnFull g, h.turn hO (D' := { D with nx := 2 }) hb rfl rfl rfl (.inr (.inr (.inl ⟨rfl, rfl⟩)))⟩, hO⟩
theorem full_d (w : World) (S : List Nat) (g : Nat) (D : DoorV) (l : List UInt8) (vb : Value) (h : DoorIs w S g D) (hp : D.u.pw.length ≤ 1000000) (hr : Rd w vb l) :
    Calls Tryz.prog 142 #[.pointer (some ⟨g, 0, none⟩), vb] w (RetD w S g (fullP D l)) := by
  obtain ⟨K, fv, h⟩ := h
  refine (full_c w g (dcs K D fv) D.c D.u.pw l vb h.box rfl rfl rfl hr hp).mono ?_
  rintro e' w' ⟨v, rfl, hl, hb, hO⟩
  unfold fullP
  cases hq : l == D.u.pw ++ [0] with
  | true =>
    rw [hq] at hl hb
    exact ⟨v, rfl, hl, ⟨K, fv, h.turn hO (D' := { D with st := 2 }) hb rfl rfl rfl (h.fn.on hO h.gS)⟩, hO⟩
  | false =>
    rw [hq] at hl hb
    exact ⟨v, rfl, hl, ⟨K, fv, h.turn hO (D' := { D with st := 3 }) hb rfl rfl rfl (h.fn.on hO h.gS)⟩, hO⟩
theorem change_d (w : World) (S : List Nat) (g : Nat) (D : DoorV) (h : DoorIs w S g D) (hok : switchOk (D.u.pl, D.n)) (hp : D.u.pl.length ≤ 10000) :
    Calls Tryz.prog 45 #[.pointer (some ⟨g, 0, none⟩)] w (RetD w S g (changeP D)) := by
  obtain ⟨K, fv, h⟩ := h
  obtain ⟨us, gc, n, hello, st, c, nx, u, kn, sc⟩ := D
  cases kn with
  | true =>
    refine (dchange_known w g (dcs K ⟨us, gc, n, hello, st, c, nx, u, true, sc⟩ fv) u.pl n K.A n.length K.cp h.box rfl rfl rfl rfl (fun w' k => h.nr.on k (h.nS.ne h.gS)) hok hp).mono ?_
    rintro e' w' ⟨v, rfl, hl, hb, hO⟩
    exact ⟨v, rfl, hl, ⟨K, fnLook g, h.turn hO (D' := ⟨us, gc, n, hello, st, c, 1, u, true, sc⟩) hb rfl rfl rfl (.inr (.inl ⟨rfl, rfl⟩))⟩, hO⟩
  | false =>
    have hok2 : switchOk (natL, n) := ⟨by show natL.contains 0 = false; decide, hok.2⟩
    refine (dchange_unknown w g (dcs K ⟨us, gc, n, hello, st, c, nx, u, false, sc⟩ fv) n K.A n.length K.cp h.box rfl rfl rfl (fun w' k => h.nr.on k (h.nS.ne h.gS)) hok2).mono ?_
    rintro e' w' ⟨v, x, rfl, hx, hxn, hl, hb, hO⟩
    exact ⟨v, rfl, hl, ⟨K, fnNobody x, h.turn hO (D' := ⟨us, gc, n, hello, st, c, 3, u, false, sc⟩) hb rfl rfl rfl (.inr (.inr (.inr ⟨Nat.le_refl _, x, rfl, hx, fun hm => by have := h.lt x hm; omega⟩)))⟩, hO⟩
theorem who_d (w : World) (S : List Nat) (g : Nat) (D : DoorV) (nm sc : List UInt8) (K : DoorK) (fv : Value) (h : DoorAt w S g D K fv) (hn : nm.length ≤ 1000000) :
    Calls Tryz.prog 44 #[.pointer (some ⟨g, 0, none⟩), .string (strL nm), .string (strL sc)] w fun e w' => e = .returned (.tuple #[]) ∧ DoorAt w' S g (whoP D nm sc) K fv ∧ On g w w' := by
  obtain ⟨u, hu⟩ : ∃ u, (findU D.us nm).getD userZ = u := ⟨_, rfl⟩
  obtain ⟨kn, hk⟩ : ∃ kn, (findU D.us nm).isSome = kn := ⟨_, rfl⟩
  have hlk := h.map.look nm (by unfold maxLen; omega) hu hk
  unfold whoP
  rw [hu, hk]
  obtain ⟨u1, u2, u3, u4, ad⟩ := u
  refine (who_c w g K.b (dcs K D fv) (strL nm) sc u1 u2 u3 u4 ad kn h.box rfl rfl hlk).mono ?_
  rintro e w' ⟨rfl, hb, hO⟩
  exact ⟨rfl, h.turn hO (D' := { D with u := ⟨u1, u2, u3, u4, ad⟩, kn := kn, sc := if sc.isEmpty then u4 else sc }) hb rfl rfl rfl (h.fn.on hO h.gS), hO⟩
end Go.Proofs.YtbodppfpmpmadaaGreat

namespace Go.Proofs.YtbodppfpmpmadaaGreat
open Go.RowKit

theorem readAnswer_f (w : World) (v : Value) (l : List UInt8) (hr : Rd w v l) (hl : l.length ≤ 900000) : Calls Tryz.prog 99 #[v] w (RetAnsF w (overP answerM ans0 l)) := by
  by_cases he : (overP answerM ans0 l).2 = 0
  · cases hk : hasC ((rX 4 (l, 0)).1 % 4294967296) 2097152 with
    | true => exact readAnswer_la w v l hr hl hk he
    | false => exact readAnswer_ra w v l hr hl hk he
  · cases hk : hasC ((rX 4 (l, 0)).1 % 4294967296) 2097152 with
    | true => exact readAnswer_lz w v l hr hl hk he
    | false => exact readAnswer_rz w v l hr hl hk he
end Go.Proofs.YtbodppfpmpmadaaGreat

namespace Go.Proofs.YtbodppfpmpmadaaGreat
open Go.RowKit

theorem endB_ge {f : Bool} {s : List UInt8} (h : s = [] ∨ f = true) : s.length ≤ (endB f s).length := by
  rcases h with rfl | rfl
  · simp
  · simp [endB]
theorem ans_sizes {a : AnsV} {n : Nat} (h : AnsOk a) (hl : (answerB a).length ≤ n) : a.user.length ≤ n ∧ a.db.length ≤ n ∧ a.pl.length ≤ n := by
  have h1 := endB_ge h.dbF
  have h2 := endB_ge h.plF
  simp only [answerB, List.length_append, List.length_cons, List.length_nil] at hl
  omega
theorem chg_sizes {c : Int} {a : ChgV} {n : Nat} (h : ChgOk c a) (hl : (changeB c a).length ≤ n) : a.user.length ≤ n ∧ a.db.length ≤ n ∧ a.pl.length ≤ n := by
  have h2 := endB_ge h.plF
  simp only [changeB, List.length_append, List.length_cons, List.length_nil] at hl
  omega
theorem readChange_s (w : World) (c0 : Int) (v : Value) (L user resp db pl : List UInt8) (ch er : Int) (ps : Pairs) (hr : Rd w v L) (hl : L.length ≤ 900000) (h : overP (changeM c0) chgV0 L = (⟨user, resp, db, ch, pl, ps⟩, er)) :
    Calls Tryz.prog 40 #[v, .int .u32 c0] w fun e w' => ∃ A k c B m d, e = .returned (.tuple #[.agg #[.string (strL user), .slice A k c, .string (strL db), .int .u16 ch, .string (strL pl), .slice B m d], .int .i64 er]) ∧ Rd w' (.slice A k c) resp ∧ Attrs w' (.slice B m d) ps ∧ Ext w w' := by
  refine (readChange_g w c0 v L hr hl).mono ?_
  rw [h]
  rintro e w' ⟨vr, va, rfl, hr2, ha2, hx⟩
  obtain ⟨A, c, hv, _⟩ := id hr2
  obtain ⟨B, d, hv2, _⟩ := Recs.shape ha2
  subst hv hv2
  exact ⟨A, _, c, B, _, d, rfl, hr2, ha2, hx⟩
end Go.Proofs.YtbodppfpmpmadaaGreat

namespace Go.Proofs.YtbodppfpmpmadaaGreat
open Go.RowKit

theorem DoorIs.dfail {w w1 : World} {S : List Nat} {g : Nat} {D : DoorV} {K : DoorK} {fv : Value} (h : DoorAt w S g D K fv) (hO : On g w w1) (hb : BoxF w1 g ((dcs K D fv).set 9 (.int .i64 3))) : DoorIs w1 S g { D with st := 3 } :=
  ⟨K, fv, h.turn hO (D' := { D with st := 3 }) hb rfl rfl rfl (h.fn.on hO h.gS)⟩
theorem readAnswer_o (w : World) (v : Value) (L user resp db pl : List UInt8) (caps most ch er : Int) (ps : Pairs) (hr : Rd w v L) (hl : L.length ≤ 900000) (h : overP answerM ans0 L = (⟨caps, most, ch, user, resp, db, pl, ps⟩, er)) :
    Calls Tryz.prog 99 #[v] w fun e w' => ∃ A k c B m d, e = .returned (.tuple #[.agg #[.int .u32 caps, .int .u32 most, .int .u8 ch, .string (strL user), .slice A k c, .string (strL db), .string (strL pl), .slice B m d], .int .i64 er]) ∧ Rd w' (.slice A k c) resp ∧ Ext w w' ∧ ∀ h, (Value.slice A k c).ownBlock = some h → w.heap.size ≤ h := by
  refine (readAnswer_f w v L hr hl).mono ?_
  rw [h]
  rintro e w' ⟨vr, va, rfl, hr2, ha2, hx, hn⟩
  obtain ⟨A, c, hv, _⟩ := id hr2
  obtain ⟨B, d, hv2, _⟩ := Recs.shape ha2
  subst hv hv2
  exact ⟨A, _, c, B, _, d, rfl, hr2, hx, hn⟩
def ans0C : List Value := [.int .u32 0, .int .u32 0, .int .u8 0, .string ⟨#[]⟩, .slice none 0 0, .string ⟨#[]⟩, .string ⟨#[]⟩, .slice none 0 0]
set_option maxHeartbeats 2000000 in
theorem answer_bad (w : World) (S : List Nat) (g : Nat) (D : DoorV) (l : List UInt8) (vb : Value) (h : DoorIs w S g D) (hr : Rd w vb l) (hl : l.length ≤ 900000) (he : (overP answerM ans0 l).2 ≠ 0) :
    Calls Tryz.prog 57 #[.pointer (some ⟨g, 0, none⟩), vb] w (RetD w S g ([oddL], { D with st := 3 })) := by
  obtain ⟨K, fv, h⟩ := h
  obtain ⟨⟨⟨caps, most, ch, user, resp, db, pl, ps⟩, er⟩, hA⟩ : ∃ x, overP answerM ans0 l = x := ⟨_, rfl⟩
  rw [hA] at he
  have hq : (er != 0) = true := by simpa using he
  have HA := Lib.hid hA
  have HR := Lib.hid hr
  have HL := Lib.hid hl
  have HH := Lib.hid h
  obtain ⟨Ab, cb, rfl, _⟩ := hr
  clear hA hl h he
  go_enter Tryz.func57, Tryz.ntmps57
  go_wp2_with (first
    | (go_at_call 99; refine (readAnswer_o _ _ l user resp db pl caps most ch er ps HR.out HL.out HA.out).mono ?_; rintro e w1 ⟨A1, k1, c1, A2, k2, c2, rfl, _, hx1, _⟩)
    | ((with_reducible show wpList _ _ _ (⟨some 5, Op.alloc _, _, _, _, _⟩ :: _) _ _); refine wpl_alloc rfl _ rfl ans0C (by kernel_rfl) ?_; intro w2 B2 hx2)
    | ((with_reducible show wpList _ _ _ (⟨none, Op.store _ _ _, _, _, _, _⟩ :: _) _ _); refine wpl_store_box rfl _ _ _ rfl _ [.int .u32 caps, .int .u32 most, .int .u8 ch, .string (strL user), .slice A1 k1 c1, .string (strL db), .string (strL pl), .slice A2 k2 c2] rfl rfl B2 rfl (by kernel_rfl) (by rfl) ?_; intro w3 B3 O3; have hx3 : Ext w w3 := (hx1.trans hx2).on O3 (Ext.size hx1))
    | (go_at_call 42; refine (odd_c _).mono ?_; rintro e w4 ⟨v4, rfl, hl4, hx4⟩; have hx5 := hx3.trans hx4)
    | (go_at_call 41; refine (dfail_c _ g (dcs K D fv) _ (HH.out.box.ext hx5) rfl).mono ?_; rintro e w6 ⟨rfl, B6, O6⟩)
    | fail)
  go_ret
  have hO : On g w w6 := (On.of hx5).trans O6
  exact ⟨_, rfl, (hl4.on O6 (Nat.lt_of_lt_of_le HH.out.box.lt (Ext.size hx3))).more (Ext.size hx3), DoorIs.dfail HH.out hO B6, hO⟩
end Go.Proofs.YtbodppfpmpmadaaGreat

namespace Go.Proofs.YtbodppfpmpmadaaGreat
open Go.RowKit

theorem RetD.from {w w1 w' : World} {S : List Nat} {g : Nat} {r : List (List UInt8) × DoorV} {e : Ending} (hO : On g w w1) (h : RetD w1 S g r e w') : RetD w S g r e w' := by
  obtain ⟨v, rfl, h1, h2, h3⟩ := h
  exact ⟨v, rfl, h1.more hO.size, h2, hO.trans h3⟩
set_option maxHeartbeats 2000000 in
theorem answer_odd (w : World) (S : List Nat) (g : Nat) (D : DoorV) (l user resp db pl : List UInt8) (caps most ch : Int) (ps : Pairs) (vb : Value) (h : DoorIs w S g D) (hr : Rd w vb l) (hl : l.length ≤ 900000) (hA : overP answerM ans0 l = (⟨caps, most, ch, user, resp, db, pl, ps⟩, 0)) (hk : checkC (bothC D.gc caps) ≠ 0) :
    Calls Tryz.prog 57 #[.pointer (some ⟨g, 0, none⟩), vb] w (RetD w S g ([oddL], { D with st := 3 })) := by
  obtain ⟨K, fv, h⟩ := h
  obtain ⟨gc, hgc⟩ : ∃ gc, gc = D.gc := ⟨_, rfl⟩
  obtain ⟨c, hc⟩ : ∃ c, bothC gc caps = c := ⟨_, rfl⟩
  rw [← hgc] at hk
  rw [hc] at hk
  have HA := Lib.hid hA
  have HR := Lib.hid hr
  have HL := Lib.hid hl
  have HH := Lib.hid h
  have HC := Lib.hid hc
  have HK := Lib.hid hk
  have HGC := Lib.hid hgc
  obtain ⟨Ab, cb, rfl, _⟩ := hr
  obtain ⟨ck, hck⟩ : ∃ ck, checkC c = ck := ⟨_, rfl⟩
  have HCK := Lib.hid hck
  rw [hck] at hk
  have hq : (ck != 0) = true := by simpa using hk
  clear hA hl h hc hgc hk hck
  go_enter Tryz.func57, Tryz.ntmps57
  go_wp2_with (first
    | (go_at_call 99; refine (readAnswer_o _ _ l user resp db pl caps most ch 0 ps HR.out HL.out HA.out).mono ?_; rintro e w1 ⟨A1, k1, c1, A2, k2, c2, rfl, hr1, hx1, hn1⟩)
    | ((with_reducible show wpList _ _ _ (⟨some 5, Op.alloc _, _, _, _, _⟩ :: _) _ _); refine wpl_alloc rfl _ rfl ans0C (by kernel_rfl) ?_; intro w2 B2 hx2)
    | ((with_reducible show wpList _ _ _ (⟨none, Op.store _ _ _, _, _, _, _⟩ :: _) _ _); refine wpl_store_box rfl _ _ _ rfl _ [.int .u32 caps, .int .u32 most, .int .u8 ch, .string (strL user), .slice A1 k1 c1, .string (strL db), .string (strL pl), .slice A2 k2 c2] rfl rfl B2 rfl (by kernel_rfl) (by rfl) ?_; intro w3 B3 O3; have hx3 : Ext w w3 := (hx1.trans hx2).on O3 (Ext.size hx1); have d4 : w3.cell? ⟨g, 4, none⟩ = some (.int .u32 gc) := (HH.out.box.ext hx3).at (j := 4) (by rw [HGC.out]; rfl); have b0 := B3.at (j := 0) rfl)
    | fail)
  have HX3 := Lib.hid hx3
  have HX1 := Lib.hid hx1
  have HB3 := Lib.hid B3
  have HR1 := Lib.hid hr1
  have HX13 := Lib.hid (show Ext w1 w3 from hx2.on O3 (Nat.le_refl _))
  have HNE := Lib.hid (show (Value.slice A1 k1 c1).ownBlock ≠ some g from fun e => by have := hn1 g e; have := HH.out.box.lt; omega)
  clear hx3 B2 B3 hr1 hx1 hx2 O3 hn1
  have hY := Ext.refl w3
  go_region_held3 (fun W' => W'.cell? ⟨g, 4, none⟩ = some (.int .u32 gc) ∧ W'.cell? ⟨w1.heap.size, 0, none⟩ = some (.int .u32 caps) ∧ Ext w3 W')
    ((refine (fun h => ⟨Ext.cell h d4, Ext.cell h b0, h⟩) ?_; repeat' (first | with_reducible exact hY | (with_reducible refine Ext.drew ?_) | (with_reducible refine Ext.alloc ?_ _))))
    (first
      | (go_at_call 100; go_must (refine (both_c _ gc caps).mono ?_; rintro e w4 ⟨rfl, hx4⟩; rw [HC.out]; replace hY : Ext w3 w4 := (Ext.refl _).drew.trans hx4))
      | fail)
  all_goals
    have HY := Lib.hid (HX3.out.trans hY)
    clear d4 b0 hY hx4
    go_wp2_with (first
      | (go_at_call 56; refine (capsCheck_c _ c).mono ?_; rintro e wx ⟨rfl, rfl⟩; rw [HCK.out])
      | (go_at_call 42; refine (odd_c _).mono ?_; rintro e w6 ⟨v6, rfl, hl6, hx6⟩; have hx7 := HY.out.trans hx6)
      | (go_at_call 41; refine (dfail_c _ g (dcs K D fv) _ (HH.out.box.ext hx7) rfl).mono ?_; rintro e w8 ⟨rfl, B8, O8⟩)
      | fail)
    go_ret
    have hO : On g w w8 := (On.of hx7).trans O8
    exact ⟨_, rfl, (hl6.on O8 (Nat.lt_of_lt_of_le HH.out.box.lt (Ext.size HY.out))).more (Ext.size HY.out), DoorIs.dfail HH.out hO B8, hO⟩
end Go.Proofs.YtbodppfpmpmadaaGreat

namespace Go.Proofs.YtbodppfpmpmadaaGreat
open Go.RowKit

set_option maxHeartbeats 4000000 in
theorem answer_nobody (w : World) (S : List Nat) (g : Nat) (D : DoorV) (l user resp db pl : List UInt8) (caps most ch : Int) (ps : Pairs) (vb : Value) (h : DoorIs w S g D) (hr : Rd w vb l) (hl : l.length ≤ 900000) (hA : overP answerM ans0 l = (⟨caps, most, ch, user, resp, db, pl, ps⟩, 0)) (hk : checkC (bothC D.gc caps) = 0)
    (hul : user.length ≤ 1000000) (D1 : DoorV) (hD : whoP { D with c := bothC D.gc caps } user db = D1) (hok : DoorOk D1) (hkn : D1.kn = false) :
    Calls Tryz.prog 57 #[.pointer (some ⟨g, 0, none⟩), vb] w (RetD w S g (changeP D1)) := by
  obtain ⟨K, fv, h⟩ := h
  obtain ⟨gc, hgc⟩ : ∃ gc, gc = D.gc := ⟨_, rfl⟩
  obtain ⟨c, hc⟩ : ∃ c, bothC gc caps = c := ⟨_, rfl⟩
  rw [← hgc] at hk
  rw [hc] at hk
  have HA := Lib.hid hA
  have HR := Lib.hid hr
  have HL := Lib.hid hl
  have HH := Lib.hid h
  have HC := Lib.hid hc
  have HK := Lib.hid hk
  have HGC := Lib.hid hgc
  obtain ⟨Ab, cb, rfl, _⟩ := hr
  have HD := Lib.hid (show whoP { D with c := c } user db = D1 by rw [← hD, ← hc, hgc])
  have HU := Lib.hid hul
  have HOK := Lib.hid hok
  have HKN := Lib.hid hkn
  obtain ⟨t, ht⟩ : ∃ t, strL D1.u.pl = t := ⟨_, rfl⟩
  have HPL := Lib.hid ht
  clear hok hkn ht
  clear hA hl h hc hgc hk hD hul
  go_enter Tryz.func57, Tryz.ntmps57
  go_wp2_with (first
    | (go_at_call 99; refine (readAnswer_o _ _ l user resp db pl caps most ch 0 ps HR.out HL.out HA.out).mono ?_; rintro e w1 ⟨A1, k1, c1, A2, k2, c2, rfl, hr1, hx1, hn1⟩)
    | ((with_reducible show wpList _ _ _ (⟨some 5, Op.alloc _, _, _, _, _⟩ :: _) _ _); refine wpl_alloc rfl _ rfl ans0C (by kernel_rfl) ?_; intro w2 B2 hx2)
    | ((with_reducible show wpList _ _ _ (⟨none, Op.store _ _ _, _, _, _, _⟩ :: _) _ _); refine wpl_store_box rfl _ _ _ rfl _ [.int .u32 caps, .int .u32 most, .int .u8 ch, .string (strL user), .slice A1 k1 c1, .string (strL db), .string (strL pl), .slice A2 k2 c2] rfl rfl B2 rfl (by kernel_rfl) (by rfl) ?_; intro w3 B3 O3; have hx3 : Ext w w3 := (hx1.trans hx2).on O3 (Ext.size hx1); have d4 : w3.cell? ⟨g, 4, none⟩ = some (.int .u32 gc) := (HH.out.box.ext hx3).at (j := 4) (by rw [HGC.out]; rfl); have b0 := B3.at (j := 0) rfl)
    | fail)
  have HX3 := Lib.hid hx3
  have HX1 := Lib.hid hx1
  have HB3 := Lib.hid B3
  have HR1 := Lib.hid hr1
  have HX13 := Lib.hid (show Ext w1 w3 from hx2.on O3 (Nat.le_refl _))
  have HNE := Lib.hid (show (Value.slice A1 k1 c1).ownBlock ≠ some g from fun e => by have := hn1 g e; have := HH.out.box.lt; omega)
  clear hx3 B2 B3 hr1 hx1 hx2 O3 hn1
  have hY := Ext.refl w3
  go_region_held3 (fun W' => W'.cell? ⟨g, 4, none⟩ = some (.int .u32 gc) ∧ W'.cell? ⟨w1.heap.size, 0, none⟩ = some (.int .u32 caps) ∧ Ext w3 W')
    ((refine (fun h => ⟨Ext.cell h d4, Ext.cell h b0, h⟩) ?_; repeat' (first | with_reducible exact hY | (with_reducible refine Ext.drew ?_) | (with_reducible refine Ext.alloc ?_ _))))
    (first
      | (go_at_call 100; go_must (refine (both_c _ gc caps).mono ?_; rintro e w4 ⟨rfl, hx4⟩; rw [HC.out]; replace hY : Ext w3 w4 := (Ext.refl _).drew.trans hx4))
      | fail)
  all_goals
    have HY := Lib.hid hY
    have HD4 := Lib.hid (HH.out.ext (HX3.out.trans hY))
    have HB4 := Lib.hid (HB3.out.ext hY)
    clear d4 b0 hY hx4
    go_wp2_with (first
      | (go_at_call 56; refine (capsCheck_c _ c).mono ?_; rintro e wx ⟨rfl, rfl⟩; rw [HK.out])
      | ((with_reducible show wpList _ _ _ (⟨none, Op.store _ _ _, _, _, _, _⟩ :: _) _ _); refine wpl_store_cell rfl _ _ _ rfl g 10 (.int .u32 c) rfl rfl rfl rfl (by kernel_rfl) HD4.out.box (show 10 < 19 by decide) ?_; intro w5 B5 O5; have D5 := HD4.out.turn O5 (D' := { D with c := c }) B5 rfl rfl rfl (HD4.out.fn.on O5 HD4.out.gS); have HB5 := Lib.hid (HB4.out.on O5 (by have := HH.out.box.lt; have := Ext.size HX1.out; omega)); have b3 := HB5.out.at (j := 3) rfl; have b5 := HB5.out.at (j := 5) rfl)
      | (go_at_call 44; refine (who_d _ S g { D with c := c } user db K fv D5 HU.out).mono ?_; rintro e w6 ⟨rfl, D6, O6⟩; rw [HD.out] at D6; have hO6 := O5.trans O6; have HB6 := Lib.hid (HB5.out.on O6 (by have := HH.out.box.lt; have := Ext.size HX1.out; omega)); clear b3 b5 D5 B5)
      | fail)
    have HD6 := Lib.hid D6
    have d17 : w6.cell? ⟨g, 17, none⟩ = some (.bool D1.kn) := D6.box.at (j := 17) rfl
    have d14 : w6.cell? ⟨g, 14, none⟩ = some (.string (strL D1.u.pl)) := D6.box.at (j := 14) rfl
    have b6 : w6.cell? ⟨w1.heap.size, 6, none⟩ = some (.string (strL pl)) := HB6.out.at (j := 6) rfl
    have HO6 := Lib.hid (show On g w w6 from ((On.of HX3.out).ext HY.out).trans hO6)
    have HR6 := Lib.hid (show Rd w6 (.slice A1 k1 c1) resp from (((HR1.out.ext HX13.out).ext HY.out).on hO6 HNE.out))
    clear D6 O5 O6 hO6
    rw [HKN.out] at d17
    rw [HPL.out] at d14
    (try dsimp only [Act.put])
    first | go_region | fail
    generalize hw7 : w6.drew = w7
    have hx7 : Ext w6 w7 := by rw [← hw7]; exact (Ext.refl w6).drew
    clear hw7 d17 d14 b6
    have HX7 := Lib.hid hx7
    clear hx7
    go_wp2_with (first
      | (go_at_call 45; refine (change_d _ S g D1 ⟨K, fv, HD6.out.ext HX7.out⟩ HOK.out.sw HOK.out.pl).mono ?_; rintro e w8 ⟨v8, rfl, hl8, hd8, O8⟩)
      | fail)
    go_ret
    exact RetD.from (HO6.out.ext HX7.out) ⟨_, rfl, hl8, hd8, O8⟩
end Go.Proofs.YtbodppfpmpmadaaGreat

namespace Go.Proofs.YtbodppfpmpmadaaGreat
open Go.RowKit

set_option maxHeartbeats 4000000 in
theorem answer_other (w : World) (S : List Nat) (g : Nat) (D : DoorV) (l user resp db pl : List UInt8) (caps most ch : Int) (ps : Pairs) (vb : Value) (h : DoorIs w S g D) (hr : Rd w vb l) (hl : l.length ≤ 900000) (hA : overP answerM ans0 l = (⟨caps, most, ch, user, resp, db, pl, ps⟩, 0)) (hk : checkC (bothC D.gc caps) = 0)
    (hul : user.length ≤ 1000000) (D1 : DoorV) (hD : whoP { D with c := bothC D.gc caps } user db = D1) (hok : DoorOk D1) (hkn : D1.kn = true) (hp : (pl == D1.u.pl) = false) :
    Calls Tryz.prog 57 #[.pointer (some ⟨g, 0, none⟩), vb] w (RetD w S g (changeP D1)) := by
  obtain ⟨K, fv, h⟩ := h
  obtain ⟨gc, hgc⟩ : ∃ gc, gc = D.gc := ⟨_, rfl⟩
  obtain ⟨c, hc⟩ : ∃ c, bothC gc caps = c := ⟨_, rfl⟩
  rw [← hgc] at hk
  rw [hc] at hk
  have HA := Lib.hid hA
  have HR := Lib.hid hr
  have HL := Lib.hid hl
  have HH := Lib.hid h
  have HC := Lib.hid hc
  have HK := Lib.hid hk
  have HGC := Lib.hid hgc
  obtain ⟨Ab, cb, rfl, _⟩ := hr
  have HD := Lib.hid (show whoP { D with c := c } user db = D1 by rw [← hD, ← hc, hgc])
  have HU := Lib.hid hul
  have HOK := Lib.hid hok
  have HKN := Lib.hid hkn
  obtain ⟨t, ht⟩ : ∃ t, strL D1.u.pl = t := ⟨_, rfl⟩
  have HPL := Lib.hid ht
  have g9 : ((strL pl).toList == t.toList) = false := by rw [← ht, strL_tl, strL_tl]; exact hp
  have g8 : ((strL pl).toList != t.toList) = true := by unfold bne; rw [g9]; rfl
  clear hok hkn ht hp
  clear hA hl h hc hgc hk hD hul
  go_enter Tryz.func57, Tryz.ntmps57
  go_wp2_with (first
    | (go_at_call 99; refine (readAnswer_o _ _ l user resp db pl caps most ch 0 ps HR.out HL.out HA.out).mono ?_; rintro e w1 ⟨A1, k1, c1, A2, k2, c2, rfl, hr1, hx1, hn1⟩)
    | ((with_reducible show wpList _ _ _ (⟨some 5, Op.alloc _, _, _, _, _⟩ :: _) _ _); refine wpl_alloc rfl _ rfl ans0C (by kernel_rfl) ?_; intro w2 B2 hx2)
    | ((with_reducible show wpList _ _ _ (⟨none, Op.store _ _ _, _, _, _, _⟩ :: _) _ _); refine wpl_store_box rfl _ _ _ rfl _ [.int .u32 caps, .int .u32 most, .int .u8 ch, .string (strL user), .slice A1 k1 c1, .string (strL db), .string (strL pl), .slice A2 k2 c2] rfl rfl B2 rfl (by kernel_rfl) (by rfl) ?_; intro w3 B3 O3; have hx3 : Ext w w3 := (hx1.trans hx2).on O3 (Ext.size hx1); have d4 : w3.cell? ⟨g, 4, none⟩ = some (.int .u32 gc) := (HH.out.box.ext hx3).at (j := 4) (by rw [HGC.out]; rfl); have b0 := B3.at (j := 0) rfl)
    | fail)
  have HX3 := Lib.hid hx3
  have HX1 := Lib.hid hx1
  have HB3 := Lib.hid B3
  have HR1 := Lib.hid hr1
  have HX13 := Lib.hid (show Ext w1 w3 from hx2.on O3 (Nat.le_refl _))
  have HNE := Lib.hid (show (Value.slice A1 k1 c1).ownBlock ≠ some g from fun e => by have := hn1 g e; have := HH.out.box.lt; omega)
  clear hx3 B2 B3 hr1 hx1 hx2 O3 hn1
  have hY := Ext.refl w3
  go_region_held3 (fun W' => W'.cell? ⟨g, 4, none⟩ = some (.int .u32 gc) ∧ W'.cell? ⟨w1.heap.size, 0, none⟩ = some (.int .u32 caps) ∧ Ext w3 W')
    ((refine (fun h => ⟨Ext.cell h d4, Ext.cell h b0, h⟩) ?_; repeat' (first | with_reducible exact hY | (with_reducible refine Ext.drew ?_) | (with_reducible refine Ext.alloc ?_ _))))
    (first
      | (go_at_call 100; go_must (refine (both_c _ gc caps).mono ?_; rintro e w4 ⟨rfl, hx4⟩; rw [HC.out]; replace hY : Ext w3 w4 := (Ext.refl _).drew.trans hx4))
      | fail)
  all_goals
    have HY := Lib.hid hY
    have HD4 := Lib.hid (HH.out.ext (HX3.out.trans hY))
    have HB4 := Lib.hid (HB3.out.ext hY)
    clear d4 b0 hY hx4
    go_wp2_with (first
      | (go_at_call 56; refine (capsCheck_c _ c).mono ?_; rintro e wx ⟨rfl, rfl⟩; rw [HK.out])
      | ((with_reducible show wpList _ _ _ (⟨none, Op.store _ _ _, _, _, _, _⟩ :: _) _ _); refine wpl_store_cell rfl _ _ _ rfl g 10 (.int .u32 c) rfl rfl rfl rfl (by kernel_rfl) HD4.out.box (show 10 < 19 by decide) ?_; intro w5 B5 O5; have D5 := HD4.out.turn O5 (D' := { D with c := c }) B5 rfl rfl rfl (HD4.out.fn.on O5 HD4.out.gS); have HB5 := Lib.hid (HB4.out.on O5 (by have := HH.out.box.lt; have := Ext.size HX1.out; omega)); have b3 := HB5.out.at (j := 3) rfl; have b5 := HB5.out.at (j := 5) rfl)
      | (go_at_call 44; refine (who_d _ S g { D with c := c } user db K fv D5 HU.out).mono ?_; rintro e w6 ⟨rfl, D6, O6⟩; rw [HD.out] at D6; have hO6 := O5.trans O6; have HB6 := Lib.hid (HB5.out.on O6 (by have := HH.out.box.lt; have := Ext.size HX1.out; omega)); clear b3 b5 D5 B5)
      | fail)
    have HD6 := Lib.hid D6
    have d17 : w6.cell? ⟨g, 17, none⟩ = some (.bool D1.kn) := D6.box.at (j := 17) rfl
    have d14 : w6.cell? ⟨g, 14, none⟩ = some (.string (strL D1.u.pl)) := D6.box.at (j := 14) rfl
    have b6 : w6.cell? ⟨w1.heap.size, 6, none⟩ = some (.string (strL pl)) := HB6.out.at (j := 6) rfl
    have HO6 := Lib.hid (show On g w w6 from ((On.of HX3.out).ext HY.out).trans hO6)
    have HR6 := Lib.hid (show Rd w6 (.slice A1 k1 c1) resp from (((HR1.out.ext HX13.out).ext HY.out).on hO6 HNE.out))
    clear D6 O5 O6 hO6
    rw [HKN.out] at d17
    rw [HPL.out] at d14
    (try dsimp only [Act.put])
    first | go_region | fail
    generalize hw7 : w6.drew = w7
    have hx7 : Ext w6 w7 := by rw [← hw7]; exact (Ext.refl w6).drew
    clear hw7 d17 d14 b6
    have HX7 := Lib.hid hx7
    clear hx7
    go_wp2_with (first
      | (go_at_call 45; refine (change_d _ S g D1 ⟨K, fv, HD6.out.ext HX7.out⟩ HOK.out.sw HOK.out.pl).mono ?_; rintro e w8 ⟨v8, rfl, hl8, hd8, O8⟩)
      | fail)
    go_ret
    exact RetD.from (HO6.out.ext HX7.out) ⟨_, rfl, hl8, hd8, O8⟩
set_option maxHeartbeats 4000000 in
theorem answer_look (w : World) (S : List Nat) (g : Nat) (D : DoorV) (l user resp db pl : List UInt8) (caps most ch : Int) (ps : Pairs) (vb : Value) (h : DoorIs w S g D) (hr : Rd w vb l) (hl : l.length ≤ 900000) (hA : overP answerM ans0 l = (⟨caps, most, ch, user, resp, db, pl, ps⟩, 0)) (hk : checkC (bothC D.gc caps) = 0)
    (hul : user.length ≤ 1000000) (D1 : DoorV) (hD : whoP { D with c := bothC D.gc caps } user db = D1) (hok : DoorOk D1) (hkn : D1.kn = true) (hp : (pl == D1.u.pl) = true) :
    Calls Tryz.prog 57 #[.pointer (some ⟨g, 0, none⟩), vb] w (RetD w S g (lookP D1 resp)) := by
  obtain ⟨K, fv, h⟩ := h
  obtain ⟨gc, hgc⟩ : ∃ gc, gc = D.gc := ⟨_, rfl⟩
  obtain ⟨c, hc⟩ : ∃ c, bothC gc caps = c := ⟨_, rfl⟩
  rw [← hgc] at hk
  rw [hc] at hk
  have HA := Lib.hid hA
  have HR := Lib.hid hr
  have HL := Lib.hid hl
  have HH := Lib.hid h
  have HC := Lib.hid hc
  have HK := Lib.hid hk
  have HGC := Lib.hid hgc
  obtain ⟨Ab, cb, rfl, _⟩ := hr
  have HD := Lib.hid (show whoP { D with c := c } user db = D1 by rw [← hD, ← hc, hgc])
  have HU := Lib.hid hul
  have HOK := Lib.hid hok
  have HKN := Lib.hid hkn
  obtain ⟨t, ht⟩ : ∃ t, strL D1.u.pl = t := ⟨_, rfl⟩
  have HPL := Lib.hid ht
  have g9 : ((strL pl).toList == t.toList) = true := by rw [← ht, strL_tl, strL_tl]; exact hp
  have g8 : ((strL pl).toList != t.toList) = false := by unfold bne; rw [g9]; rfl
  clear hok hkn ht hp
  clear hA hl h hc hgc hk hD hul
  go_enter Tryz.func57, Tryz.ntmps57
  go_wp2_with (first
    | (go_at_call 99; refine (readAnswer_o _ _ l user resp db pl caps most ch 0 ps HR.out HL.out HA.out).mono ?_; rintro e w1 ⟨A1, k1, c1, A2, k2, c2, rfl, hr1, hx1, hn1⟩)
    | ((with_reducible show wpList _ _ _ (⟨some 5, Op.alloc _, _, _, _, _⟩ :: _) _ _); refine wpl_alloc rfl _ rfl ans0C (by kernel_rfl) ?_; intro w2 B2 hx2)
    | ((with_reducible show wpList _ _ _ (⟨none, Op.store _ _ _, _, _, _, _⟩ :: _) _ _); refine wpl_store_box rfl _ _ _ rfl _ [.int .u32 caps, .int .u32 most, .int .u8 ch, .string (strL user), .slice A1 k1 c1, .string (strL db), .string (strL pl), .slice A2 k2 c2] rfl rfl B2 rfl (by kernel_rfl) (by rfl) ?_; intro w3 B3 O3; have hx3 : Ext w w3 := (hx1.trans hx2).on O3 (Ext.size hx1); have d4 : w3.cell? ⟨g, 4, none⟩ = some (.int .u32 gc) := (HH.out.box.ext hx3).at (j := 4) (by rw [HGC.out]; rfl); have b0 := B3.at (j := 0) rfl)
    | fail)
  have HX3 := Lib.hid hx3
  have HX1 := Lib.hid hx1
  have HB3 := Lib.hid B3
  have HR1 := Lib.hid hr1
  have HX13 := Lib.hid (show Ext w1 w3 from hx2.on O3 (Nat.le_refl _))
  have HNE := Lib.hid (show (Value.slice A1 k1 c1).ownBlock ≠ some g from fun e => by have := hn1 g e; have := HH.out.box.lt; omega)
  clear hx3 B2 B3 hr1 hx1 hx2 O3 hn1
  have hY := Ext.refl w3
  go_region_held3 (fun W' => W'.cell? ⟨g, 4, none⟩ = some (.int .u32 gc) ∧ W'.cell? ⟨w1.heap.size, 0, none⟩ = some (.int .u32 caps) ∧ Ext w3 W')
    ((refine (fun h => ⟨Ext.cell h d4, Ext.cell h b0, h⟩) ?_; repeat' (first | with_reducible exact hY | (with_reducible refine Ext.drew ?_) | (with_reducible refine Ext.alloc ?_ _))))
    (first
      | (go_at_call 100; go_must (refine (both_c _ gc caps).mono ?_; rintro e w4 ⟨rfl, hx4⟩; rw [HC.out]; replace hY : Ext w3 w4 := (Ext.refl _).drew.trans hx4))
      | fail)
  all_goals
    have HY := Lib.hid hY
    have HD4 := Lib.hid (HH.out.ext (HX3.out.trans hY))
    have HB4 := Lib.hid (HB3.out.ext hY)
    clear d4 b0 hY hx4
    go_wp2_with (first
      | (go_at_call 56; refine (capsCheck_c _ c).mono ?_; rintro e wx ⟨rfl, rfl⟩; rw [HK.out])
      | ((with_reducible show wpList _ _ _ (⟨none, Op.store _ _ _, _, _, _, _⟩ :: _) _ _); refine wpl_store_cell rfl _ _ _ rfl g 10 (.int .u32 c) rfl rfl rfl rfl (by kernel_rfl) HD4.out.box (show 10 < 19 by decide) ?_; intro w5 B5 O5; have D5 := HD4.out.turn O5 (D' := { D with c := c }) B5 rfl rfl rfl (HD4.out.fn.on O5 HD4.out.gS); have HB5 := Lib.hid (HB4.out.on O5 (by have := HH.out.box.lt; have := Ext.size HX1.out; omega)); have b3 := HB5.out.at (j := 3) rfl; have b5 := HB5.out.at (j := 5) rfl)
      | (go_at_call 44; refine (who_d _ S g { D with c := c } user db K fv D5 HU.out).mono ?_; rintro e w6 ⟨rfl, D6, O6⟩; rw [HD.out] at D6; have hO6 := O5.trans O6; have HB6 := Lib.hid (HB5.out.on O6 (by have := HH.out.box.lt; have := Ext.size HX1.out; omega)); clear b3 b5 D5 B5)
      | fail)
    have HD6 := Lib.hid D6
    have d17 : w6.cell? ⟨g, 17, none⟩ = some (.bool D1.kn) := D6.box.at (j := 17) rfl
    have d14 : w6.cell? ⟨g, 14, none⟩ = some (.string (strL D1.u.pl)) := D6.box.at (j := 14) rfl
    have b6 : w6.cell? ⟨w1.heap.size, 6, none⟩ = some (.string (strL pl)) := HB6.out.at (j := 6) rfl
    have HO6 := Lib.hid (show On g w w6 from ((On.of HX3.out).ext HY.out).trans hO6)
    have HR6 := Lib.hid (show Rd w6 (.slice A1 k1 c1) resp from (((HR1.out.ext HX13.out).ext HY.out).on hO6 HNE.out))
    clear D6 O5 O6 hO6
    rw [HKN.out] at d17
    rw [HPL.out] at d14
    (try dsimp only [Act.put])
    first | go_region | fail
    generalize hw7 : w6.drew = w7
    have hx7 : Ext w6 w7 := by rw [← hw7]; exact (Ext.refl w6).drew
    clear hw7 d17 d14 b6
    have HX7 := Lib.hid hx7
    clear hx7
    have b4 : w7.cell? ⟨w1.heap.size, 4, none⟩ = some (.slice A1 k1 c1) := (HB6.out.ext HX7.out).at (j := 4) rfl
    go_wp2_with (first
      | (go_at_call 87; refine (look_d _ S g D1 resp _ ⟨K, fv, HD6.out.ext HX7.out⟩ HOK.out.pw (HR6.out.ext HX7.out)).mono ?_; rintro e w8 ⟨v8, rfl, hl8, hd8, O8⟩)
      | fail)
    go_ret
    exact RetD.from (HO6.out.ext HX7.out) ⟨_, rfl, hl8, hd8, O8⟩
end Go.Proofs.YtbodppfpmpmadaaGreat

