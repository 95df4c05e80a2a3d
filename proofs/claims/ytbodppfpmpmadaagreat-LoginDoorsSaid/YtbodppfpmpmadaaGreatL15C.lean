import Derived.Test.YtbodppfpmpmadaaGreatRfRC
import Derived.Test.YtbodppfpmpmadaaGreatL13C
import Derived.Test.YtbodppfpmpmadaaGreatLogXC
import Derived.Test.YtbodppfpmpmadaaGreatL11C
import Derived.Test.YtbodppfpmpmadaaGreatL14C
import Derived.Test.YtbodppfpmpmadaaGreatL10C
import Derived.Test.YtbodppfpmpmadaaGreatRfAC
namespace Go.Proofs.YtbodppfpmpmadaaGreat
open Go.RowKit

theorem getD_snoc_lt (us : List UserV) (u : UserV) (k : Nat) (h : k < us.length) : (us ++ [u]).getD k userZ = us.getD k userZ := by
  rw [List.getD_eq_getElem?_getD, List.getD_eq_getElem?_getD, List.getElem?_append_left h]
theorem getD_snoc_eq (us : List UserV) (u : UserV) : (us ++ [u]).getD us.length userZ = u := by
  rw [List.getD_eq_getElem?_getD, List.getElem?_append_right (Nat.le_refl _)]
  simp
theorem GoodU.init {us : List UserV} {u : UserV} (h : GoodU (us ++ [u])) : GoodU us := fun k hk => by
  have h1 := h k (by simp; omega)
  rw [getD_snoc_lt us u k hk, List.take_append_of_le_length (by omega)] at h1
  exact h1
theorem GoodU.last {us : List UserV} {u : UserV} (h : GoodU (us ++ [u])) : findU us u.name = none := by
  have h1 := (h us.length (by simp)).2
  rw [getD_snoc_eq, List.take_append_of_le_length (Nat.le_refl _), List.take_length] at h1
  exact h1
theorem findU_first (us : List UserV) (nm : List UInt8) (hg : GoodU us) (k : Nat) (hk : k < us.length) (hn : (us.getD k userZ).name = nm) : findU us nm = some (us.getD k userZ) := by
  induction us using list_snoc_induct generalizing k with
  | h0 => simp at hk
  | h1 us u ih =>
    rw [findU_snoc]
    rcases Nat.lt_or_ge k us.length with h | h
    · rw [getD_snoc_lt us u k h] at hn ⊢
      have h2 := ih hg.init k h hn
      have h3 := hg.last
      by_cases e : u.name = nm
      · rw [e, h2] at h3; cases h3
      · rw [if_neg (by simpa using e), h2]
    · have : k = us.length := by simp at hk; omega
      subst this
      rw [getD_snoc_eq] at hn ⊢
      rw [if_pos (by simpa using hn)]
theorem findU_none (us : List UserV) (nm : List UInt8) (h : ∀ j, j < us.length → (us.getD j userZ).name ≠ nm) : findU us nm = none := by
  induction us using list_snoc_induct with
  | h0 => rfl
  | h1 us u ih =>
    rw [findU_snoc]
    have h1 := h us.length (by simp)
    rw [getD_snoc_eq] at h1
    rw [if_neg (by simpa using h1)]
    exact ih (fun j hj => by have := h j (by simp; omega); rwa [getD_snoc_lt us u j hj] at this)

set_option maxHeartbeats 2000000 in
theorem findR_c (w : World) (g : Nat) (cs : List Value) (nm : List UInt8) (A : Option Addr) (cp : Nat) (us : List UserV) (B : BoxF w g cs) (hl : cs.length = 19) (h1 : cs[1]? = some (.slice A us.length cp)) (hR : Recs w 5 (.slice A us.length cp) (us.map userC)) (hg : GoodU us) :
    Calls Tryz.prog 114 #[.pointer (some ⟨g, 0, none⟩), .string (strL nm)] w fun e w' => e = .returned (.bool (findU us nm).isSome) ∧ BoxF w' g (setAll cs 12 (userC ((findU us nm).getD userZ))) ∧ On g w w' := by
  have hus64 := hR.shape
  have hm : cp ≤ maxLen ∧ us.length ≤ cp := by
    obtain ⟨A2, c2, e, h2, h3⟩ := hus64
    injection e with e1 e2 e3
    rw [List.length_map] at h2
    subst e3
    exact ⟨h3, h2⟩
  unfold maxLen at hm
  have HB := Lib.hid B
  have HL := Lib.hid hl
  have HR := Lib.hid hR
  have HG := Lib.hid hg
  have c1 := B.at (j := 1) h1
  obtain ⟨N, hN⟩ : ∃ N, N = us.length := ⟨_, rfl⟩
  rw [← hN] at c1 HR hm
  have HN := Lib.hid hN
  obtain ⟨t, ht⟩ : ∃ t, t = strL nm := ⟨_, rfl⟩
  have htl : t.toList = nm := by rw [ht, strL_tl]
  rw [← ht]
  have HT := Lib.hid htl
  clear B hl h1 hR hg hus64 hN ht htl
  go_enter Tryz.func114, Tryz.ntmps114
  go_wp2_with fail
  go_loop [5] (fun i => ∃ k : Nat, k ≤ N ∧ i = .int .i64 k ∧ ∀ j, j < k → (us.getD j userZ).name ≠ nm) (fun i => N - (intOf i).toNat)
  case atStart => exact ⟨0, Nat.zero_le _, rfl, fun j hj => by omega⟩
  case round =>
    obtain ⟨k, hk, rfl, hj⟩ := hrel
    have HJ := Lib.hid hj
    clear hj
    by_cases hkN : k < N
    · have hbk : (k : Int) < (N : Int) := by omega
      obtain ⟨b0, o0, rfl, hn2, hcs⟩ := HR.out.at_ (A := A) (n := N) (cap := cp) (by omega)
      have hck := hcs k hkN
      rw [rangeAt_userC us k (by have := HN.out; omega)] at hck
      have hff := fun e => findU_first us nm HG.out k (by have := HN.out; omega) e
      have hjj : ∀ e : (us.getD k userZ).name ≠ nm, ∀ j, j < k + 1 → (us.getD j userZ).name ≠ nm := fun e j hj => by
        rcases Nat.lt_or_ge j k with h | h
        · exact HJ.out j h
        · obtain rfl : j = k := by omega
          exact e
      have HJJ := Lib.hid hjj
      have HFF := Lib.hid hff
      clear hjj hff hcs hn2
      generalize hu : us.getD k userZ = u at hck HFF HJJ
      clear hu
      obtain ⟨un, upw, upl, usc, uad⟩ := u
      have HCK := Lib.hid (show w.rangeAt b0 (o0 + k * 5) [.string (strL un), .string (strL upw), .string (strL upl), .string (strL usc), .bool uad] from hck)
      have d0 : w.cell? ⟨b0, o0 + k * 5, none⟩ = some (.string (strL un)) := hck 0 _ rfl
      clear hck
      obtain ⟨q, hq⟩ : ∃ q, (un == nm) = q := ⟨_, rfl⟩
      have hq2 : ((strL un).toList == t.toList) = q := by rw [strL_tl, HT.out]; exact hq
      have HQ := Lib.hid hq
      clear hq
      cases q with
      | true =>
        have HF := Lib.hid (HFF.out (by simpa using HQ.out))
        go_wp2_with (first
          | ((with_reducible show AtS 32); refine wpl_load_rec rfl _ _ rfl b0 _ rfl HCK.out Tryz.underlying32 rfl (by kernel_rfl) ?_)
          | ((with_reducible show AtW 32); refine wpl_store_at rfl _ _ _ rfl g 12 [.string (strL un), .string (strL upw), .string (strL upl), .string (strL usc), .bool uad] rfl rfl HB.out (by have := HL.out; simp; omega) (by kernel_rfl) (by rfl) ?_; intro w1 B1 O1; clear c1 d0)
          | fail)
        go_ret
        rw [HF.out]
        exact ⟨rfl, B1, O1⟩
      | false =>
        go_wp2_with fail
        go_round
        case rel => exact ⟨k + 1, by omega, by go_num, HJJ.out (by simpa using HQ.out)⟩
        case measure => simp [intOf]; omega
    · obtain rfl : k = N := by omega
      have hb9 : ¬ (k : Int) < (k : Int) := by omega
      have HF := Lib.hid (findU_none us nm (fun j hj => HJ.out j (by rw [HN.out]; exact hj)))
      go_wp2_with (first
        | ((with_reducible show AtW 32); refine wpl_store_at rfl _ _ _ rfl g 12 [.string (strL []), .string (strL []), .string (strL []), .string (strL []), .bool false] rfl rfl HB.out (by have := HL.out; simp; omega) (by kernel_rfl) (by rfl) ?_; intro w1 B1 O1; clear c1)
        | fail)
      go_ret
      rw [HF.out]
      exact ⟨rfl, B1, O1⟩
end Go.Proofs.YtbodppfpmpmadaaGreat

namespace Go.Proofs.YtbodppfpmpmadaaGreat
open Go.RowKit

theorem Recs.on {w w' : World} {sz : Nat} {v : Value} {rs : List (List Value)} {g : Nat} (h : Recs w sz v rs) (k : On g w w') (hne : v.ownBlock ≠ some g) : Recs w' sz v rs := by
  obtain ⟨A, cap, h1, h2, h3, h4⟩ := h
  refine ⟨A, cap, h1, h2, h3, fun hn => ?_⟩
  obtain ⟨b, o, hA, hc⟩ := h4 hn
  exact ⟨b, o, hA, fun j hj => World.rangeAt.on (hc j hj) k (fun e => hne (by rw [h1, hA, ← e]; rfl))⟩
structure RefK where
  uA : Option Addr
  uc : Nat
  G : GreV
  gA : Option Addr
  gc : Nat
  A : Option Addr
  cp : Nat
def rcs (K : RefK) (D : DoorV) (aw : Int) (sv : List UInt8) : List Value :=
  [.bool true, .slice K.uA D.us.length K.uc, .string (strL K.G.ver), .int .u32 K.G.thr, .slice K.gA K.G.nonce.length K.gc, .int .u32 K.G.caps, .int .u8 K.G.ch, .int .u16 K.G.st, .string (strL K.G.pl), .int .i64 aw, .int .i64 D.st, .int .u32 D.c,
    .string (strL D.u.name), .string (strL D.u.pw), .string (strL D.u.pl), .string (strL D.u.sc), .bool D.u.adm, .string (strL sv), .slice K.A D.n.length K.cp]
def awOf (nx : Nat) : Int := match nx with
  | 0 => 0
  | 1 => 1
  | 2 => 3
  | 3 => 2
  | _ => 4
structure RefOk (D : DoorV) (awv : Int) (svv : List UInt8) : Prop where
  aw : D.st = 1 → awv = awOf D.nx
  sv : D.kn = true → svv = D.sc
  two : D.st = 2 → D.kn = true
  one : D.st = 1 → (D.nx = 1 ∨ D.nx = 2) → D.kn = true
  pl : D.kn = true → (D.u.pl == fastL) = !(D.u.pl == natL)
  end_ : D.st = 2 → awv = 4
structure RefAt (w : World) (S : List Nat) (g : Nat) (D : DoorV) (K : RefK) (aw : Int) (sv : List UInt8) : Prop where
  box : BoxF w g (rcs K D aw sv)
  us : Recs w 5 (.slice K.uA D.us.length K.uc) (D.us.map userC)
  uS : Off w S (.slice K.uA D.us.length K.uc)
  nr : Rd w (.slice K.A D.n.length K.cp) D.n
  nS : Off w S (.slice K.A D.n.length K.cp)
  gr : Rd w (.slice K.gA K.G.nonce.length K.gc) K.G.nonce
  gS : Off w S (.slice K.gA K.G.nonce.length K.gc)
  good : GoodU D.us
  gok : GreOk K.G
  caps : K.G.caps = D.gc
  hello : greetB K.G = D.hello
  glen : K.G.ver.length ≤ 10000 ∧ K.G.pl.length ≤ 10000
  ok : RefOk D aw sv
  mem : g ∈ S
  lt : ∀ x ∈ S, x < w.heap.size
def RefIs (w : World) (S : List Nat) (g : Nat) (D : DoorV) : Prop := ∃ K aw sv, RefAt w S g D K aw sv
theorem RefAt.ext {w w' : World} {S : List Nat} {g : Nat} {D : DoorV} {K : RefK} {aw : Int} {sv : List UInt8} (h : RefAt w S g D K aw sv) (k : Ext w w') : RefAt w' S g D K aw sv :=
  ⟨h.box.ext k, h.us.ext k, h.uS.mono (Ext.size k), h.nr.ext k, h.nS.mono (Ext.size k), h.gr.ext k, h.gS.mono (Ext.size k), h.good, h.gok, h.caps, h.hello, h.glen, h.ok, h.mem, fun x hx => Nat.lt_of_lt_of_le (h.lt x hx) (Ext.size k)⟩
theorem RefAt.on {w w' : World} {S : List Nat} {g b : Nat} {D : DoorV} {K : RefK} {aw : Int} {sv : List UInt8} (h : RefAt w S g D K aw sv) (k : On b w w') (hb : b ∈ S) (hne : g ≠ b) : RefAt w' S g D K aw sv :=
  ⟨h.box.on k hne, h.us.on k (h.uS.ne hb), h.uS.mono k.size, h.nr.on k (h.nS.ne hb), h.nS.mono k.size, h.gr.on k (h.gS.ne hb), h.gS.mono k.size, h.good, h.gok, h.caps, h.hello, h.glen, h.ok, h.mem, fun x hx => Nat.lt_of_lt_of_le (h.lt x hx) k.size⟩
theorem RefAt.more {w : World} {S S' : List Nat} {g : Nat} {D : DoorV} {K : RefK} {aw : Int} {sv : List UInt8} (h : RefAt w S g D K aw sv) (k : ∀ x ∈ S', x ∈ S ∨ w.heap.size ≤ x) {w' : World} (k2 : Ext w w') (hlt : ∀ x ∈ S', x < w'.heap.size) (hs : ∀ x ∈ S, x ∈ S') : RefAt w' S' g D K aw sv :=
  ⟨h.box.ext k2, h.us.ext k2, (h.uS.more k).mono (Ext.size k2), h.nr.ext k2, (h.nS.more k).mono (Ext.size k2), h.gr.ext k2, (h.gS.more k).mono (Ext.size k2), h.good, h.gok, h.caps, h.hello, h.glen, h.ok, hs _ h.mem, hlt⟩
theorem RefAt.turn {w w' : World} {S : List Nat} {g : Nat} {D D' : DoorV} {K : RefK} {aw aw' : Int} {sv sv' : List UInt8} (h : RefAt w S g D K aw sv) (k : On g w w') (hb : BoxF w' g (rcs K D' aw' sv')) (hu : D'.us = D.us) (hn : D'.n = D.n) (hg : D'.gc = D.gc) (hh : D'.hello = D.hello) (ho : RefOk D' aw' sv') : RefAt w' S g D' K aw' sv' :=
  ⟨hb, by rw [hu]; exact h.us.on k (h.uS.ne h.mem), by rw [hu]; exact h.uS.mono k.size, by rw [hn]; exact h.nr.on k (h.nS.ne h.mem), by rw [hn]; exact h.nS.mono k.size, h.gr.on k (h.gS.ne h.mem), h.gS.mono k.size, by rw [hu]; exact h.good, h.gok, by rw [hg]; exact h.caps, by rw [hh]; exact h.hello, h.glen, ho, h.mem, fun x hx => Nat.lt_of_lt_of_le (h.lt x hx) k.size⟩
def RetRf (w : World) (S : List Nat) (g : Nat) (r : List (List UInt8) × DoorV) (e : Ending) (w' : World) : Prop :=
  ∃ v, e = .returned v ∧ ListsN w' w.heap.size v r.1 ∧ RefIs w' S g r.2 ∧ On g w w'
theorem look_r (w : World) (S : List Nat) (g : Nat) (D : DoorV) (K : RefK) (aw : Int) (sv l : List UInt8) (vb : Value) (h : RefAt w S g D K aw sv) (hst : D.st = 1) (hkn : D.kn = true) (hp : D.u.pw.length ≤ 1000000) (hr : Rd w vb l) :
    Calls Tryz.prog 67 #[.pointer (some ⟨g, 0, none⟩), vb] w (RetRf w S g (lookP D l)) := by
  obtain ⟨q, hq⟩ : ∃ q, (l == respPl D.u.pl D.u.pw D.n) = q := ⟨_, rfl⟩
  obtain ⟨f, hf⟩ : ∃ f, (D.u.pl == fastL) = f := ⟨_, rfl⟩
  obtain ⟨e6, he⟩ : ∃ e, l.isEmpty = e := ⟨_, rfl⟩
  have hnat : (D.u.pl == natL) = !f := by
    have := h.ok.pl hkn
    rw [hf] at this
    rw [this, Bool.not_not]
  refine (lookR_c w g (rcs K D aw sv) D.c D.u.pl D.u.pw l D.n vb K.A D.n.length K.cp q f e6 h.box rfl rfl rfl rfl rfl h.nr hr hp hq hf he).mono ?_
  rintro e w' ⟨v, rfl, hl, hb, hO⟩
  have o2 : RefOk { D with st := 2 } 4 sv := ⟨fun e => by exact absurd e (by show ¬ ((2 : Int) = 1); decide), h.ok.sv, fun _ => hkn, fun e => by exact absurd e (by show ¬ ((2 : Int) = 1); decide), h.ok.pl, fun _ => rfl⟩
  have o3 : RefOk { D with st := 3 } 4 sv := ⟨fun e => by exact absurd e (by show ¬ ((3 : Int) = 1); decide), h.ok.sv, fun e => by exact absurd e (by show ¬ ((3 : Int) = 2); decide), fun e => by exact absurd e (by show ¬ ((3 : Int) = 1); decide), h.ok.pl, fun _ => rfl⟩
  have o4 : RefOk { D with nx := 2 } 3 sv := ⟨fun _ => rfl, h.ok.sv, h.ok.two, fun _ _ => hkn, h.ok.pl, fun e => absurd (hst.symm.trans e) (by decide)⟩
  unfold lookP
  rw [hq, hnat, he]
  cases q
  · cases f
    · exact ⟨v, rfl, hl, ⟨K, 4, sv, h.turn hO (D' := { D with st := 3 }) hb rfl rfl rfl rfl o3⟩, hO⟩
    · exact ⟨v, rfl, hl, ⟨K, 3, sv, h.turn hO (D' := { D with nx := 2 }) hb rfl rfl rfl rfl o4⟩, hO⟩
  · cases f
    · exact ⟨v, rfl, hl, ⟨K, 4, sv, h.turn hO (D' := { D with st := 2 }) hb rfl rfl rfl rfl o2⟩, hO⟩
    · cases e6
      · exact ⟨v, rfl, hl, ⟨K, 4, sv, h.turn hO (D' := { D with st := 2 }) hb rfl rfl rfl rfl o2⟩, hO⟩
      · exact ⟨v, rfl, hl, ⟨K, 4, sv, h.turn hO (D' := { D with st := 2 }) hb rfl rfl rfl rfl o2⟩, hO⟩
theorem refused_r (w : World) (S : List Nat) (g : Nat) (D : DoorV) (K : RefK) (aw : Int) (sv : List UInt8) (h : RefAt w S g D K aw sv) :
    Calls Tryz.prog 70 #[.pointer (some ⟨g, 0, none⟩)] w (RetRf w S g ([refusedL], { D with st := 3 })) := by
  refine (refusedR_c w g (rcs K D aw sv) h.box rfl).mono ?_
  rintro e w' ⟨v, rfl, hl, hb, hO⟩
  have o3 : RefOk { D with st := 3 } 4 sv := ⟨fun e => by exact absurd e (by show ¬ ((3 : Int) = 1); decide), h.ok.sv, fun e => by exact absurd e (by show ¬ ((3 : Int) = 2); decide), fun e => by exact absurd e (by show ¬ ((3 : Int) = 1); decide), h.ok.pl, fun _ => rfl⟩
  exact ⟨v, rfl, hl, ⟨K, 4, sv, h.turn hO (D' := { D with st := 3 }) hb rfl rfl rfl rfl o3⟩, hO⟩
theorem odd_r (w : World) (S : List Nat) (g : Nat) (D : DoorV) (K : RefK) (aw : Int) (sv : List UInt8) (h : RefAt w S g D K aw sv) :
    Calls Tryz.prog 63 #[.pointer (some ⟨g, 0, none⟩)] w (RetRf w S g ([oddL], { D with st := 3 })) := by
  refine (oddR_c w g (rcs K D aw sv) h.box rfl).mono ?_
  rintro e w' ⟨v, rfl, hl, hb, hO⟩
  have o3 : RefOk { D with st := 3 } 4 sv := ⟨fun e => by exact absurd e (by show ¬ ((3 : Int) = 1); decide), h.ok.sv, fun e => by exact absurd e (by show ¬ ((3 : Int) = 2); decide), fun e => by exact absurd e (by show ¬ ((3 : Int) = 1); decide), h.ok.pl, fun _ => rfl⟩
  exact ⟨v, rfl, hl, ⟨K, 4, sv, h.turn hO (D' := { D with st := 3 }) hb rfl rfl rfl rfl o3⟩, hO⟩
theorem in_r (w : World) (S : List Nat) (g : Nat) (D : DoorV) (K : RefK) (aw : Int) (sv : List UInt8) (h : RefAt w S g D K aw sv) (hkn : D.kn = true) :
    Calls Tryz.prog 69 #[.pointer (some ⟨g, 0, none⟩), .slice none 0 0] w (RetRf w S g ([okL D.c], { D with st := 2 })) := by
  refine (inR_nil w g (rcs K D aw sv) D.c h.box rfl rfl).mono ?_
  rintro e w' ⟨v, rfl, hl, hb, hO⟩
  have o2 : RefOk { D with st := 2 } 4 sv := ⟨fun e => by exact absurd e (by show ¬ ((2 : Int) = 1); decide), h.ok.sv, fun _ => hkn, fun e => by exact absurd e (by show ¬ ((2 : Int) = 1); decide), h.ok.pl, fun _ => rfl⟩
  exact ⟨v, rfl, hl, ⟨K, 4, sv, h.turn hO (D' := { D with st := 2 }) hb rfl rfl rfl rfl o2⟩, hO⟩
end Go.Proofs.YtbodppfpmpmadaaGreat

namespace Go.Proofs.YtbodppfpmpmadaaGreat
open Go.RowKit

theorem good_pl (us : List UserV) (nm : List UInt8) (u : UserV) (hg : GoodU us) (h : findU us nm = some u) : (u.pl == fastL) = !(u.pl == natL) := by
  induction us using list_snoc_induct with
  | h0 => cases h
  | h1 us v ih =>
    rw [findU_snoc] at h
    split at h
    · injection h with h
      subst h
      have h1 := (hg us.length (by simp)).1
      rw [getD_snoc_eq] at h1
      unfold okU oursP at h1
      simp only [Bool.and_eq_true] at h1
      have h2 := h1.2.2.2.2
      cases hn : v.pl == natL with
      | true =>
        have : v.pl = natL := by simpa using hn
        rw [this]
        decide
      | false =>
        rw [hn] at h2
        simpa using h2
    · exact ih hg.init h

set_option maxHeartbeats 2000000 in
theorem who_no (w : World) (S : List Nat) (g : Nat) (D : DoorV) (K : RefK) (aw : Int) (sv nm sc pl : List UInt8) (vr : Value) (cn : Bool) (h : RefAt w S g D K aw sv) (hst : D.st = 1) (hfit : DoorFit D) (hk : findU D.us nm = none) :
    Calls Tryz.prog 64 #[.pointer (some ⟨g, 0, none⟩), .string (strL nm), .string (strL sc), .string (strL pl), vr, .bool cn] w (RetRf w S g (changeP (whoP D nm sc))) := by
  have hw : whoP D nm sc = { D with u := userZ, kn := false, sc := if sc.isEmpty then [] else sc } := by unfold whoP; rw [hk]; rfl
  obtain ⟨x, hx⟩ : ∃ x, (if sc.isEmpty then [] else sc) = x := ⟨_, rfl⟩
  rw [hx] at hw
  clear hx
  rw [hw]
  have HH := Lib.hid h
  have HK := Lib.hid hk
  have HST := Lib.hid hst
  have hok2 : switchOk (natL, D.n) := ⟨by show natL.contains 0 = false; decide, hfit.n⟩
  have HOK := Lib.hid hok2
  have hne := h.nS.ne h.mem
  have hnr := fun w' (k : On g w w') => h.nr.on k hne
  have HNR := Lib.hid hnr
  clear h hk hst hfit hok2 hw hne hnr
  go_enter Tryz.func64, Tryz.ntmps64
  go_wp2_with (first
    | (go_at_call 114; go_loud (refine (findR_c _ g (rcs K D aw sv) nm K.uA K.uc D.us HH.out.box rfl rfl HH.out.us HH.out.good).mono ?_; rw [HK.out]; rintro e w1 ⟨rfl, B1, O1⟩))
    | (go_at_call 115; go_loud (refine (askR_c _ g _ natL D.n 2 K.A D.n.length K.cp B1 rfl rfl (HNR.out _ O1) HOK.out (by decide)).mono ?_; rintro e w2 ⟨v2, rfl, hl2, B2, O2⟩))
    | fail)
  go_ret
  have o3 : RefOk { D with u := userZ, kn := false, nx := 3, sc := x } 2 sv := ⟨fun _ => rfl, fun e => (by cases e), fun e => absurd (HST.out.symm.trans e) (by decide), fun _ e => (by rcases e with e | e <;> exact absurd e (by dsimp only; decide)), fun e => (by cases e), fun e => absurd (HST.out.symm.trans e) (by decide)⟩
  have hr := HH.out.turn (O1.trans O2) (D' := { D with u := userZ, kn := false, nx := 3, sc := x }) B2 rfl rfl rfl rfl o3
  exact ⟨v2, rfl, hl2.more O1.size, ⟨K, 2, sv, hr⟩, O1.trans O2⟩

set_option maxHeartbeats 4000000 in
theorem who_yes (w : World) (S : List Nat) (g : Nat) (D : DoorV) (K : RefK) (aw : Int) (sv nm sc pl l : List UInt8) (vr : Value) (cn m : Bool) (u1 u2 u3 u4 : List UInt8) (ad : Bool) (h : RefAt w S g D K aw sv) (hst : D.st = 1) (hfit : DoorFit D) (hk : findU D.us nm = some ⟨u1, u2, u3, u4, ad⟩) (hm : (cn && pl == u3) = m)
    (hr : ∀ w', On g w w' → Rd w' vr l) :
    Calls Tryz.prog 64 #[.pointer (some ⟨g, 0, none⟩), .string (strL nm), .string (strL sc), .string (strL pl), vr, .bool cn] w (RetRf w S g (if m then lookP (whoP D nm sc) l else changeP (whoP D nm sc))) := by
  obtain ⟨q, hq⟩ : ∃ q, sc.isEmpty = q := ⟨_, rfl⟩
  have hw : whoP D nm sc = { D with u := ⟨u1, u2, u3, u4, ad⟩, kn := true, sc := if q then u4 else sc } := by unfold whoP; rw [hk, hq]; rfl
  have hpl := good_pl D.us nm _ h.good hk
  dsimp only at hpl
  have hfu : DoorFit (whoP D nm sc) := hfit.who nm sc
  obtain ⟨x, hx⟩ : ∃ x, (if q then u4 else sc) = x := ⟨_, rfl⟩
  rw [hx] at hw
  rw [hw] at hfu ⊢
  have e4 : (strL sc).toList.isEmpty = q := by rw [strL_tl]; exact hq
  obtain ⟨p, hp⟩ : ∃ p, (pl == u3) = p := ⟨_, rfl⟩
  have e5 : ((strL pl).toList == (strL u3).toList) = p := by rw [strL_tl, strL_tl]; exact hp
  have e6 : ((strL pl).toList != (strL u3).toList) = !p := by rw [← e5]; rfl
  rw [hp] at hm
  have HH := Lib.hid h
  have HK := Lib.hid hk
  have HST := Lib.hid hst
  have HOK := Lib.hid (show switchOk (u3, D.n) from hfu.ok.sw)
  have HPL := Lib.hid (show u3.length ≤ 10000 from hfu.ok.pl)
  have HPW := Lib.hid (show u2.length ≤ 1000000 from hfu.ok.pw)
  have hne := h.nS.ne h.mem
  have hnr := fun w' (k : On g w w') => h.nr.on k hne
  have HNR := Lib.hid hnr
  have HR := Lib.hid hr
  have ho : RefOk { D with u := ⟨u1, u2, u3, u4, ad⟩, kn := true, sc := x } aw x := ⟨h.ok.aw, fun _ => rfl, fun _ => rfl, fun _ _ => rfl, fun _ => hpl, h.ok.end_⟩
  have HO := Lib.hid ho
  clear h hk hst hfit hfu hw hne hnr hr ho hq hp hpl
  cases q <;> cases cn <;> cases p <;> cases m <;> first | exact absurd hm (by decide) | skip
  all_goals
    first
      | (replace hx : u4 = x := hx; subst hx)
      | (replace hx : sc = x := hx; subst hx)
      | fail
    first
      | rw [if_pos rfl]
      | rw [if_neg Bool.false_ne_true]
      | fail
    clear hm
    go_enter Tryz.func64, Tryz.ntmps64
    have tok : True := trivial
    go_wp2_with (first
      | (go_at_call 114; go_loud (refine (findR_c _ g (rcs K D aw sv) nm K.uA K.uc D.us HH.out.box rfl rfl HH.out.us HH.out.good).mono ?_; rw [HK.out]; rintro e w1 ⟨rfl, B1, O1⟩))
      | ((with_reducible show AtW 9); have _t := tok; refine wpl_store_cell rfl _ _ _ rfl g 17 (.string (strL sc)) rfl rfl rfl rfl (by kernel_rfl) B1 (by rw [setAll_length]; exact (show 17 < 19 by decide)) ?_; intro w2 B2 O2; clear B1 tok; have OO := O1.trans O2; have c15 := B2.at (j := 15) (v := .string (strL u4)) rfl; have c14 := B2.at (j := 14) (v := .string (strL u3)) rfl)
      | ((with_reducible show AtW 9); refine wpl_store_cell rfl _ _ _ rfl g 17 (.string (strL u4)) rfl rfl rfl rfl (by kernel_rfl) B2 (by rw [List.length_set, setAll_length]; exact (show 17 < 19 by decide)) ?_; intro w3 B3 O3; rw [List.set_set] at B3; have OO3 := OO.trans O3; clear B2 OO c15 c14; have B2 := B3; have OO := OO3; have c14 := B2.at (j := 14) (v := .string (strL u3)) rfl)
      | (go_at_call 115; go_loud (refine (askR_c _ g _ u3 D.n 1 K.A D.n.length K.cp B2 rfl rfl (HNR.out _ OO) HOK.out HPL.out).mono ?_; rintro e w5 ⟨v5, rfl, hl5, B5, O5⟩))
      | (go_at_call 67; go_loud ((first | refine (look_r _ S g { D with u := ⟨u1, u2, u3, u4, ad⟩, kn := true, sc := sc } K aw sc l _ (HH.out.turn OO B2 rfl rfl rfl rfl HO.out) HST.out rfl HPW.out (HR.out _ OO)).mono ?_ | refine (look_r _ S g { D with u := ⟨u1, u2, u3, u4, ad⟩, kn := true, sc := u4 } K aw u4 l _ (HH.out.turn OO B2 rfl rfl rfl rfl HO.out) HST.out rfl HPW.out (HR.out _ OO)).mono ?_ | fail); rintro e w6 ⟨v6, rfl, hl6, hr6, O6⟩))
      | fail)
    go_ret
    first
      | exact ⟨v6, rfl, hl6.more OO.size, hr6, OO.trans O6⟩
      | (have hr := HH.out.turn (OO.trans O5) (D' := { D with u := ⟨u1, u2, u3, u4, ad⟩, kn := true, nx := 1, sc := sc }) (sv' := sc) B5 rfl rfl rfl rfl ⟨fun _ => rfl, fun _ => rfl, fun _ => rfl, fun _ _ => rfl, HO.out.pl, fun e => absurd (HST.out.symm.trans e) (by decide)⟩; exact ⟨v5, rfl, hl5.more OO.size, ⟨K, 1, _, hr⟩, OO.trans O5⟩)
      | (have hr := HH.out.turn (OO.trans O5) (D' := { D with u := ⟨u1, u2, u3, u4, ad⟩, kn := true, nx := 1, sc := u4 }) (sv' := u4) B5 rfl rfl rfl rfl ⟨fun _ => rfl, fun _ => rfl, fun _ => rfl, fun _ _ => rfl, HO.out.pl, fun e => absurd (HST.out.symm.trans e) (by decide)⟩; exact ⟨v5, rfl, hl5.more OO.size, ⟨K, 1, _, hr⟩, OO.trans O5⟩)
      | fail
end Go.Proofs.YtbodppfpmpmadaaGreat

namespace Go.Proofs.YtbodppfpmpmadaaGreat
open Go.RowKit

theorem bytesS_q (a w : World) (g : Nat) (s : List UInt8 × Int) (n : Nat) (x : List UInt8) (s' : List UInt8 × Int) (m : Int) (hm : m = (n : Int)) (h : Rdr a w g s) (hn : n ≤ 100000) (hx : rB n s = (x, s')) :
    Calls Tryz.prog 109 #[.pointer (some ⟨g, 0, none⟩), .int .i64 m] w fun e w' => ∃ A c, e = .returned (.slice A n c) ∧ Own w' w.heap.size (.slice A n c) x ∧ Rdr a w' g s' ∧ On g w w' := by
  subst hm
  refine (bytes_m a w g s n x s' h hn hx).mono ?_
  rintro e w' ⟨v, rfl, ho, h2, h3⟩
  have hl := rB_length n s
  rw [hx] at hl
  obtain ⟨A, c, rfl, _⟩ := ho.rd
  dsimp only at hl
  rw [hl] at ho ⊢
  exact ⟨A, c, rfl, ho, h2, h3⟩
structure RetAnsR (w : World) (r : AnsV × Int) (e : Ending) (w' : World) : Prop where
  all : ∃ vr B m d, e = .returned (.tuple #[.agg (ansC r.1 vr (.slice B m d)).toArray, .int .i64 r.2]) ∧ Rd w' vr r.1.resp ∧ Ext w w' ∧ ∀ h, vr.ownBlock = some h → w.heap.size ≤ h
def RetAq (a w : World) (g : Nat) (s : List UInt8 × Int) (e : Ending) (w' : World) : Prop := ∃ v qs, e = .returned v ∧ OwnA w' w.heap.size v qs ∧ Rdr a w' g s ∧ On g w w'
theorem wrong_no (a w : World) (g : Nat) (s : List UInt8 × Int) (h : Rdr a w g s) :
    Calls Tryz.prog 107 #[.pointer (some ⟨g, 0, none⟩), .bool false] w fun e w' => e = .returned (.tuple #[]) ∧ w = w' := by
  obtain ⟨l, e⟩ := s
  have c1 := h.c1
  try dsimp only at c1
  clear h
  by_cases he : e = 0
  · subst he
    go_enter Tryz.func107, Tryz.ntmps107
    go_wp2_with fail
    refine bodyPost_end (results_none rfl _ _ _) rfl ?_
    exact ⟨rfl, rfl⟩
  · have hb : (e == 0) = false := by simpa using he
    go_enter Tryz.func107, Tryz.ntmps107
    go_wp2_with fail
    refine bodyPost_end (results_none rfl _ _ _) rfl ?_
    exact ⟨rfl, rfl⟩
set_option maxRecDepth 100000 in
set_option maxHeartbeats 4000000 in
theorem attrs_q (a w : World) (g : Nat) (s : List UInt8 × Int) (ps : Pairs) (s' : List UInt8 × Int) (h : Rdr a w g s) (hl : s.1.length ≤ 900000) (hx : rA s = (ps, s')) :
    Calls Tryz.prog 111 #[.pointer (some ⟨g, 0, none⟩)] w (RetAq a w g s') := by
  obtain ⟨x, s1, hq⟩ : ∃ x s1, rU s = (x, s1) := ⟨_, _, rfl⟩
  have hxl := (rU_len s).1
  unfold rA at hx
  rw [hq] at hx hxl
  dsimp only at hx hxl
  have hs' : s' = if s1.2 = 0 then rW (badA (inA x.length (x, 0))) s1 else s1 := by
    split at hx
    · rename_i h0; rw [if_pos h0]; exact (congrArg Prod.snd hx).symm
    · rename_i h0; rw [if_neg h0]; exact (congrArg Prod.snd hx).symm
  have hx0 : s1.2 ≠ 0 → x = [] := fun h0 => by
    unfold rU at hq
    split at hq
    · split at hq
      · cases hq; exact absurd rfl h0
      · cases hq; rfl
    · cases hq; rfl
  have H := Lib.hid h
  have HQ := Lib.hid hq
  have hgw := h.lt
  have hag := h.lo
  have hsz : (strL x).size ≤ maxLen := by rw [strL_size]; unfold maxLen; omega
  have HSZ := Lib.hid hsz
  have HS' := Lib.hid hs'
  have HX0 := Lib.hid hx0
  clear h hq hx hsz hs' hx0
  obtain ⟨sb, se1⟩ := s1
  go_enter Tryz.func111, Tryz.ntmps111
  go_wp2_with (first
    | (go_at_call 118; refine (counted_q a _ g s x (sb, se1) H.out HQ.out).mono ?_; rintro e w1 ⟨rfl, R1, O1⟩)
    | ((with_reducible show AtS 10); refine wpl_bytes bt _ HSZ.out rfl _ rfl rfl ?_; intro A2 m2 k2 w2 hr2 _ hx2; rw [strL_toList] at hr2)
    | fail)
  have R2 := Rdr.new hr2 0 132
  generalize hW3 : w2.alloc _ = W3 at R2 ⊢
  have hx3 : Ext w2 W3 := by rw [← hW3]; exact (Ext.refl _).alloc _
  have hsz3 : W3.heap.size = w2.heap.size + 1 := by rw [← hW3]; simp
  have RO : Rdr a W3 g (sb, se1) := R1.grow (hx2.trans hx3)
  have OO : On g w W3 := (O1.ext hx2).ext hx3
  have hg2 : w.heap.size ≤ w2.heap.size := Nat.le_trans O1.size (Ext.size hx2)
  have OA : OwnA W3 W3.heap.size (.slice none 0 0) [] := OwnR.nil _ _ _ _
  have hW23 : w2.heap.size ≤ W3.heap.size := by omega
  have hwW3 : w.heap.size ≤ W3.heap.size := by omega
  have hgW3 : g < W3.heap.size := by omega
  generalize hgg : w2.heap.size = g2 at R2 hsz3 hg2 ⊢
  have HSZ3 := Lib.hid hsz3
  clear hW3 hx3 hsz3 hgg hr2 hx2 R1 O1
  go_loopw [5, 6] (fun u _ W => ∃ done : Pairs, OwnA W W3.heap.size u done ∧ On g w W ∧ W3.heap.size ≤ W.heap.size ∧ done.length ≤ x.length ∧ Hid (
    (∃ st : List UInt8 × Int, ∃ fuel : Nat, Rdr w2 W g2 st ∧ Rdr a W g (sb, se1) ∧ done.length + fuel = x.length ∧ st.2 = 0 ∧ st.1.length ≤ fuel ∧ done.length ≤ 64 ∧ inA x.length (x, 0) = (done ++ (inA fuel st).1, (inA fuel st).2)) ∨
    (Rdr a W g (sb, 5) ∧ se1 = 0 ∧ badA (inA x.length (x, 0)) = true))) (fun u _ _ => x.length - lenV u)
  case atStart => exact ⟨[], OA, OO, Nat.le_refl _, by simp, Lib.hid (.inl ⟨(x, 0), x.length, R2, RO, by simp, rfl, Nat.le_refl _, by simp, rfl⟩)⟩
  case round =>
    clear R2 RO OO OA
    obtain ⟨done, OA, OO, hW, hdl, HD⟩ := hrel
    obtain ⟨Ad, cd, rfl, hd1, hd2⟩ := OA.recs.shape
    rw [pairsC_length] at OA hd1 ⊢
    unfold maxLen at hd2
    have HOA := Lib.hid OA
    have HOO := Lib.hid OO
    clear OA OO
    have hd := HD.out
    clear HD
    rcases hd with ⟨st, fuel, R2, RO, hlen, hst, hfu, h64, hI⟩ | ⟨RB, h1, hbad⟩
    · obtain ⟨sl, se⟩ := st
      dsimp only at hst hfu
      subst hst
      obtain ⟨vi, ci0, hri⟩ := R2.c0
      dsimp only at hri
      obtain ⟨Ai, ki, rfl, hli, hmi, _, _⟩ := hri
      unfold maxLen at hmi
      have HR2 := Lib.hid R2
      have HRO := Lib.hid RO
      have HI := Lib.hid hI
      have HL := Lib.hid hlen
      have co1 := RO.c1
      dsimp only at co1
      clear R2 RO hI hlen
      by_cases he : se1 = 0
      · subst he
        by_cases h1 : 0 < sl.length
        · have h1i : (sl.length : Int) > 0 := by omega
          obtain ⟨f, rfl⟩ : ∃ f, fuel = f + 1 := ⟨fuel - 1, by omega⟩
          obtain ⟨x1, t1, hu1⟩ : ∃ x1 t1, rU (sl, 0) = (x1, t1) := ⟨_, _, rfl⟩
          obtain ⟨x2, t2, hu2⟩ : ∃ x2 t2, rU t1 = (x2, t2) := ⟨_, _, rfl⟩
          have hin : inA (f + 1) (sl, 0) = ((x1, x2) :: (inA f t2).1, (inA f t2).2) := by rw [inA, if_pos ⟨h1, rfl⟩, hu1, hu2]
          have hnew : inA x.length (x, 0) = ((done ++ [(x1, x2)]) ++ (inA f t2).1, (inA f t2).2) := by rw [HI.out, hin, List.append_assoc]; rfl
          have hful : t2.2 = 0 → t2.1.length ≤ f := fun h => by
            have e1 : t1.2 = 0 := by
              rcases Int.decEq t1.2 0 with h3 | h3
              · rw [rU_err h3] at hu2; cases hu2; exact absurd h h3
              · exact h3
            have := rU_less hu1 rfl e1
            have := rU_less hu2 e1 h
            dsimp only at *
            omega
          have HNEW := Lib.hid hnew
          have HFUL := Lib.hid hful
          have HU1 := Lib.hid hu1
          have HU2 := Lib.hid hu2
          have hne : g ≠ g2 := by omega
          have hlt2 : g2 < W3.heap.size := by have := HSZ3.out; omega
          have hltg : g < W3.heap.size := by omega
          have HNE := Lib.hid hne
          have HFU := Lib.hid hfu
          clear hin hnew hful hu1 hu2 hne hfu HI
          obtain ⟨q1, hq1⟩ : ∃ q, (t2.2 != 0) = q := ⟨_, rfl⟩
          have HQ1 := Lib.hid hq1
          by_cases h64b : done.length = 64
          · have h64i : (done.length : Int) ≥ 64 := by omega
            have hbad : badA (inA x.length (x, 0)) = true := by
              rw [HNEW.out]
              unfold badA
              have : decide (64 < ((done ++ [(x1, x2)]) ++ (inA f t2).1, (inA f t2).2).1.length) = true := by
                simp; omega
              rw [this, Bool.or_true]
            have HBAD := Lib.hid hbad
            have H64 := Lib.hid h64b
            clear hbad h64b
            cases q1
            all_goals
              have tok1 : True := trivial
              have tok3 : True := trivial
              go_wp2_with (first
                | (go_at_call 118; have _t := tok1; refine (counted_q w2 _ g2 _ x1 t1 HR2.out HU1.out).mono ?_; rintro e w4 ⟨rfl, R4, O4⟩; clear tok1)
                | ((with_reducible show wpList _ _ _ (⟨some 6, Op.alloc _, _, _, _, _⟩ :: _) _ _); refine wpl_alloc rfl _ rfl [.string ⟨#[]⟩, .string ⟨#[]⟩] (by kernel_rfl) ?_; intro w5 B5 hx5)
                | ((with_reducible show AtW 149); refine wpl_store_box rfl _ _ _ rfl _ [.string (strL x1), .string ⟨#[]⟩] rfl rfl B5 rfl (by kernel_rfl) (by rfl) ?_; intro w6 B6 O6; have hx6 : Ext w4 w6 := hx5.on O6 (Nat.le_refl _))
                | (go_at_call 118; have _t := hx6; refine (counted_q w2 _ g2 _ x2 t2 (R4.grow hx6) HU2.out).mono ?_; rintro e w7 ⟨rfl, R7, O7⟩; have h24 : g2 ≠ w4.heap.size := (by have := O4.size; omega); have B7 := B6.on O7 (Ne.symm h24))
                | ((with_reducible show AtW 9); refine wpl_store_cell rfl _ _ _ rfl w4.heap.size 1 (.string (strL x2)) rfl rfl rfl rfl (by kernel_rfl) B7 (by simp) ?_; intro w8 B8 O8; have R8 := R7.on O8 h24 (by have := O4.size; have := HSZ3.out; omega); have c81 := R8.c1; have RO8 := (((HRO.out.on O4 HNE.out (by omega)).grow hx6).on O7 HNE.out (by omega)).on O8 (by have := O4.size; omega) (by have := O4.size; omega); have q81 : (t2.2 != 0) = _ := HQ1.out)
                | (go_at_call 107; refine (wrong_m a _ g (sb, 0) (sb, 5) true RO8 (by rfl)).mono ?_; rintro e w9 ⟨rfl, R9, O9⟩; have B9 := B8.on O9 (by have := O4.size; omega); have OA9 := OwnR.on (OwnR.keepB (OwnR.on (OwnR.ext (OwnR.on HOA.out O4 hlt2) hx6) O7 hlt2) O8 (fun e => by have := (OwnR.ltB (OwnR.on HOA.out O4 hlt2) e).2; omega)) O9 hltg; have hW9 : W3.heap.size ≤ w9.heap.size := (by have := O4.size; have := Ext.size hx6; have := O7.size; have := O8.size; have := O9.size; omega))
                | ((with_reducible show AtS 45); refine wpl_load_box rfl _ _ rfl _ rfl B9 Tryz.underlying149 rfl (by kernel_rfl) ?_)
                | ((with_reducible show AtS 47); refine wpl_append_rec (z := .agg #[.string ByteArray.empty, .string ByteArray.empty]) (bytes := 32) Tryz.underlying73 (by kernel_rfl) (by kernel_rfl) (by omega) (by omega) OA9 (pairC (x1, x2)) rfl (by kernel_rfl) rfl _ _ rfl rfl _ rfl rfl (by rw [pairsC_length]; omega) hW9 ?_; intro v10 w10 OA10 hb10)
                | fail)
              have e10 : pairsC done ++ [pairC (x1, x2)] = pairsC (done ++ [(x1, x2)]) := by simp [pairsC]
              rw [e10] at OA10
              obtain ⟨A10, c10, hv10, _, _⟩ := OA10.recs.shape
              have hm10 : lenV v10 = done.length + 1 := by rw [hv10, pairsC_length]; simp [lenV]
              have RO10 : Rdr a w10 g (sb, 5) := ⟨R9.lo, R9.ext.below hb10 (by omega), (hb10.frozen hltg).trans R9.f0, (hb10.frozen hltg).trans R9.f1, (hb10.cell (p := ⟨g, 1, none⟩) hltg).trans R9.c1, by obtain ⟨v0, hc, hr⟩ := R9.c0; exact ⟨v0, (hb10.cell (p := ⟨g, 0, none⟩) hltg).trans hc, hr⟩⟩
              have OO10 : On g w w10 := (((((HOO.out.onNew O4 hg2).ext hx6).onNew O7 hg2).onNew O8 (by have := O4.size; omega)).trans O9).below hb10 (by have := HSZ3.out; omega)
              go_roundw
              case rel => exact ⟨done ++ [(x1, x2)], OA10, OO10, Nat.le_trans hW9 (Below.size hb10), by have := HL.out; rw [List.length_append]; simp; omega, Lib.hid (.inr ⟨RO10, by first | rfl | trivial, HBAD.out⟩)⟩
              case measure =>
                rw [hm10]
                show x.length - (done.length + 1) < x.length - done.length
                have := HL.out
                omega
          · have h64i : ¬ (done.length : Int) ≥ 64 := by omega
            cases q1 with
            | true =>
              have hbad : badA (inA x.length (x, 0)) = true := by
                have h2 : t2.2 ≠ 0 := by simpa using hq1
                rw [HNEW.out, inA_end f t2 (fun h => h2 h.2)]
                unfold badA
                have : decide (((done ++ [(x1, x2)]) ++ ([] : Pairs), t2).2.2 ≠ 0) = true := by simpa using h2
                rw [this, Bool.true_or]
              have HBAD := Lib.hid hbad
              clear hbad
              have tok1 : True := trivial
              go_wp2_with (first
                | (go_at_call 118; have _t := tok1; refine (counted_q w2 _ g2 _ x1 t1 HR2.out HU1.out).mono ?_; rintro e w4 ⟨rfl, R4, O4⟩; clear tok1)
                | ((with_reducible show wpList _ _ _ (⟨some 6, Op.alloc _, _, _, _, _⟩ :: _) _ _); refine wpl_alloc rfl _ rfl [.string ⟨#[]⟩, .string ⟨#[]⟩] (by kernel_rfl) ?_; intro w5 B5 hx5)
                | ((with_reducible show AtW 149); refine wpl_store_box rfl _ _ _ rfl _ [.string (strL x1), .string ⟨#[]⟩] rfl rfl B5 rfl (by kernel_rfl) (by rfl) ?_; intro w6 B6 O6; have hx6 : Ext w4 w6 := hx5.on O6 (Nat.le_refl _))
                | (go_at_call 118; have _t := hx6; refine (counted_q w2 _ g2 _ x2 t2 (R4.grow hx6) HU2.out).mono ?_; rintro e w7 ⟨rfl, R7, O7⟩; have h24 : g2 ≠ w4.heap.size := (by have := O4.size; omega); have B7 := B6.on O7 (Ne.symm h24))
                | ((with_reducible show AtW 9); refine wpl_store_cell rfl _ _ _ rfl w4.heap.size 1 (.string (strL x2)) rfl rfl rfl rfl (by kernel_rfl) B7 (by simp) ?_; intro w8 B8 O8; have R8 := R7.on O8 h24 (by have := O4.size; have := HSZ3.out; omega); have c81 := R8.c1; have RO8 := (((HRO.out.on O4 HNE.out (by omega)).grow hx6).on O7 HNE.out (by omega)).on O8 (by have := O4.size; omega) (by have := O4.size; omega); have q81 : (t2.2 != 0) = _ := HQ1.out)
                | (go_at_call 107; refine (wrong_m a _ g (sb, 0) (sb, 5) true RO8 (by rfl)).mono ?_; rintro e w9 ⟨rfl, R9, O9⟩; have B9 := B8.on O9 (by have := O4.size; omega); have OA9 := OwnR.on (OwnR.keepB (OwnR.on (OwnR.ext (OwnR.on HOA.out O4 hlt2) hx6) O7 hlt2) O8 (fun e => by have := (OwnR.ltB (OwnR.on HOA.out O4 hlt2) e).2; omega)) O9 hltg; have hW9 : W3.heap.size ≤ w9.heap.size := (by have := O4.size; have := Ext.size hx6; have := O7.size; have := O8.size; have := O9.size; omega))
                | ((with_reducible show AtS 45); refine wpl_load_box rfl _ _ rfl _ rfl B9 Tryz.underlying149 rfl (by kernel_rfl) ?_)
                | ((with_reducible show AtS 47); refine wpl_append_rec (z := .agg #[.string ByteArray.empty, .string ByteArray.empty]) (bytes := 32) Tryz.underlying73 (by kernel_rfl) (by kernel_rfl) (by omega) (by omega) OA9 (pairC (x1, x2)) rfl (by kernel_rfl) rfl _ _ rfl rfl _ rfl rfl (by rw [pairsC_length]; omega) hW9 ?_; intro v10 w10 OA10 hb10)
                | fail)
              have e10 : pairsC done ++ [pairC (x1, x2)] = pairsC (done ++ [(x1, x2)]) := by simp [pairsC]
              rw [e10] at OA10
              obtain ⟨A10, c10, hv10, _, _⟩ := OA10.recs.shape
              have hm10 : lenV v10 = done.length + 1 := by rw [hv10, pairsC_length]; simp [lenV]
              have RO10 : Rdr a w10 g (sb, 5) := ⟨R9.lo, R9.ext.below hb10 (by omega), (hb10.frozen hltg).trans R9.f0, (hb10.frozen hltg).trans R9.f1, (hb10.cell (p := ⟨g, 1, none⟩) hltg).trans R9.c1, by obtain ⟨v0, hc, hr⟩ := R9.c0; exact ⟨v0, (hb10.cell (p := ⟨g, 0, none⟩) hltg).trans hc, hr⟩⟩
              have OO10 : On g w w10 := (((((HOO.out.onNew O4 hg2).ext hx6).onNew O7 hg2).onNew O8 (by have := O4.size; omega)).trans O9).below hb10 (by have := HSZ3.out; omega)
              go_roundw
              case rel => exact ⟨done ++ [(x1, x2)], OA10, OO10, Nat.le_trans hW9 (Below.size hb10), by have := HL.out; rw [List.length_append]; simp; omega, Lib.hid (.inr ⟨RO10, by first | rfl | trivial, HBAD.out⟩)⟩
              case measure =>
                rw [hm10]
                show x.length - (done.length + 1) < x.length - done.length
                have := HL.out
                omega
            | false =>
              have h2 : t2.2 = 0 := by simpa using hq1
              have HT2 := Lib.hid h2
              clear h2
              have tok1 : True := trivial
              go_wp2_with (first
                | (go_at_call 118; have _t := tok1; refine (counted_q w2 _ g2 _ x1 t1 HR2.out HU1.out).mono ?_; rintro e w4 ⟨rfl, R4, O4⟩; clear tok1)
                | ((with_reducible show wpList _ _ _ (⟨some 6, Op.alloc _, _, _, _, _⟩ :: _) _ _); refine wpl_alloc rfl _ rfl [.string ⟨#[]⟩, .string ⟨#[]⟩] (by kernel_rfl) ?_; intro w5 B5 hx5)
                | ((with_reducible show AtW 149); refine wpl_store_box rfl _ _ _ rfl _ [.string (strL x1), .string ⟨#[]⟩] rfl rfl B5 rfl (by kernel_rfl) (by rfl) ?_; intro w6 B6 O6; have hx6 : Ext w4 w6 := hx5.on O6 (Nat.le_refl _))
                | (go_at_call 118; have _t := hx6; refine (counted_q w2 _ g2 _ x2 t2 (R4.grow hx6) HU2.out).mono ?_; rintro e w7 ⟨rfl, R7, O7⟩; have h24 : g2 ≠ w4.heap.size := (by have := O4.size; omega); have B7 := B6.on O7 (Ne.symm h24))
                | ((with_reducible show AtW 9); refine wpl_store_cell rfl _ _ _ rfl w4.heap.size 1 (.string (strL x2)) rfl rfl rfl rfl (by kernel_rfl) B7 (by simp) ?_; intro w8 B8 O8; have R8 := R7.on O8 h24 (by have := O4.size; have := HSZ3.out; omega); have c81 := R8.c1; have RO8 := (((HRO.out.on O4 HNE.out (by omega)).grow hx6).on O7 HNE.out (by omega)).on O8 (by have := O4.size; omega) (by have := O4.size; omega); have q81 : (t2.2 != 0) = _ := HQ1.out)
                | (go_at_call 107; rw [show decide ((64 : Int) ≤ ((done.length : Nat) : Int)) = false from decide_eq_false (by omega)]; refine (wrong_no a _ g (sb, 0) RO8).mono ?_; rintro e wx ⟨rfl, rfl⟩; have OA9 := OwnR.keepB (OwnR.on (OwnR.ext (OwnR.on HOA.out O4 hlt2) hx6) O7 hlt2) O8 (fun e => by have := (OwnR.ltB (OwnR.on HOA.out O4 hlt2) e).2; omega); have hW9 : W3.heap.size ≤ w8.heap.size := (by have := O4.size; have := Ext.size hx6; have := O7.size; have := O8.size; omega))
                | ((with_reducible show AtS 45); refine wpl_load_box rfl _ _ rfl _ rfl B8 Tryz.underlying149 rfl (by kernel_rfl) ?_)
                | ((with_reducible show AtS 47); refine wpl_append_rec (z := .agg #[.string ByteArray.empty, .string ByteArray.empty]) (bytes := 32) Tryz.underlying73 (by kernel_rfl) (by kernel_rfl) (by omega) (by omega) OA9 (pairC (x1, x2)) rfl (by kernel_rfl) rfl _ _ rfl rfl _ rfl rfl (by rw [pairsC_length]; omega) hW9 ?_; intro v10 w10 OA10 hb10)
                | fail)
              have e10 : pairsC done ++ [pairC (x1, x2)] = pairsC (done ++ [(x1, x2)]) := by simp [pairsC]
              rw [e10] at OA10
              obtain ⟨A10, c10, hv10, _, _⟩ := OA10.recs.shape
              have hm10 : lenV v10 = done.length + 1 := by rw [hv10, pairsC_length]; simp [lenV]
              have RO10 : Rdr a w10 g (sb, 0) := ⟨RO8.lo, RO8.ext.below hb10 (by omega), (hb10.frozen hltg).trans RO8.f0, (hb10.frozen hltg).trans RO8.f1, (hb10.cell (p := ⟨g, 1, none⟩) hltg).trans RO8.c1, by obtain ⟨v0, hc, hr⟩ := RO8.c0; exact ⟨v0, (hb10.cell (p := ⟨g, 0, none⟩) hltg).trans hc, hr⟩⟩
              have R10 : Rdr w2 w10 g2 t2 := ⟨R8.lo, R8.ext.below hb10 (by have := Ext.size R8.ext; have := HSZ3.out; omega), (hb10.frozen hlt2).trans R8.f0, (hb10.frozen hlt2).trans R8.f1, (hb10.cell (p := ⟨g2, 1, none⟩) hlt2).trans R8.c1, by obtain ⟨v0, hc, hr⟩ := R8.c0; exact ⟨v0, (hb10.cell (p := ⟨g2, 0, none⟩) hlt2).trans hc, hr⟩⟩
              have OO10 : On g w w10 := ((((HOO.out.onNew O4 hg2).ext hx6).onNew O7 hg2).onNew O8 (by have := O4.size; omega)).below hb10 (by have := HSZ3.out; omega)
              go_roundw
              case rel => exact ⟨done ++ [(x1, x2)], OA10, OO10, Nat.le_trans hW9 (Below.size hb10), by have := HL.out; rw [List.length_append]; simp; omega, Lib.hid (.inl ⟨t2, f, R10, RO10, by have := HL.out; rw [List.length_append]; simp; omega, HT2.out, HFUL.out HT2.out, by rw [List.length_append]; simp; omega, HNEW.out⟩)⟩
              case measure =>
                rw [hm10]
                show x.length - (done.length + 1) < x.length - done.length
                have := HL.out
                omega
        · have h1i : ¬ (sl.length : Int) > 0 := by omega
          have hend : (sb, (0 : Int)) = s' := by
            have hbad : badA (inA x.length (x, 0)) = false := by
              rw [HI.out, inA_end fuel (sl, 0) (fun h => h1 h.1)]
              unfold badA
              simp
              omega
            rw [HS'.out, if_pos rfl, hbad]
            rfl
          have HEND := Lib.hid hend
          clear hend
          go_wp2_with fail
          go_ret
          exact ⟨_, done, rfl, HOA.out.more (by have := HSZ3.out; omega), HEND.out ▸ HRO.out, HOO.out⟩
      · have heb : (se1 == 0) = false := by simpa using he
        have hend : (sb, se1) = s' := by rw [HS'.out, if_neg he]
        have HEND := Lib.hid hend
        clear hend he
        go_wp2_with fail
        go_ret
        exact ⟨_, done, rfl, HOA.out.more (by have := HSZ3.out; omega), HEND.out ▸ HRO.out, HOO.out⟩
    · subst h1
      have co1 := RB.c1
      dsimp only at co1
      have HRB := Lib.hid RB
      have hend : (sb, (5 : Int)) = s' := by rw [HS'.out, if_pos rfl, hbad]; rfl
      have HEND := Lib.hid hend
      clear RB hbad hend
      go_wp2_with fail
      go_ret
      exact ⟨_, done, rfl, HOA.out.more (by have := HSZ3.out; omega), HEND.out ▸ HRB.out, HOO.out⟩
end Go.Proofs.YtbodppfpmpmadaaGreat

namespace Go.Proofs.YtbodppfpmpmadaaGreat
open Go.RowKit

structure RetChgR (w : World) (r : ChgV × Int) (e : Ending) (w' : World) : Prop where
  all : ∃ vr B m d, e = .returned (.tuple #[.agg (chgC r.1 vr (.slice B m d)).toArray, .int .i64 r.2]) ∧ Rd w' vr r.1.resp ∧ Ext w w'
end Go.Proofs.YtbodppfpmpmadaaGreat

