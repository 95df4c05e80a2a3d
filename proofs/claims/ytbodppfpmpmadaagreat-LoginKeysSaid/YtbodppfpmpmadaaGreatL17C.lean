import Derived.Test.YtbodppfpmpmadaaGreatKyCC
import Derived.Test.YtbodppfpmpmadaaGreatRfGr1C
import Derived.Test.YtbodppfpmpmadaaGreatRfGr3C
import Derived.Test.YtbodppfpmpmadaaGreatRfJlC
import Derived.Test.YtbodppfpmpmadaaGreatRfJrC
import Derived.Test.YtbodppfpmpmadaaGreatL16C
import Derived.Deep.RegionHeld3
import Derived.Test.YtbodppfpmpmadaaGreatLogXC
import Derived.Test.YtbodppfpmpmadaaGreatL15C
import Derived.Test.YtbodppfpmpmadaaGreatRfGC
import Derived.Test.YtbodppfpmpmadaaGreatL1C
namespace Go.Proofs.YtbodppfpmpmadaaGreat
open Go.RowKit

theorem readGreetingR_s (w : World) (v : Value) (L ver n pl : List UInt8) (thr caps ch st er : Int) (hr : Rd w v L) (h : overP greetM gre0 L = (⟨ver, thr, n, caps, ch, st, pl⟩, er)) :
    Calls Tryz.prog 125 #[v] w fun e w' => ∃ A k c, e = .returned (.tuple #[.agg #[.string (strL ver), .int .u32 thr, .slice A k c, .int .u32 caps, .int .u8 ch, .int .u16 st, .string (strL pl)], .int .i64 er]) ∧ Rd w' (.slice A k c) n ∧ Ext w w' := by
  have hG : Calls Tryz.prog 125 #[v] w (RetGre w (overP greetM gre0 L)) := by
    cases hk : hasC (greetM (L, 0)).1.caps 524288 with
    | true =>
      by_cases he : (overP greetM gre0 L).2 = 0
      · exact readGreetingR_ta w v L hr hk he
      · exact readGreetingR_tz w v L hr hk he
    | false =>
      by_cases he : (overP greetM gre0 L).2 = 0
      · exact readGreetingR_fa w v L hr hk he
      · exact readGreetingR_fz w v L hr hk he
  refine hG.mono ?_
  rw [h]
  rintro e w' ⟨vn, rfl, hr2, hx⟩
  obtain ⟨A, c, hv, _⟩ := id hr2
  subst hv
  exact ⟨A, _, c, rfl, hr2, hx⟩
theorem readSwitchR_s (w : World) (v : Value) (L pl n : List UInt8) (er : Int) (hr : Rd w v L) (h : overP switchM ([], []) L = ((pl, n), er)) :
    Calls Tryz.prog 75 #[v] w fun e w' => ∃ A k c, e = .returned (.tuple #[.agg #[.string (strL pl), .slice A k c], .int .i64 er]) ∧ Rd w' (.slice A k c) n ∧ Ext w w' := by
  refine (readSwitchR_g w v L hr).mono ?_
  rw [h]
  rintro e w' ⟨vn, rfl, hr2, hx⟩
  obtain ⟨A, c, hv, _⟩ := id hr2
  subst hv
  exact ⟨A, _, c, rfl, hr2, hx⟩
theorem appendAnswerR_g (w : World) (caps most ch : Int) (user resp db pl : List UInt8) (vr : Value) (hr : Rd w vr resp) (h : AnsOk ⟨caps, most, ch, user, resp, db, pl, []⟩) (hkp : hasC caps 524288 = true) (hkd : hasC caps 8 = !db.isEmpty)
    (hul : user.length ≤ 10000) (hdl : db.length ≤ 10000) (hpl : pl.length ≤ 10000) :
    Calls Tryz.prog 126 #[.slice none 0 0, .agg #[.int .u32 caps, .int .u32 most, .int .u8 ch, .string (strL user), vr, .string (strL db), .string (strL pl), .slice none 0 0]] w (RetBE w (answerB ⟨caps, most, ch, user, resp, db, pl, []⟩) 0) := by
  cases hk : hasC caps 2097152 with
  | true => exact appendAnswerR_l w caps most ch user resp db pl vr hr h hkp hkd hul hdl hpl hk
  | false => exact appendAnswerR_r w caps most ch user resp db pl vr hr h hkp hkd hul hdl hpl hk
def krc (K : KeyV) : List Value := [.bool true, .string (strL K.us), .string (strL K.pw), .string (strL K.sc), .int .u32 K.own, .int .u8 K.ch, .bool K.hd, .int .i64 K.st, .int .u32 K.c, .int .u32 K.t]
def KeyRf (w : World) (g : Nat) (K : KeyV) : Prop := BoxF w g (krc K)
theorem KeyRf.ext {w w' : World} {g : Nat} {K : KeyV} (h : KeyRf w g K) (k : Ext w w') : KeyRf w' g K := BoxF.ext h k
theorem KeyRf.on {w w' : World} {g b : Nat} {K : KeyV} (h : KeyRf w g K) (k : On b w w') (hne : g ≠ b) : KeyRf w' g K := BoxF.on h k hne
theorem kfailsR_c (w : World) (g : Nat) (K : KeyV) (h : KeyRf w g K) :
    Calls Tryz.prog 74 #[.pointer (some ⟨g, 0, none⟩)] w fun e w' => e = .returned (.tuple #[.slice none 0 0, .int .i64 0]) ∧ KeyRf w' g { K with st := 3 } ∧ On g w w' := by
  have HH := Lib.hid h
  clear h
  go_enter Tryz.func74, Tryz.ntmps74
  go_wp2_with (first
    | ((with_reducible show AtW 3); refine wpl_store_cell rfl _ _ _ rfl g 7 (.int .i64 3) rfl rfl rfl rfl (by kernel_rfl) HH.out (show 7 < 10 by decide) ?_; intro w1 B1 O1)
    | fail)
  go_ret2
  exact ⟨rfl, B1, O1⟩
set_option linter.unusedVariables false in
set_option maxRecDepth 100000 in
set_option maxHeartbeats 8000000 in
theorem greetedR_no (w : World) (g : Nat) (K : KeyV) (l ver n pl : List UInt8) (thr caps chg stg er : Int) (vb : Value) (h : KeyRf w g K) (hr : Rd w vb l) (hA : overP greetM gre0 l = (⟨ver, thr, n, caps, chg, stg, pl⟩, er)) (hk : er = 0 → checkC (bothC caps (ownK K)) ≠ 0) :
    Calls Tryz.prog 73 #[.pointer (some ⟨g, 0, none⟩), vb] w fun e w' => e = .returned (.tuple #[.slice none 0 0, .int .i64 0]) ∧ KeyRf w' g { K with st := 3 } ∧ On g w w' := by
  obtain ⟨us, pw, sc, own, ch, st, c0, t0, hd⟩ := K
  have HB := Lib.hid h
  have HR := Lib.hid hr
  have HA := Lib.hid hA
  obtain ⟨Ab, cb, rfl, _⟩ := hr
  by_cases he : er = 0
  · subst he
    obtain ⟨q, hq⟩ : ∃ q, (strL sc).toList.isEmpty = q := ⟨_, rfl⟩
    have hq2 : sc.isEmpty = q := by rw [← hq, strL_tl]
    obtain ⟨c, hc⟩ : ∃ c, c = bothC caps (ownK ⟨us, pw, sc, own, ch, st, c0, t0, hd⟩) := ⟨_, rfl⟩
    have how : bothC caps (if q then bits .andNot .u32 own 8 else bits .or .u32 own 8) = c := by
      rw [hc]
      unfold ownK
      dsimp only
      rw [hq2]
    have hk2 := hk rfl
    rw [← hc] at hk2
    obtain ⟨ck, hck⟩ : ∃ ck, checkC c = ck := ⟨_, rfl⟩
    have hb : (ck != 0) = true := by rw [← hck]; simpa using hk2
    have HW := Lib.hid how
    have HK := Lib.hid hck
    clear h hA hk hk2 hck hc how hq2
    cases q
    all_goals
      go_enter Tryz.func73, Tryz.ntmps73
      go_wp2_with (first
        | (go_at_call 125; refine (readGreetingR_s _ _ l ver n pl thr caps chg stg 0 HR.out HA.out).mono ?_; rintro e w1 ⟨A1, k1, c1, rfl, hr1, hx1⟩)
        | ((with_reducible show wpList _ _ _ (⟨some 6, Op.alloc _, _, _, _, _⟩ :: _) _ _); refine wpl_alloc rfl _ rfl gre0K (by kernel_rfl) ?_; intro w2 B2 hx2)
        | ((with_reducible show AtW 29); refine wpl_store_box rfl _ _ _ rfl _ [.string (strL ver), .int .u32 thr, .slice A1 k1 c1, .int .u32 caps, .int .u8 chg, .int .u16 stg, .string (strL pl)] rfl rfl B2 rfl (by kernel_rfl) (by rfl) ?_; intro w3 B3 O3; have hx13 : Ext w1 w3 := hx2.on O3 (Nat.le_refl _); have BK3 := HB.out.ext (hx1.trans hx13); have d4 := BoxF.at BK3 (j := 4) rfl; have d3 := BoxF.at BK3 (j := 3) rfl; have b3 := B3.at (j := 3) rfl; clear B2 O3 hx2)
        | (go_at_call 66; refine (bothR_c _ caps _).mono ?_; (first | rw [show bothC caps (bits .andNot .u32 own 8) = c from HW.out] | rw [show bothC caps (bits .or .u32 own 8) = c from HW.out] | fail); rintro e wx ⟨rfl, rfl⟩; clear d3 d4 b3)
        | (go_at_call 59; refine (capsCheckR_c _ c).mono ?_; rw [HK.out]; rintro e wx ⟨rfl, rfl⟩)
        | (go_at_call 74; refine (kfailsR_c _ g _ BK3).mono ?_; rintro e w9 ⟨rfl, B9, O9⟩)
        | fail)
      go_ret2
      exact ⟨rfl, B9, (On.of (hx1.trans hx13)).trans O9⟩
  · have hb : (er != 0) = true := by simpa using he
    clear h hA hk he
    go_enter Tryz.func73, Tryz.ntmps73
    go_wp2_with (first
      | (go_at_call 125; refine (readGreetingR_s _ _ l ver n pl thr caps chg stg er HR.out HA.out).mono ?_; rintro e w1 ⟨A1, k1, c1, rfl, hr1, hx1⟩)
      | ((with_reducible show wpList _ _ _ (⟨some 6, Op.alloc _, _, _, _, _⟩ :: _) _ _); refine wpl_alloc rfl _ rfl gre0K (by kernel_rfl) ?_; intro w2 B2 hx2)
      | ((with_reducible show AtW 29); refine wpl_store_box rfl _ _ _ rfl _ [.string (strL ver), .int .u32 thr, .slice A1 k1 c1, .int .u32 caps, .int .u8 chg, .int .u16 stg, .string (strL pl)] rfl rfl B2 rfl (by kernel_rfl) (by rfl) ?_; intro w3 B3 O3; have hx13 : Ext w1 w3 := hx2.on O3 (Nat.le_refl _); have BK3 := HB.out.ext (hx1.trans hx13))
      | (go_at_call 74; refine (kfailsR_c _ g _ BK3).mono ?_; rintro e w9 ⟨rfl, B9, O9⟩)
      | fail)
    go_ret2
    exact ⟨rfl, B9, (On.of (hx1.trans hx13)).trans O9⟩
end Go.Proofs.YtbodppfpmpmadaaGreat

namespace Go.Proofs.YtbodppfpmpmadaaGreat
open Go.RowKit

def rNn : List UInt8 := respP 1 [112, 119] nonceT
theorem checkE_nonceT : checkE nonceT = 0 := by decide +kernel
theorem rN_len : rNn.length = 20 := by
  unfold rNn respP
  rw [if_pos ⟨checkE_nonceT, by decide⟩, xorL_length, sumP_len 1 _ (.inl rfl), mixP_len 1 _ _ (.inl rfl)]
  rfl
theorem over_ansL (nm pl r : List UInt8) (h1 : nm.contains 0 = false) (h2 : pl.contains 0 = false) (h3 : r.length ≤ 255) : overP answerM ans0 (ansL nm pl r) = (⟨565760, 16777216, 45, nm, r, [], pl, []⟩, 0) :=
  overP_full (eats_answer _ (ansL_ok nm pl r h1 h2 h3) (fun p hp => by simp at hp) (by simp [attrsB]))
theorem both_all : bothC 565760 565760 = 565760 := by decide +kernel
theorem check_all : checkC 565760 = 0 := by decide +kernel
def d0N (h : List UInt8) : DoorV := door0 [userN] 565760 nonceT h
def d1N (h : List UInt8) (st : Int) (nx : Nat) : DoorV := ⟨[userN], 565760, nonceT, h, st, 565760, nx, userN, true, [100]⟩
theorem d0N_fit (h : List UInt8) : DoorFit (d0N h) := ⟨fun u hu => by
  have : u = userN := by simpa [d0N, door0] using hu
  subst this
  exact ⟨by decide, by decide, by decide⟩, fitU_zero, show nonceT.length = 20 by decide +kernel, show nonceOk nonceT = true by decide +kernel⟩
theorem answerP_of (D : DoorV) (l : List UInt8) (a : AnsV) (h : overP answerM ans0 l = (a, 0)) (c : Int) (hb : bothC D.gc a.caps = c) (hk : checkC c = 0) :
    answerP D l = if (whoP { D with c := c } a.user a.db).kn && a.pl == (whoP { D with c := c } a.user a.db).u.pl then lookP (whoP { D with c := c } a.user a.db) a.resp else changeP (whoP { D with c := c } a.user a.db) := by
  unfold answerP
  simp only [h, hb, hk, ↓reduceIte]
theorem feed0 (h l : List UInt8) : feedP (d0N h) l = ((answerP (d0N h) l).1, 0, (answerP (d0N h) l).2) := rfl
theorem ans_known (h pl r : List UInt8) (h2 : pl.contains 0 = false) (h3 : r.length ≤ 255) : answerP (d0N h) (ansL [117] pl r) = if pl == natL then lookP (d1N h 1 0) r else changeP (d1N h 1 0) := by
  rw [answerP_of (d0N h) _ _ (over_ansL [117] pl r (by decide) h2 h3) 565760 both_all check_all]
  have e : whoP { d0N h with c := 565760 } [117] [] = d1N h 1 0 := rfl
  dsimp only
  rw [e]
  rfl
theorem look_yes (h : List UInt8) (nx : Nat) : lookP (d1N h 1 nx) rNn = ([okL 565760], d1N h 2 nx) := by
  unfold lookP
  have e : respPl (d1N h 1 nx).u.pl (d1N h 1 nx).u.pw (d1N h 1 nx).n = rNn := rfl
  rw [e]
  have e2 : (rNn == rNn) = true := by simp
  rw [e2]
  rfl
theorem ex_right (h : List UInt8) : feedP (d0N h) (ansL [117] natL rNn) = ([okL 565760], 0, d1N h 2 0) := by
  rw [feed0, ans_known h natL rNn (by decide) (by rw [rN_len]; decide), if_pos (by decide), look_yes]
theorem okL_head : ∃ t, okL 565760 = 0 :: t := ⟨_, rfl⟩
theorem goodN : GoodU [userN] := fun k hk => by
  have : k = 0 := by simpa using hk
  subst this
  exact ⟨by decide +kernel, rfl⟩
theorem DoorIs.ext {w w' : World} {S : List Nat} {g : Nat} {D : DoorV} (h : DoorIs w S g D) (k : Ext w w') : DoorIs w' S g D := by
  obtain ⟨K, fv, h⟩ := h
  exact ⟨K, fv, h.ext k⟩
theorem DoorIs.on {w w' : World} {S : List Nat} {g b : Nat} {D : DoorV} (h : DoorIs w S g D) (k : On b w w') (hb : b ∈ S) (hne : g ≠ b) : DoorIs w' S g D := by
  obtain ⟨K, fv, h⟩ := h
  exact ⟨K, fv, h.on k hb hne⟩
theorem recs_one (w : World) (u : UserV) (t : TypeId) : Recs (w.alloc (.cells #[.string (strL u.name), .string (strL u.pw), .string (strL u.pl), .string (strL u.sc), .bool u.adm] t)) 5 (.slice (some ⟨w.heap.size, 0, none⟩) 1 1) [userC u] := by
  refine ⟨_, 1, rfl, Nat.le_refl _, by unfold maxLen; simp, fun _ => ⟨w.heap.size, 0, rfl, fun j hj => ?_⟩⟩
  have : j = 0 := by simpa using hj
  subst this
  intro i v hv
  have h9 := (Box.new w (userC u) t).range i v hv
  rw [show 0 + 0 * 5 + i = 0 + i by omega]
  exact h9
theorem ListsN.head {w : World} {base : Nat} {v : Value} {x : UInt8} {t : List UInt8} {r : List (List UInt8)} (h : ListsN w base v ((x :: t) :: r)) :
    ∃ b o cap b2 o2 c2 M, v = .slice (some ⟨b, o, none⟩) (r.length + 1) cap ∧ 0 < M ∧ w.cell? ⟨b, o, none⟩ = some (.slice (some ⟨b2, o2, none⟩) M c2) ∧ w.cell? ⟨b2, o2, none⟩ = some (.int .u8 (x.toNat : Int)) := by
  obtain ⟨A, cap, hv, hc1, hc2, hcs⟩ := h
  obtain ⟨b, o, rfl, _, hcell⟩ := hcs (by simp)
  obtain ⟨u, hu, hr⟩ := hcell 0 (by simp)
  obtain ⟨A2, c2, rfl, _, _, _, hz⟩ := hr.rd
  obtain ⟨b2, o2, rfl, hcell2⟩ := hz (by simp)
  have p := hcell2 0 (by simp)
  rw [Nat.add_zero] at hu p
  exact ⟨b, o, cap, b2, o2, c2, _, hv, by simp, hu, p⟩
end Go.Proofs.YtbodppfpmpmadaaGreat

namespace Go.Proofs.YtbodppfpmpmadaaGreat
open Go.RowKit

def smallQ (ls : List (List UInt8)) : Bool := decide ((∀ j, j < ls.length → (ls.getD j []).length ≤ 3000) ∧ ls.length ≤ 100)
theorem small27_c (w : World) (v : Value) (ls : List (List UInt8)) (h : Lists w v ls) : Calls Tryz.prog 18 #[v] w fun e w' => e = .returned (.bool (smallQ ls)) ∧ w = w' := by
  obtain ⟨A, cap, rfl, hle, hm, hc⟩ := h
  obtain ⟨N, hN⟩ : ∃ N, N = ls.length := ⟨_, rfl⟩
  rw [← hN] at hle hc ⊢
  unfold maxLen at hm
  have HN := Lib.hid hN
  have HC := Lib.hid hc
  clear hN hc
  go_enter Tryz.func18, Tryz.ntmps18
  go_wp2_with fail
  go_loop [3] (fun i => ∃ k : Nat, k ≤ N ∧ i = .int .i64 k ∧ Hid (∀ j, j < k → (ls.getD j []).length ≤ 3000)) (fun i => N - (intOf i).toNat)
  case atStart => exact ⟨0, Nat.zero_le _, rfl, Lib.hid (fun j hj => by omega)⟩
  case round =>
    obtain ⟨k, hk, rfl, HJ⟩ := hrel
    by_cases hlt : k < N
    · have hki : (k : Int) < (N : Int) := by omega
      obtain ⟨b, o, rfl, hcs⟩ := HC.out (by intro e; have := HN.out; subst e; simp at this; omega)
      obtain ⟨u, hcu, hru⟩ := hcs k hlt
      obtain ⟨Au, cu, rfl, hl1, hl2, _⟩ := hru
      obtain ⟨L, hL⟩ : ∃ L, L = (ls.getD k []).length := ⟨_, rfl⟩
      rw [← hL] at hcu hl1
      unfold maxLen at hl2
      have HL := Lib.hid hL
      clear hcs hL
      by_cases h3 : L ≤ 3000
      · have h3i : ¬ (L : Int) > 3000 := by omega
        go_wp2_with fail
        go_round
        case rel =>
          refine ⟨k + 1, by omega, by go_num, Lib.hid (fun j hj => ?_)⟩
          rcases Nat.lt_succ_iff_lt_or_eq.1 hj with h9 | h9
          · exact HJ.out j h9
          · subst h9; rw [← HL.out]; exact h3
        case measure => simp [intOf]; omega
      · have h3i : (L : Int) > 3000 := by omega
        go_wp2_with fail
        go_ret
        exact ⟨congrArg (fun z => Ending.returned (.bool z)) (decide_eq_false (fun h => h3 (by rw [HL.out]; exact h.1 k (by rw [← HN.out]; exact hlt)))).symm, rfl⟩
    · obtain rfl : k = N := by omega
      have hki : ¬ (k : Int) < (k : Int) := by omega
      by_cases h100 : k ≤ 100
      · have h1 : (k : Int) ≤ 100 := by omega
        go_wp2_with fail
        go_ret
        exact ⟨congrArg (fun z => Ending.returned (.bool z)) (decide_eq_true ⟨fun j hj => HJ.out j (by rw [HN.out]; exact hj), by rw [← HN.out]; exact h100⟩).symm, rfl⟩
      · have h1 : ¬ (k : Int) ≤ 100 := by omega
        go_wp2_with fail
        go_ret
        exact ⟨congrArg (fun z => Ending.returned (.bool z)) (decide_eq_false (fun h => h100 (by rw [HN.out]; exact h.2))).symm, rfl⟩
set_option maxHeartbeats 1000000 in
theorem packets27_c (w : World) (va vb : Value) (ls : List (List UInt8)) (ha : Lists w va ls) (hb : Lists w vb ls) : Calls Tryz.prog 25 #[va, vb] w fun e w' => e = .returned (.bool true) ∧ Ext w w' := by
  obtain ⟨A, cap, rfl, hle, hm, hc⟩ := ha
  obtain ⟨B, cap2, rfl, hle2, hm2, hc2⟩ := hb
  obtain ⟨N, hN⟩ : ∃ N, N = ls.length := ⟨_, rfl⟩
  rw [← hN] at hle hc hle2 hc2 ⊢
  unfold maxLen at hm hm2
  have HN := Lib.hid hN
  have HC := Lib.hid hc
  have HC2 := Lib.hid hc2
  clear hN hc hc2
  go_enter Tryz.func25, Tryz.ntmps25
  go_wp2_with fail
  go_loopw [5] (fun i W => ∃ k : Nat, k ≤ N ∧ i = .int .i64 k ∧ Ext w W) (fun i _ => N - (intOf i).toNat)
  case atStart => exact ⟨0, Nat.zero_le _, rfl, Ext.refl _⟩
  case round =>
    obtain ⟨k, hk, rfl, hx⟩ := hrel
    have HX := Lib.hid hx
    by_cases hlt : k < N
    · have hki : (k : Int) < (N : Int) := by omega
      have hne : ls ≠ [] := by intro e; have := HN.out; subst e; simp at this; omega
      obtain ⟨b, o, rfl, hcs⟩ := HC.out hne
      obtain ⟨b2, o2, rfl, hcs2⟩ := HC2.out hne
      obtain ⟨u, hcu, hru⟩ := hcs k hlt
      obtain ⟨u2, hcu2, hru2⟩ := hcs2 k hlt
      have HRU := Lib.hid hru
      have HRU2 := Lib.hid hru2
      have e0 := hx.cell hcu
      have e1 := hx.cell hcu2
      clear hcs hcs2 hru hru2 hcu hcu2 hne hx
      go_wp2_with fail
      have hE := Ext.refl wr
      go_region_held3 (fun W' => W'.cell? ⟨b, o + k, none⟩ = some u ∧ W'.cell? ⟨b2, o2 + k, none⟩ = some u2 ∧ Ext wr W') ((refine (fun h => ⟨Ext.cell h e0, Ext.cell h e1, h⟩) ?_; repeat' (first | with_reducible exact hE | (with_reducible refine Ext.drew ?_) | (with_reducible refine Ext.alloc ?_ _))))
        (first
          | (go_at_call 30; go_must (refine (same_c _ _ _ (ls.getD k []) (ls.getD k []) (HRU.out.ext (HX.out.trans (by repeat' (first | exact hE | (with_reducible refine Ext.drew ?_) | (with_reducible refine Ext.alloc ?_ _))))) (HRU2.out.ext (HX.out.trans (by repeat' (first | exact hE | (with_reducible refine Ext.drew ?_) | (with_reducible refine Ext.alloc ?_ _))))) true (by simp)).mono ?_; rintro e wx ⟨rfl, rfl⟩))
          | fail)
      go_wp2_with fail
      go_roundw
      case rel => exact ⟨k + 1, by omega, by go_num, HX.out.drew⟩
      case measure => simp [intOf]; omega
    · obtain rfl : k = N := by omega
      have hki : ¬ (k : Int) < (k : Int) := by omega
      go_wp2_with fail
      go_ret
      exact ⟨rfl, HX.out⟩

theorem RefIs.on {w w' : World} {S : List Nat} {g b : Nat} {D : DoorV} (h : RefIs w S g D) (k : On b w w') (hb : b ∈ S) (hne : g ≠ b) : RefIs w' S g D := by
  obtain ⟨K, aw, sv, h⟩ := h
  exact ⟨K, aw, sv, h.on k hb hne⟩
theorem RefIs.ext {w w' : World} {S : List Nat} {g : Nat} {D : DoorV} (h : RefIs w S g D) (k : Ext w w') : RefIs w' S g D := by
  obtain ⟨K, aw, sv, h⟩ := h
  exact ⟨K, aw, sv, h.ext k⟩
theorem DoorIs.more {w w' : World} {S S' : List Nat} {g : Nat} {D : DoorV} (h : DoorIs w S g D) (k : ∀ x ∈ S', x ∈ S ∨ w.heap.size ≤ x) (k2 : Ext w w') (hlt : ∀ x ∈ S', x < w'.heap.size) (hs : ∀ x ∈ S, x ∈ S') : DoorIs w' S' g D := by
  obtain ⟨K, fv, h⟩ := h
  exact ⟨K, fv, h.more k k2 hlt hs⟩
theorem RefIs.lt {w : World} {S : List Nat} {g : Nat} {D : DoorV} (h : RefIs w S g D) : ∀ x ∈ S, x < w.heap.size := by
  obtain ⟨K, aw, sv, h⟩ := h
  exact h.lt
end Go.Proofs.YtbodppfpmpmadaaGreat

namespace Go.Proofs.YtbodppfpmpmadaaGreat
open Go.RowKit

theorem newN_c (w : World) (v : Value) (A : Option Addr) (c : Nat) (hus : Recs w 5 v [userC userN]) (hn : Rd w (.slice A nonceT.length c) nonceT) :
    Calls Tryz.prog 21 #[v, .agg #[.string (strL [56]), .int .u32 1, .slice A nonceT.length c, .int .u32 565760, .int .u8 45, .int .u16 2, .string (strL natL)]] w fun e w' => ∃ g, e = .returned (.tuple #[.pointer (some ⟨g, 0, none⟩), .int .i64 0]) ∧
      w.heap.size ≤ g ∧ g < w'.heap.size ∧ Ext w w' ∧ ∀ S : List Nat, g ∈ S → (∀ x ∈ S, x = g ∨ x < w.heap.size) → DoorIs w' S g (d0N (greetBs [56] 1 nonceT 565760 45 2 natL)) :=
  newDoor_ok w v [userN] [56] nonceT natL 1 565760 45 2 _ hus goodN (by decide) hn (by decide) (by decide) (by decide +kernel) (by decide +kernel) (by decide) (.inr (by decide)) (by omega) (by omega) (by omega) (by omega) (by decide) (by decide) check_all
theorem ntvN_c (w : World) (v : Value) (hn : Rd w v nonceT) : Calls Tryz.prog 50 #[.string ⟨#[112, 119]⟩, v] w fun e w' => ∃ A c, e = .returned (.tuple #[.slice A 20 c, .int .i64 0]) ∧ Rd w' (.slice A 20 c) rNn ∧ Ext w w' := by
  refine (ntv_c w ⟨#[112, 119]⟩ v nonceT (by decide) hn).mono ?_
  rw [checkE_nonceT]
  rintro e w' ⟨v', rfl, hr, hx⟩
  have hr2 : Rd w' v' rNn := hr
  obtain ⟨A, c, hv, _⟩ := id hr2
  rw [rN_len] at hv
  subst hv
  exact ⟨A, c, rfl, hr2, hx⟩
set_option maxRecDepth 100000 in
set_option maxHeartbeats 2000000 in
theorem lives27_c (w : World) : Calls Tryz.prog 17 #[] w fun e w' => e = .returned (.bool true) ∧ Ext w w' := by
  obtain ⟨H, hH⟩ : ∃ H, H = greetBs [56] 1 nonceT 565760 45 2 natL := ⟨_, rfl⟩
  have HH := Lib.hid hH
  obtain ⟨F, hF⟩ : ∃ F, F = ansL [117] natL rNn := ⟨_, rfl⟩
  have HF := Lib.hid hF
  have HE := Lib.hid (show feedP (d0N H) F = ([okL 565760], 0, d1N H 2 0) by rw [hF]; exact ex_right H)
  have HFL := Lib.hid (show F.length ≤ 900000 by rw [hF]; decide +kernel)
  have HRL := Lib.hid rN_len
  clear hH hF
  go_enter Tryz.func17, Tryz.ntmps17
  have tok1 : True := trivial
  go_wp2_with (first
    | (go_at_call 48; have _t := tok1; refine (user27_c _).mono ?_; rintro e w1 ⟨rfl, hx1⟩; clear tok1)
    | (go_at_call 49; refine (greeting27_c _).mono ?_; rintro e w2 ⟨A2, c2, rfl, hr2, hx2⟩)
    | (go_at_call 21; refine (newN_c _ _ A2 c2 ((recs_one w1 userN _).ext hx2) hr2).mono ?_; rw [← HH.out]; rintro e w3 ⟨g, rfl, hg1, hg2, hx3, hd3⟩; have hX3 : Ext w w3 := ((hx1.alloc _).trans hx2).trans hx3)
    | (go_at_call 51; refine (nonce27_c _).mono ?_; rintro e w4 ⟨v4, rfl, ho4, hx4⟩)
    | (go_at_call 50; refine (ntvN_c _ _ ho4.rd).mono ?_; rintro e w5 ⟨A5, c5, rfl, hr5, hx5⟩)
    | (go_at_call 52; refine (answer27_c _ [117] natL rNn _ hr5 (by decide) (by decide) (by rw [HRL.out]; decide) (by decide) (by decide)).mono ?_; rw [← HF.out]; rintro e w6 ⟨v6, rfl, ho6, hx6⟩)
    | (go_at_call 6; refine (feed_d _ [g] g (d0N H) F _ ((hd3 [g] (by simp) (by intro x hx; left; simpa using hx)).ext ((hx4.trans hx5).trans hx6)) ho6.rd HFL.out (d0N_fit H)).mono ?_; rw [HE.out]; rintro e w7 ⟨v7, rfl, hl7, ⟨K, fv, hd7⟩, O7⟩; obtain ⟨t7, ht7⟩ := okL_head; rw [ht7] at hl7; obtain ⟨b7, o7, k7, b8, o8, c8, M8, rfl, hM8, p7, p8⟩ := hl7.head; have hM9 : (M8 : Int) > 0 := (by omega); have c9 : w7.cell? ⟨g, 9, none⟩ = some (.int .i64 2) := hd7.box.at (j := 9) rfl; have c18 : w7.cell? ⟨g, 18, none⟩ = some (.string (strL [100])) := hd7.box.at (j := 18) rfl; have hO7 : Ext w w7 := (((hX3.trans hx4).trans hx5).trans hx6).on O7 (by have := Ext.size hx1; have := Ext.size hx2; simp at this; omega))
    | (go_at_call 10; refine (dstate_c _ g 2 c9).mono ?_; rintro e wx ⟨rfl, rfl⟩)
    | (go_at_call 12; refine (duser_c _ g _ 2 [117] [112, 119] natL [100] false hd7.box rfl rfl).mono ?_; rintro e w9 ⟨rfl, hx9⟩)
    | (go_at_call 48; refine (user27_c _).mono ?_; rintro e w10 ⟨rfl, hx10⟩; have d9 := Ext.cell (hx9.trans hx10) c9; have d18 := Ext.cell (hx9.trans hx10) c18)
    | (go_at_call 13; refine (dschema_c _ g 2 (strL [100]) d9 d18).mono ?_; rintro e wx ⟨rfl, rfl⟩)
    | fail)
  go_ret
  exact ⟨congrArg (fun z => Ending.returned (.bool z)) (by rw [strL_tl]; rfl), (hO7.trans hx9).trans hx10⟩
end Go.Proofs.YtbodppfpmpmadaaGreat

