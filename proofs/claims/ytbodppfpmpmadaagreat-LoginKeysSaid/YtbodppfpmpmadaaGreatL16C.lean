import Derived.Test.YtbodppfpmpmadaaGreatKyAC
import Derived.Test.YtbodppfpmpmadaaGreatKyCC
import Derived.Test.YtbodppfpmpmadaaGreatRfGC
import Derived.Test.YtbodppfpmpmadaaGreatGrMC
import Derived.Test.YtbodppfpmpmadaaGreatL10C
import Derived.Test.YtbodppfpmpmadaaGreatL15C
import Derived.Test.YtbodppfpmpmadaaGreatL11C
import Derived.Test.YtbodppfpmpmadaaGreatRdKC
import Derived.Test.YtbodppfpmpmadaaGreatRdLC
import Derived.Test.YtbodppfpmpmadaaGreatL13C
namespace Go.Proofs.YtbodppfpmpmadaaGreat
open Go.RowKit

set_option linter.unusedVariables false in
set_option maxRecDepth 100000 in
set_option maxHeartbeats 8000000 in
theorem kgreet_no (w : World) (g : Nat) (K : KeyV) (l ver n pl : List UInt8) (thr caps chg stg er : Int) (vb fv : Value) (h : BoxF w g (kcs K fv)) (hr : Rd w vb l) (hA : overP greetM gre0 l = (⟨ver, thr, n, caps, chg, stg, pl⟩, er)) (hk : er = 0 → checkC (bothC caps (ownK K)) ≠ 0) :
    Calls Tryz.prog 71 #[.pointer (some ⟨g, 0, none⟩), vb] w fun e w' => e = .returned (.tuple #[.slice none 0 0, .bool false]) ∧ Ext w w' := by
  obtain ⟨us, pw, sc, own, ch, st, c0, t0, hd⟩ := K
  have HB := Lib.hid h
  have HR := Lib.hid hr
  have HA := Lib.hid hA
  obtain ⟨Ab, cb, rfl, _⟩ := hr
  by_cases he : er = 0
  · subst he
    obtain ⟨q, hq⟩ : ∃ q, (strL sc).toList.isEmpty = q := ⟨_, rfl⟩
    have hq2 : sc.isEmpty = q := by rw [← hq, strL_tl]
    obtain ⟨c, hc⟩ : ∃ c, c = bothC caps (ownK ⟨us, pw, sc, own, ch, st, c0, t0, hd⟩) := ⟨_, rfl⟩
    have how : bothC caps (if q then bits .andNot .u32 own 8 else bits .or .u32 (bits .andNot .u32 own 8) 8) = c := by
      rw [or_not, hc]
      unfold ownK
      dsimp only
      rw [hq2]
    have hk2 := hk rfl
    rw [← hc] at hk2
    obtain ⟨ck, hck⟩ : ∃ ck, checkC c = ck := ⟨_, rfl⟩
    have hb : (ck != 0) = true := by rw [← hck]; simpa using hk2
    have HW := Lib.hid how
    have HK := Lib.hid hck
    clear h hA hk hk2 hck hc how hq2
    cases q
    all_goals
      go_enter Tryz.func71, Tryz.ntmps71
      go_wp2_with (first
        | (go_at_call 121; refine (readGreeting_s _ _ l ver n pl thr caps chg stg 0 HR.out HA.out).mono ?_; rintro e w1 ⟨A1, k1, c1, rfl, hr1, hx1⟩)
        | ((with_reducible show wpList _ _ _ (⟨some 6, Op.alloc _, _, _, _, _⟩ :: _) _ _); refine wpl_alloc rfl _ rfl gre0K (by kernel_rfl) ?_; intro w2 B2 hx2)
        | ((with_reducible show AtW 29); refine wpl_store_box rfl _ _ _ rfl _ [.string (strL ver), .int .u32 thr, .slice A1 k1 c1, .int .u32 caps, .int .u8 chg, .int .u16 stg, .string (strL pl)] rfl rfl B2 rfl (by kernel_rfl) (by rfl) ?_; intro w3 B3 O3; have hx13 : Ext w1 w3 := hx2.on O3 (Nat.le_refl _); have BK3 := HB.out.ext (hx1.trans hx13); have d3 := BK3.at (j := 3) rfl; have d2 := BK3.at (j := 2) rfl; have b3 := B3.at (j := 3) rfl; clear B2 O3 hx2)
        | (go_at_call 100; refine (both_c _ caps _).mono ?_; (first | rw [show bothC caps (bits .andNot .u32 own 8) = c from HW.out] | rw [show bothC caps (bits .or .u32 (bits .andNot .u32 own 8) 8) = c from HW.out] | fail); rintro e w4 ⟨rfl, hx4⟩; clear d3 d2 b3)
        | (go_at_call 56; refine (capsCheck_c _ c).mono ?_; rw [HK.out]; rintro e wx ⟨rfl, rfl⟩)
        | fail)
      go_ret2
      exact ⟨rfl, (hx1.trans hx13).trans hx4⟩
  · have hb : (er != 0) = true := by simpa using he
    clear h hA hk he
    go_enter Tryz.func71, Tryz.ntmps71
    go_wp2_with (first
      | (go_at_call 121; refine (readGreeting_s _ _ l ver n pl thr caps chg stg er HR.out HA.out).mono ?_; rintro e w1 ⟨A1, k1, c1, rfl, hr1, hx1⟩)
      | ((with_reducible show wpList _ _ _ (⟨some 6, Op.alloc _, _, _, _, _⟩ :: _) _ _); refine wpl_alloc rfl _ rfl gre0K (by kernel_rfl) ?_; intro w2 B2 hx2)
      | ((with_reducible show AtW 29); refine wpl_store_box rfl _ _ _ rfl _ [.string (strL ver), .int .u32 thr, .slice A1 k1 c1, .int .u32 caps, .int .u8 chg, .int .u16 stg, .string (strL pl)] rfl rfl B2 rfl (by kernel_rfl) (by rfl) ?_; intro w3 B3 O3; have hx13 : Ext w1 w3 := hx2.on O3 (Nat.le_refl _))
      | fail)
    go_ret2
    exact ⟨rfl, hx1.trans hx13⟩
end Go.Proofs.YtbodppfpmpmadaaGreat

namespace Go.Proofs.YtbodppfpmpmadaaGreat
open Go.RowKit

def KeyIs (w : World) (g : Nat) (K : KeyV) : Prop := BoxF w g (kcs K (if K.hd then fnFurther g else fnGreet g))
theorem KeyIs.ext {w w' : World} {g : Nat} {K : KeyV} (h : KeyIs w g K) (k : Ext w w') : KeyIs w' g K := BoxF.ext h k
theorem KeyIs.on {w w' : World} {g b : Nat} {K : KeyV} (h : KeyIs w g K) (k : On b w w') (hne : g ≠ b) : KeyIs w' g K := BoxF.on h k hne
def RetKy (w : World) (g : Nat) (K : KeyV) (r : List (List UInt8) × Int × KeyV) (e : Ending) (w' : World) : Prop :=
  ∃ v, e = .returned (.tuple #[v, .int .i64 r.2.1]) ∧ KeyIs w' g r.2.2 ∧ ((Lists w' v r.1 ∧ Ext w w' ∧ (r.1 ≠ [] → K.hd = true)) ∨ (ListsN w' w.heap.size v r.1 ∧ On g w w' ∧ (r.1 ≠ [] → K.hd = false)))
theorem kfurther_c (w : World) (g : Nat) (K : KeyV) (l : List UInt8) (vb fv : Value) (h : BoxF w g (kcs K fv)) (hp : K.pw.length ≤ 1000000) (hr : Rd w vb l) (hl : l.length ≤ 900000) :
    Calls Tryz.prog 124 #[.pointer (some ⟨g, 0, none⟩), vb] w (RetKs w g fv (furtherK K l)) := by
  cases l with
  | nil => exact further_nil w g K vb fv hr
  | cons b r =>
    by_cases h1 : b = 254
    · subst h1
      obtain ⟨⟨⟨pl, n⟩, er⟩, hA⟩ : ∃ x, overP switchM ([], []) (254 :: r) = x := ⟨_, rfl⟩
      have e : furtherK K (254 :: r) = if er = 0 ∧ oursP pl = true then some ([respPl pl K.pw n], K) else none := by
        simp only [furtherK]
        rw [if_pos trivial, hA]
      rw [e]
      exact further_switch w g K r vb fv h hp hr pl n er hA
    by_cases h2 : b = 1
    · subst h2
      have e : furtherK K (1 :: r) = if r = [3] then some ([], K) else if r = [4] then some ([K.pw ++ [0]], K) else none := by
        simp only [furtherK]
        rw [if_neg (by decide), if_pos trivial]
      rw [e]
      exact further_more w g K r vb fv h hp hr
    by_cases h3 : b = 0
    · subst h3
      have e : furtherK K (0 :: r) = if (okS (0 :: r) K.c).2 = 0 then some ([], { K with st := 2 }) else none := by
        simp only [furtherK]
        rw [if_neg (by decide), if_neg (by decide), if_pos trivial]
      rw [e]
      exact further_ok w g K r vb fv h hp hr (by simp at hl; omega)
    have e : furtherK K (b :: r) = none := by
      simp only [furtherK]
      rw [if_neg h1, if_neg h2, if_neg h3]
    rw [e]
    exact further_other w g K b r vb fv hr h1 h2 h3
theorem knone_k (w : World) (g : Nat) (st : Int) (c5 : w.cell? ⟨g, 5, none⟩ = some (.int .i64 st)) (hz : st ≠ 0) :
    Calls Tryz.prog 46 #[.pointer (some ⟨g, 0, none⟩)] w fun e w' => e = .returned (.bool false) ∧ w = w' := by
  have hq : (st == 0) = false := by simpa using hz
  go_enter Tryz.func46, Tryz.ntmps46
  go_wp2_with fail
  go_ret
  exact ⟨rfl, rfl⟩
theorem kstate_k (w : World) (g : Nat) (K : KeyV) (h : KeyIs w g K) (hz : K.st ≠ 0) :
    Calls Tryz.prog 14 #[.pointer (some ⟨g, 0, none⟩)] w fun e w' => e = .returned (.int .i64 K.st) ∧ w = w' := by
  have c5 : w.cell? ⟨g, 5, none⟩ = some (.int .i64 K.st) := BoxF.at h (j := 5) rfl
  have HZ := Lib.hid hz
  clear h hz
  go_enter Tryz.func14, Tryz.ntmps14
  go_wp2_with (go_at_call 46; refine (knone_k _ g K.st c5 HZ.out).mono ?_; rintro e wx ⟨rfl, rfl⟩)
  go_ret
  exact ⟨rfl, rfl⟩
theorem kcaps_k (w : World) (g : Nat) (K : KeyV) (h : KeyIs w g K) (hz : K.st ≠ 0) :
    Calls Tryz.prog 15 #[.pointer (some ⟨g, 0, none⟩)] w fun e w' => e = .returned (.int .u32 K.c) ∧ w = w' := by
  have c5 : w.cell? ⟨g, 5, none⟩ = some (.int .i64 K.st) := BoxF.at h (j := 5) rfl
  have c6 : w.cell? ⟨g, 6, none⟩ = some (.int .u32 K.c) := BoxF.at h (j := 6) rfl
  have HZ := Lib.hid hz
  clear h hz
  go_enter Tryz.func15, Tryz.ntmps15
  go_wp2_with (go_at_call 46; refine (knone_k _ g K.st c5 HZ.out).mono ?_; rintro e wx ⟨rfl, rfl⟩)
  go_ret
  exact ⟨rfl, rfl⟩
theorem kthread_k (w : World) (g : Nat) (K : KeyV) (h : KeyIs w g K) (hz : K.st ≠ 0) :
    Calls Tryz.prog 16 #[.pointer (some ⟨g, 0, none⟩)] w fun e w' => e = .returned (.int .u32 K.t) ∧ w = w' := by
  have c5 : w.cell? ⟨g, 5, none⟩ = some (.int .i64 K.st) := BoxF.at h (j := 5) rfl
  have c7 : w.cell? ⟨g, 7, none⟩ = some (.int .u32 K.t) := BoxF.at h (j := 7) rfl
  have HZ := Lib.hid hz
  clear h hz
  go_enter Tryz.func16, Tryz.ntmps16
  go_wp2_with (go_at_call 46; refine (knone_k _ g K.st c5 HZ.out).mono ?_; rintro e wx ⟨rfl, rfl⟩)
  go_ret
  exact ⟨rfl, rfl⟩
theorem kfeed_over (w : World) (g : Nat) (K : KeyV) (l : List UInt8) (vb : Value) (h : KeyIs w g K) (hz : K.st ≠ 0) (hs : K.st ≠ 1) :
    Calls Tryz.prog 8 #[.pointer (some ⟨g, 0, none⟩), vb] w (RetKy w g K (feedK K l)) := by
  have c5 : w.cell? ⟨g, 5, none⟩ = some (.int .i64 K.st) := BoxF.at h (j := 5) rfl
  have e : feedK K l = ([], 9, K) := by unfold feedK; rw [if_neg hz, if_neg hs]
  rw [e]
  have hq : (K.st != 1) = true := by simpa using hs
  have HZ := Lib.hid hz
  have HH := Lib.hid h
  clear h hz hs e
  go_enter Tryz.func8, Tryz.ntmps8
  go_wp2_with (go_at_call 46; refine (knone_k _ g K.st c5 HZ.out).mono ?_; rintro e wx ⟨rfl, rfl⟩)
  go_ret2
  exact ⟨_, rfl, HH.out, .inl ⟨Lists.nil _, Ext.refl _, fun h => absurd rfl h⟩⟩
set_option maxHeartbeats 2000000 in
theorem kfeed_on (w : World) (g : Nat) (K : KeyV) (l : List UInt8) (vb : Value) (h : KeyIs w g K) (hf : KeyFit K) (hs : K.st = 1) (hr : Rd w vb l) (hl : l.length ≤ 900000) :
    Calls Tryz.prog 8 #[.pointer (some ⟨g, 0, none⟩), vb] w (RetKy w g K (feedK K l)) := by
  have c5 : w.cell? ⟨g, 5, none⟩ = some (.int .i64 1) := BoxF.at h (j := 5) (by rw [← hs]; rfl)
  have hFk : feedK K l = match nextK K l with | some x => (x.1, 0, x.2) | none => ([], 0, { K with st := 3 }) := by unfold feedK; rw [if_neg (by rw [hs]; decide), if_pos hs]; cases nextK K l <;> rfl
  rw [hFk]
  clear hFk
  have h8 : w.cell? ⟨g, 8, none⟩ = some (if K.hd then fnFurther g else fnGreet g) := BoxF.at h (j := 8) rfl
  have HR := Lib.hid hr
  obtain ⟨Ab, cb, rfl, _⟩ := hr
  have HF := Lib.hid hf
  have HL := Lib.hid hl
  have HPW := Lib.hid (show K.pw.length ≤ 1000000 by have := (plainU_inv hf.pw).1; omega)
  unfold KeyIs at h
  cases hd : K.hd with
  | false =>
    rw [hd] at h h8
    have c8 : w.cell? ⟨g, 8, none⟩ = some (fnGreet g) := h8
    have HB := Lib.hid (show BoxF w g (kcs K (fnGreet g)) from h)
    have HD := Lib.hid hd
    have hN : nextK K l = greetK K l := by unfold nextK; rw [hd]; rfl
    rw [hN]
    unfold fnGreet at c8
    obtain ⟨⟨⟨ver, thr, n, caps, chg, stg, pl⟩, er⟩, hA⟩ : ∃ x, overP greetM gre0 l = x := ⟨_, rfl⟩
    have HA := Lib.hid hA
    have hG : greetK K l = if er = 0 then (if checkC (bothC caps (ownK K)) = 0 then some ([answerB (ansK K ⟨ver, thr, n, caps, chg, stg, pl⟩ (bothC caps (ownK K)))], { K with c := bothC caps (ownK K), t := thr, hd := true }) else none) else none := by
      unfold greetK
      rw [hA]
    rw [hG]
    clear hN hG h h8 hf hl hA hd
    by_cases hgo : er = 0 ∧ checkC (bothC caps (ownK K)) = 0
    · obtain ⟨he, hk⟩ := hgo
      subst he
      rw [if_pos rfl, if_pos hk]
      obtain ⟨X, hX⟩ : ∃ X, X = answerB (ansK K ⟨ver, thr, n, caps, chg, stg, pl⟩ (bothC caps (ownK K))) := ⟨_, rfl⟩
      have HG := Lib.hid (kgreet_yes w g K l ver n pl thr caps chg stg _ _ HB.out HF.out HR.out HA.out rfl hk)
      rw [← hX] at HG ⊢
      clear hk hX
      go_enter Tryz.func8, Tryz.ntmps8
      go_wp2_with (first
        | (go_at_call 46; refine (knone_k _ g 1 c5 (by decide)).mono ?_; rintro e wx ⟨rfl, rfl⟩)
        | (go_at_call 71; refine HG.out.mono ?_; rintro e w1 ⟨v1, rfl, hl1, hB1, O1⟩)
        | fail)
      go_ret2
      exact ⟨_, rfl, hB1, .inr ⟨hl1, O1, fun _ => HD.out⟩⟩
    · have hnone : (if er = 0 then (if checkC (bothC caps (ownK K)) = 0 then some ([answerB (ansK K ⟨ver, thr, n, caps, chg, stg, pl⟩ (bothC caps (ownK K)))], { K with c := bothC caps (ownK K), t := thr, hd := true }) else none) else none) = (none : Option (List (List UInt8) × KeyV)) := by
        split
        · rename_i h1
          split
          · rename_i h2
            exact absurd ⟨h1, h2⟩ hgo
          · rfl
        · rfl
      rw [hnone]
      have HG := Lib.hid (kgreet_no w g K l ver n pl thr caps chg stg er _ _ HB.out HR.out HA.out (fun e h => hgo ⟨e, h⟩))
      clear hgo hnone
      go_enter Tryz.func8, Tryz.ntmps8
      go_wp2_with (first
        | (go_at_call 46; refine (knone_k _ g 1 c5 (by decide)).mono ?_; rintro e wx ⟨rfl, rfl⟩)
        | (go_at_call 71; refine HG.out.mono ?_; rintro e w1 ⟨rfl, hx1⟩)
        | ((with_reducible show AtW 3); refine wpl_store_cell rfl _ _ _ rfl g 5 (.int .i64 3) rfl rfl rfl rfl (by kernel_rfl) (HB.out.ext hx1) (show 5 < 9 by decide) ?_; intro w5 B5 O5)
        | fail)
      go_ret2
      have hB5 : KeyIs w5 g { K with st := 3, hd := false } := B5
      exact ⟨_, rfl, hB5, .inr ⟨ListsN.nil _ _, (On.of hx1).trans O5, fun h => absurd rfl h⟩⟩
  | true =>
    rw [hd] at h h8
    have c8 : w.cell? ⟨g, 8, none⟩ = some (fnFurther g) := h8
    have HB := Lib.hid (show BoxF w g (kcs K (fnFurther g)) from h)
    have HD := Lib.hid hd
    have hN : nextK K l = furtherK K l := by unfold nextK; rw [hd]; rfl
    rw [hN]
    unfold fnFurther at c8
    have HG := Lib.hid (kfurther_c w g K l _ (fnFurther g) HB.out HPW.out HR.out HL.out)
    obtain ⟨o, ho⟩ : ∃ o, furtherK K l = o := ⟨_, rfl⟩
    have HS := Lib.hid (show ∀ x, o = some x → x.2.hd = true from fun x hx => by
      subst hx
      have : ∀ {K' : KeyV} {o' : List (List UInt8)}, furtherK K l = some (o', K') → K'.hd = true := by
        intro K' o' hs
        cases l with
        | nil => cases hs
        | cons b r =>
          simp only [furtherK] at hs
          repeat' split at hs
          all_goals first
            | (cases hs; done)
            | (injection hs with hs; injection hs with _ hs; subst hs; exact HD.out)
      exact this (K' := x.2) (o' := x.1) ho)
    rw [ho] at HG ⊢
    clear hN ho h h8 hf hl hd
    cases o with
    | some x =>
      obtain ⟨xo, xK⟩ := x
      go_enter Tryz.func8, Tryz.ntmps8
      go_wp2_with (first
        | (go_at_call 46; refine (knone_k _ g 1 c5 (by decide)).mono ?_; rintro e wx ⟨rfl, rfl⟩)
        | (go_at_call 124; refine HG.out.mono ?_; rintro e w1 ⟨v1, rfl, hB1, hD1⟩; dsimp only at hB1 hD1)
        | fail)
      go_ret2
      have hB2 : KeyIs w1 g xK := by
        unfold KeyIs
        rw [HS.out _ rfl]
        exact hB1
      rcases hD1 with ⟨hl1, hx1⟩ | ⟨h1, h2, O1⟩
      · exact ⟨_, rfl, hB2, .inl ⟨hl1, hx1, fun _ => HD.out⟩⟩
      · subst h1 h2
        exact ⟨_, rfl, hB2, .inr ⟨ListsN.nil _ _, O1, fun h => absurd rfl h⟩⟩
    | none =>
      go_enter Tryz.func8, Tryz.ntmps8
      go_wp2_with (first
        | (go_at_call 46; refine (knone_k _ g 1 c5 (by decide)).mono ?_; rintro e wx ⟨rfl, rfl⟩)
        | (go_at_call 124; refine HG.out.mono ?_; rintro e w1 ⟨rfl, hx1⟩)
        | ((with_reducible show AtW 3); refine wpl_store_cell rfl _ _ _ rfl g 5 (.int .i64 3) rfl rfl rfl rfl (by kernel_rfl) (HB.out.ext hx1) (show 5 < 9 by decide) ?_; intro w5 B5 O5)
        | fail)
      go_ret2
      have hB5 : KeyIs w5 g { K with st := 3, hd := true } := B5
      exact ⟨_, rfl, hB5, .inr ⟨ListsN.nil _ _, (On.of hx1).trans O5, fun h => absurd rfl h⟩⟩
theorem kfeed_k (w : World) (g : Nat) (K : KeyV) (l : List UInt8) (vb : Value) (h : KeyIs w g K) (hf : KeyFit K) (hr : Rd w vb l) (hl : l.length ≤ 900000) :
    Calls Tryz.prog 8 #[.pointer (some ⟨g, 0, none⟩), vb] w (RetKy w g K (feedK K l)) := by
  by_cases hs : K.st = 1
  · exact kfeed_on w g K l vb h hf hs hr hl
  · exact kfeed_over w g K l vb h hf.st hs
end Go.Proofs.YtbodppfpmpmadaaGreat

namespace Go.Proofs.YtbodppfpmpmadaaGreat
open Go.RowKit

def key0 (us pw sc : List UInt8) (c ch : Int) : KeyV := ⟨us, pw, sc, c, ch, 1, 0, 0, false⟩
def keyMay (us pw sc : List UInt8) (c : Int) : Bool := !us.isEmpty && (plainU us && (plainU pw && (plainU sc && checkC c == 0)))
set_option linter.unusedVariables false in
set_option maxRecDepth 100000 in
set_option maxHeartbeats 4000000 in
theorem newKey_ok (w : World) (us pw sc : List UInt8) (c ch : Int) (hm : keyMay us pw sc c = true) :
    Calls Tryz.prog 32 #[.string (strL us), .string (strL pw), .string (strL sc), .int .u32 c, .int .u8 ch] w fun e w' => ∃ g, e = .returned (.tuple #[.pointer (some ⟨g, 0, none⟩), .int .i64 0]) ∧ w.heap.size ≤ g ∧ g < w'.heap.size ∧ Ext w w' ∧ KeyIs w' g (key0 us pw sc c ch) := by
  unfold keyMay at hm
  simp only [Bool.and_eq_true, Bool.not_eq_true', beq_iff_eq] at hm
  obtain ⟨m0, m1, m2, m3, m4⟩ := hm
  have hq : (strL us).toList.isEmpty = false := by rw [strL_tl]; exact m0
  have H1 := Lib.hid m1
  have H2 := Lib.hid m2
  have H3 := Lib.hid m3
  have H4 := Lib.hid m4
  clear m0 m1 m2 m3 m4
  have tok1 : True := trivial
  go_enter Tryz.func32, Tryz.ntmps32
  go_wp2_with (first
    | ((with_reducible show Calls _ _ #[Value.string (strL us)] _ _); have _t := tok1; refine (plainU_c _ us).mono ?_; rw [H1.out]; rintro e w1 ⟨rfl, hx1⟩; clear tok1; have tok2 : True := trivial)
    | ((with_reducible show Calls _ _ #[Value.string (strL pw)] _ _); have _t := tok2; refine (plainU_c _ pw).mono ?_; rw [H2.out]; rintro e w2 ⟨rfl, hx2⟩; clear tok2; have tok3 : True := trivial)
    | ((with_reducible show Calls _ _ #[Value.string (strL sc)] _ _); have _t := tok3; refine (plainU_c _ sc).mono ?_; rw [H3.out]; rintro e w3 ⟨rfl, hx3⟩; clear tok3)
    | (go_at_call 56; refine (capsCheck_c _ c).mono ?_; rw [H4.out]; rintro e wx ⟨rfl, rfl⟩)
    | ((with_reducible show AtW 37); refine wpl_store_cell rfl _ _ _ rfl w3.heap.size 8 (fnGreet w3.heap.size) rfl rfl rfl rfl (by kernel_rfl) (BoxF.new w3 (kcs (key0 us pw sc c ch) .nilFunc) _) (show 8 < 9 by decide) ?_; intro w5 B5 O5)
    | fail)
  go_ret2
  have hx := (hx1.trans hx2).trans hx3
  refine ⟨_, rfl, Ext.size hx, B5.lt, (hx.alloc _).on O5 (Ext.size hx), B5⟩
set_option linter.unusedVariables false in
set_option maxRecDepth 100000 in
set_option maxHeartbeats 4000000 in
theorem newKey_no (w : World) (us pw sc : List UInt8) (c ch : Int) (hm : keyMay us pw sc c = false) :
    Calls Tryz.prog 32 #[.string (strL us), .string (strL pw), .string (strL sc), .int .u32 c, .int .u8 ch] w fun e w' => e = .returned (.tuple #[.pointer none, .int .i64 2]) ∧ Ext w w' := by
  obtain ⟨q, hq⟩ : ∃ q, (strL us).toList.isEmpty = q := ⟨_, rfl⟩
  have hq2 : us.isEmpty = q := by rw [← hq, strL_tl]
  obtain ⟨p1, h1⟩ : ∃ p, plainU us = p := ⟨_, rfl⟩
  obtain ⟨p2, h2⟩ : ∃ p, plainU pw = p := ⟨_, rfl⟩
  obtain ⟨p3, h3⟩ : ∃ p, plainU sc = p := ⟨_, rfl⟩
  obtain ⟨ck, h4⟩ : ∃ ck, checkC c = ck := ⟨_, rfl⟩
  unfold keyMay at hm
  rw [hq2, h1, h2, h3, h4] at hm
  have H1 := Lib.hid h1
  have H2 := Lib.hid h2
  have H3 := Lib.hid h3
  have H4 := Lib.hid h4
  have HM := Lib.hid hm
  clear h1 h2 h3 h4 hm hq2
  cases q
  · cases p1
    · have tok1 : True := trivial
      go_enter Tryz.func32, Tryz.ntmps32
      go_wp2_with (first
        | ((with_reducible show Calls _ _ #[Value.string (strL us)] _ _); have _t := tok1; refine (plainU_c _ us).mono ?_; rw [H1.out]; rintro e w1 ⟨rfl, hx1⟩; clear tok1; have tok2 : True := trivial)
        | ((with_reducible show Calls _ _ #[Value.string (strL pw)] _ _); have _t := tok2; refine (plainU_c _ pw).mono ?_; rw [H2.out]; rintro e w2 ⟨rfl, hx2⟩; clear tok2; have tok3 : True := trivial)
        | ((with_reducible show Calls _ _ #[Value.string (strL sc)] _ _); have _t := tok3; refine (plainU_c _ sc).mono ?_; rw [H3.out]; rintro e w3 ⟨rfl, hx3⟩; clear tok3)
        | (go_at_call 56; refine (capsCheck_c _ c).mono ?_; rw [H4.out]; rintro e wx ⟨rfl, rfl⟩)
        | fail)
      go_ret2
      exact ⟨rfl, hx1⟩
    · cases p2
      · have tok1 : True := trivial
        go_enter Tryz.func32, Tryz.ntmps32
        go_wp2_with (first
          | ((with_reducible show Calls _ _ #[Value.string (strL us)] _ _); have _t := tok1; refine (plainU_c _ us).mono ?_; rw [H1.out]; rintro e w1 ⟨rfl, hx1⟩; clear tok1; have tok2 : True := trivial)
          | ((with_reducible show Calls _ _ #[Value.string (strL pw)] _ _); have _t := tok2; refine (plainU_c _ pw).mono ?_; rw [H2.out]; rintro e w2 ⟨rfl, hx2⟩; clear tok2; have tok3 : True := trivial)
          | ((with_reducible show Calls _ _ #[Value.string (strL sc)] _ _); have _t := tok3; refine (plainU_c _ sc).mono ?_; rw [H3.out]; rintro e w3 ⟨rfl, hx3⟩; clear tok3)
          | (go_at_call 56; refine (capsCheck_c _ c).mono ?_; rw [H4.out]; rintro e wx ⟨rfl, rfl⟩)
          | fail)
        go_ret2
        exact ⟨rfl, hx1.trans hx2⟩
      · cases p3
        · have tok1 : True := trivial
          go_enter Tryz.func32, Tryz.ntmps32
          go_wp2_with (first
            | ((with_reducible show Calls _ _ #[Value.string (strL us)] _ _); have _t := tok1; refine (plainU_c _ us).mono ?_; rw [H1.out]; rintro e w1 ⟨rfl, hx1⟩; clear tok1; have tok2 : True := trivial)
            | ((with_reducible show Calls _ _ #[Value.string (strL pw)] _ _); have _t := tok2; refine (plainU_c _ pw).mono ?_; rw [H2.out]; rintro e w2 ⟨rfl, hx2⟩; clear tok2; have tok3 : True := trivial)
            | ((with_reducible show Calls _ _ #[Value.string (strL sc)] _ _); have _t := tok3; refine (plainU_c _ sc).mono ?_; rw [H3.out]; rintro e w3 ⟨rfl, hx3⟩; clear tok3)
            | (go_at_call 56; refine (capsCheck_c _ c).mono ?_; rw [H4.out]; rintro e wx ⟨rfl, rfl⟩)
            | fail)
          go_ret2
          exact ⟨rfl, (hx1.trans hx2).trans hx3⟩
        · have hb : (ck != 0) = true := by
            have := HM.out
            simp at this
            simpa using this
          have tok1 : True := trivial
          go_enter Tryz.func32, Tryz.ntmps32
          go_wp2_with (first
            | ((with_reducible show Calls _ _ #[Value.string (strL us)] _ _); have _t := tok1; refine (plainU_c _ us).mono ?_; rw [H1.out]; rintro e w1 ⟨rfl, hx1⟩; clear tok1; have tok2 : True := trivial)
            | ((with_reducible show Calls _ _ #[Value.string (strL pw)] _ _); have _t := tok2; refine (plainU_c _ pw).mono ?_; rw [H2.out]; rintro e w2 ⟨rfl, hx2⟩; clear tok2; have tok3 : True := trivial)
            | ((with_reducible show Calls _ _ #[Value.string (strL sc)] _ _); have _t := tok3; refine (plainU_c _ sc).mono ?_; rw [H3.out]; rintro e w3 ⟨rfl, hx3⟩; clear tok3)
            | (go_at_call 56; refine (capsCheck_c _ c).mono ?_; rw [H4.out]; rintro e wx ⟨rfl, rfl⟩)
            | fail)
          go_ret2
          exact ⟨rfl, (hx1.trans hx2).trans hx3⟩
  · go_enter Tryz.func32, Tryz.ntmps32
    go_wp2_with fail
    go_ret2
    exact ⟨rfl, Ext.refl _⟩
end Go.Proofs.YtbodppfpmpmadaaGreat

namespace Go.Proofs.YtbodppfpmpmadaaGreat
open Go.RowKit

theorem rd_empty (w : World) (a : Addr) : Rd w (.slice (some a) 0 0) [] := ⟨some a, 0, rfl, Nat.le_refl _, by unfold maxLen; omega, (fun e => by cases e), fun h => absurd rfl h⟩
section
variable {P : Program} {w : World} {ops : Array Oper} {o : Oper} {a : Act} {K : Act → World → Prop} {Q : Exit → Act → World → Prop} {E : Prop}
theorem step_append_zeros (hT : BT P) (htn : P.underlying 3 = some (.int .i64)) {base : Nat} {v : Value} {l : List UInt8} (hown : Own w base v l) (k : Nat) (h0 : 0 < k)
    (hgd : o.guard = none) (s x : Operand) (ho : o.op = .call { callee := .builtin .append, args := #[s, x], argTypes := #[22, 3] })
    (hs : a.eval s = v) (kq : IntKind) (hx : a.eval x = .int kq (k : Int)) (hlen : l.length + k ≤ 100000000) (hbase : base ≤ w.heap.size)
    (h : ∀ v' w', Own w' base v' (l ++ List.replicate k 0) → Below base w w' → K (a.put o.dst v') w') : if Region.wanted o (yielded ops a.tmps) = true then Oper.wp P o a w K Q else E := by
  have hw : Region.wanted o (yielded ops a.tmps) = true := by simp [Region.wanted, hgd]
  rw [if_pos hw]
  obtain ⟨v', w', hr, h2, h3⟩ := run_append_zerosN (P := P) (w := w) hT htn o.type hown k h0 hlen hbase kq
  unfold Oper.wp execOp
  simp only [ho, resolve, invoke, builtin, Sem.run_bind, Sem.run_pure, Result.andThen_ok, List.map_toArray, List.map_cons, List.map_nil, hs, hx, hr]
  exact h v' w' h2 (Own.below_of hown hbase h3)
end
set_option maxHeartbeats 1000000 in
theorem attrsR0_c (w : World) (v : Value) (l : List UInt8) (hr : Rd w v l) (hl : l.length ≤ 7000000) : Calls Tryz.prog 172 #[v, .slice none 0 0] w (RetB w (l ++ textB [])) := by
  have HR := Lib.hid hr
  clear hr
  have t0 : ∀ w : World, (convert 22 9 (.slice none 0 0)).run Tryz.prog w = .ok (.string (strL [])) w := fun w => run_str w bt (Rd.nil w)
  go_enter Tryz.func172, Tryz.ntmps172
  go_wp2_with fail
  go_loopw [5, 6] (fun own i W => own = .slice none 0 0 ∧ i = .int .i64 0 ∧ W = w) (fun _ _ _ => 0)
  case atStart => exact ⟨rfl, rfl, rfl⟩
  case round =>
    obtain ⟨rfl, rfl, rfl⟩ := hrel
    go_wp2_with (first
      | (go_at_call 166; refine (appendText_ref _ _ l (strL []) HR.out (by decide) hl).mono ?_; rintro e w1 ⟨v1, rfl, ho1, hx1⟩)
      | fail)
    go_ret
    exact ⟨_, rfl, ho1, hx1⟩
set_option maxHeartbeats 4000000 in
theorem answerR_t (w : World) (caps : Int) (user resp db pl : List UInt8) (vr : Value) (hr : Rd w vr resp) (h1 : user.contains 0 = false) (h2 : db.contains 0 = false) (h3 : pl.contains 0 = false) (l1 : user.length ≤ 10000) (l2 : db.length ≤ 10000) (l3 : pl.length ≤ 10000) (l4 : resp.length ≤ 255) (hk : hasC caps 524288 = true) :
    Calls Tryz.prog 171 #[.int .u32 caps, .string (strL user), .string (strL db), .string (strL pl), vr, .slice none 0 0] w fun e w' => e = .returned (.bool true) ∧ w = w' := by
  obtain ⟨Ar, cr, rfl, _⟩ := hr
  have H1 := Lib.hid (show ∀ w, Calls Tryz.prog 156 #[.string (strL user)] w fun e w' => e = .returned (.bool true) ∧ w = w' from fun w => by have := plain12R_c w user (by omega); rw [h1] at this; exact this)
  have H2 := Lib.hid (show ∀ w, Calls Tryz.prog 156 #[.string (strL db)] w fun e w' => e = .returned (.bool true) ∧ w = w' from fun w => by have := plain12R_c w db (by omega); rw [h2] at this; exact this)
  have H3 := Lib.hid (show ∀ w, Calls Tryz.prog 156 #[.string (strL pl)] w fun e w' => e = .returned (.bool true) ∧ w = w' from fun w => by have := plain12R_c w pl (by omega); rw [h3] at this; exact this)
  have HK := Lib.hid ((hasB_plugin _).trans hk)
  obtain ⟨q, hq⟩ : ∃ q, (strL pl).toList.isEmpty = q := ⟨_, rfl⟩
  have h4 : (resp.length : Int) ≤ 255 := by omega
  clear h1 h2 h3 l1 l2 l3 l4 hk
  cases q
  all_goals
    have tok1 : True := trivial
    go_enter Tryz.func171, Tryz.ntmps171
    go_wp2_with (first
      | ((with_reducible show Calls _ _ #[Value.string (strL user)] _ _); have _t := tok1; refine (H1.out _).mono ?_; rintro e wx ⟨rfl, rfl⟩; clear tok1; have tok2 : True := trivial)
      | ((with_reducible show Calls _ _ #[Value.string (strL db)] _ _); have _t := tok2; refine (H2.out _).mono ?_; rintro e wx ⟨rfl, rfl⟩; clear tok2; have tok3 : True := trivial)
      | ((with_reducible show Calls _ _ #[Value.string (strL pl)] _ _); have _t := tok3; refine (H3.out _).mono ?_; rintro e wx ⟨rfl, rfl⟩; clear tok3)
      | ((with_reducible show Calls _ _ #[_, Value.int .u32 524288] _ _); go_at_call 104; refine (hasR_at _ _ _ true HK.out).mono ?_; rintro e wy ⟨rfl, rfl⟩)
      | fail)
    go_ret
    exact ⟨rfl, rfl⟩
end Go.Proofs.YtbodppfpmpmadaaGreat

namespace Go.Proofs.YtbodppfpmpmadaaGreat
open Go.RowKit

set_option linter.unusedVariables false in
set_option maxRecDepth 100000 in
set_option maxHeartbeats 4000000 in
theorem readSwitchR_g (w : World) (v : Value) (l : List UInt8) (hr : Rd w v l) : Calls Tryz.prog 75 #[v] w (RetSwitch w (overP switchM ([], []) l)) := by
  obtain ⟨A0, cap0, hv, _, _, _, _⟩ := id hr
  have HR := Lib.hid hr
  clear hr
  subst hv
  obtain ⟨b1, s1, h1⟩ := byte_one (l, 0)
  obtain ⟨x1, hx1⟩ : ∃ x1 : Int, x1 = (b1.toNat : Int) := ⟨_, rfl⟩
  obtain ⟨q1, hk1⟩ : ∃ q, (x1 != 254) = q := ⟨_, rfl⟩
  obtain ⟨s2, h2⟩ : ∃ s, rW q1 s1 = s := ⟨_, rfl⟩
  obtain ⟨pl, s3, h3⟩ : ∃ x s, rZ s2 = (x, s) := ⟨_, _, rfl⟩
  obtain ⟨n, s4, h4⟩ : ∃ x s, rB 20 s3 = (x, s) := ⟨_, _, rfl⟩
  obtain ⟨k1, hn1⟩ : ∃ k, nonceOk n = k := ⟨_, rfl⟩
  obtain ⟨s5, h5⟩ : ∃ s, rW (!k1) s4 = s := ⟨_, rfl⟩
  obtain ⟨s6, h6⟩ : ∃ s, r0 1 s5 = s := ⟨_, rfl⟩
  obtain ⟨s7, h7⟩ : ∃ s, rO s6 = s := ⟨_, rfl⟩
  have hS : overP switchM ([], []) l = (if s7.2 = 0 then (pl, n) else ([], []), s7.2) := by
    have e1 : byteI [b1] = x1 := hx1.symm
    simp only [overP, switchM, bindR, chkR, pureR, h1, e1, hk1, h2, h3, h4, hn1, h5, h6, h7]
  have HX1 := Lib.hid hx1
  have H1 := Lib.hid h1
  have H2 := Lib.hid h2
  have H3 := Lib.hid h3
  have H4 := Lib.hid h4
  have HK1 := Lib.hid hn1
  have H5 := Lib.hid h5
  have H6 := Lib.hid h6
  have H7 := Lib.hid h7
  clear hx1 h1 h2 h3 h4 hn1 h5 h6 h7
  rw [hS]
  clear hS
  by_cases he : s7.2 = 0
  · rw [if_pos he, he]
    have hb : (s7.2 != 0) = false := by simp [he]
    clear he
    go_enter Tryz.func75, Tryz.ntmps75
    go_wp2_with fail
    have S0 : St0 w _ (l, 0) [.string ⟨#[]⟩, .slice none 0 0] := St0.start w _ l HR.out [.string ⟨#[]⟩, .slice none 0 0] 103 132 #[.string ⟨#[]⟩, .slice none 0 0] rfl
    generalize (w.alloc _).alloc _ = w0 at S0 ⊢
    go_wp2_with (first
      | (go_at_call 106; refine (byte_m w _ _ _ _ _ S0.r H1.out).mono ?_; rw [← HX1.out]; rintro e w1 ⟨rfl, R1, O1⟩; have S1 := S0.onR R1 O1; clear S0 R1)
      | (go_at_call 107; refine (wrong_m w _ _ _ _ (q1) S1.r H2.out).mono ?_; rintro e w2 ⟨rfl, R2, O2⟩; have S2 := S1.onR R2 O2; clear S1 R2)
      | (go_at_call 108; refine (ended_q w _ _ _ _ _ S2.r H3.out).mono ?_; rintro e w3 ⟨rfl, R3, O3⟩; have S3 := S2.onR R3 O3; clear S2 R3)
      | ((with_reducible show AtS 6); refine wpl_alloc rfl _ rfl [.string ⟨#[]⟩, .slice none 0 0] (by kernel_rfl) ?_; intro w4 B4 hx4; have S4 : St _ _ _ _ _ [.string ⟨#[]⟩, .slice none 0 0] := S3.new hx4 (Nat.le_refl _) B4; clear S3)
      | ((with_reducible show AtW 103); refine wpl_store_box rfl _ _ _ rfl _ [.string (strL pl), .slice none 0 0] rfl rfl S4.b rfl (by kernel_rfl) (by rfl) ?_; intro w5 B5 O5; have S5 : St _ _ _ _ _ [.string (strL pl), .slice none 0 0] := S4.onV B5 O5; clear S4)
      | (go_at_call 109; refine (bytesS_q w _ _ _ 20 _ _ _ rfl S5.r (by omega) H4.out).mono ?_; rintro e w6 ⟨A6, c6, rfl, ob, R6, O6⟩; have ltob := S5.lt; have loob := S5.lo; have S6 := S5.onR R6 O6; clear S5 R6)
      | ((with_reducible show AtW 22); refine wpl_store_cell rfl _ _ _ rfl w3.heap.size 1 (.slice A6 20 c6) rfl rfl rfl rfl (by kernel_rfl) S6.b (by simp) ?_; intro w7 B7 O7; have S7 : St _ _ _ _ _ [.string (strL pl), .slice A6 20 c6] := S6.onV B7 O7; replace ob := ob.keepB O7 (fun e => by have h9 := (ob.ltB e).1; omega); clear S6; have p7_1 : w7.cell? ⟨w3.heap.size, 1, none⟩ = some (.slice A6 20 c6) := S7.b.at (j := 1) rfl)
      | (go_at_call 127; refine (noncedR_c _ _ _ k1 ob.rd HK1.out).mono ?_; rintro e wx ⟨rfl, rfl⟩)
      | (go_at_call 107; refine (wrong_m w _ _ _ _ (!k1) S7.r H5.out).mono ?_; rintro e w8 ⟨rfl, R8, O8⟩; have S8 := S7.onR R8 O8; replace ob := ob.keepB O8 (fun e => by have h9 := (ob.ltB e).1; omega); clear S7 R8)
      | (go_at_call 117; refine (zeros_q 1 (by omega) w _ _ _ _ S8.r H6.out).mono ?_; rintro e w9 ⟨rfl, R9, O9⟩; have S9 := S8.onR R9 O9; replace ob := ob.keepB O9 (fun e => by have h9 := (ob.ltB e).1; omega); clear S8 R9)
      | (go_at_call 112; refine (done_r w _ _ _ _ S9.r H7.out).mono ?_; rintro e w10 ⟨rfl, R10, O10⟩; have S10 := S9.onR R10 O10; replace ob := ob.keepB O10 (fun e => by have h9 := (ob.ltB e).1; omega); clear S9 R10; have c1 := S10.r.c1; have p10_0 : w10.cell? ⟨w3.heap.size, 0, none⟩ = some (.string (strL pl)) := S10.b.at (j := 0) rfl; have p10_1 : w10.cell? ⟨w3.heap.size, 1, none⟩ = some (.slice A6 20 c6) := S10.b.at (j := 1) rfl)
      | ((with_reducible show AtS 38); refine wpl_load_box rfl _ _ rfl _ rfl S10.b Tryz.underlying103 rfl (by kernel_rfl) ?_)
      | ((with_reducible show AtW 103); refine wpl_store_box rfl _ _ _ rfl _ [.string (strL pl), .slice A6 20 c6] rfl rfl S10.b0 rfl (by kernel_rfl) (by rfl) ?_; intro wz Bz Oz; replace ob := ob.keepB Oz (fun e => by have h9 := (ob.ltB e).1; have := w.heap.size; omega))
      | fail)
    try simp only [Exit.inBlock, Exit.then]
    refine ret_box rfl rfl rfl rfl Bz Tryz.underlying103 rfl (by kernel_rfl) ?_
    exact ⟨_, rfl, ob.rd, S10.ext.on Oz (Nat.le_refl _)⟩
  · rw [if_neg he]
    have hb : (s7.2 != 0) = true := by simpa using he
    clear he
    go_enter Tryz.func75, Tryz.ntmps75
    go_wp2_with fail
    have S0 : St0 w _ (l, 0) [.string ⟨#[]⟩, .slice none 0 0] := St0.start w _ l HR.out [.string ⟨#[]⟩, .slice none 0 0] 103 132 #[.string ⟨#[]⟩, .slice none 0 0] rfl
    generalize (w.alloc _).alloc _ = w0 at S0 ⊢
    go_wp2_with (first
      | (go_at_call 106; refine (byte_m w _ _ _ _ _ S0.r H1.out).mono ?_; rw [← HX1.out]; rintro e w1 ⟨rfl, R1, O1⟩; have S1 := S0.onR R1 O1; clear S0 R1)
      | (go_at_call 107; refine (wrong_m w _ _ _ _ (q1) S1.r H2.out).mono ?_; rintro e w2 ⟨rfl, R2, O2⟩; have S2 := S1.onR R2 O2; clear S1 R2)
      | (go_at_call 108; refine (ended_q w _ _ _ _ _ S2.r H3.out).mono ?_; rintro e w3 ⟨rfl, R3, O3⟩; have S3 := S2.onR R3 O3; clear S2 R3)
      | ((with_reducible show AtS 6); refine wpl_alloc rfl _ rfl [.string ⟨#[]⟩, .slice none 0 0] (by kernel_rfl) ?_; intro w4 B4 hx4; have S4 : St _ _ _ _ _ [.string ⟨#[]⟩, .slice none 0 0] := S3.new hx4 (Nat.le_refl _) B4; clear S3)
      | ((with_reducible show AtW 103); refine wpl_store_box rfl _ _ _ rfl _ [.string (strL pl), .slice none 0 0] rfl rfl S4.b rfl (by kernel_rfl) (by rfl) ?_; intro w5 B5 O5; have S5 : St _ _ _ _ _ [.string (strL pl), .slice none 0 0] := S4.onV B5 O5; clear S4)
      | (go_at_call 109; refine (bytesS_q w _ _ _ 20 _ _ _ rfl S5.r (by omega) H4.out).mono ?_; rintro e w6 ⟨A6, c6, rfl, ob, R6, O6⟩; have ltob := S5.lt; have loob := S5.lo; have S6 := S5.onR R6 O6; clear S5 R6)
      | ((with_reducible show AtW 22); refine wpl_store_cell rfl _ _ _ rfl w3.heap.size 1 (.slice A6 20 c6) rfl rfl rfl rfl (by kernel_rfl) S6.b (by simp) ?_; intro w7 B7 O7; have S7 : St _ _ _ _ _ [.string (strL pl), .slice A6 20 c6] := S6.onV B7 O7; replace ob := ob.keepB O7 (fun e => by have h9 := (ob.ltB e).1; omega); clear S6; have p7_1 : w7.cell? ⟨w3.heap.size, 1, none⟩ = some (.slice A6 20 c6) := S7.b.at (j := 1) rfl)
      | (go_at_call 127; refine (noncedR_c _ _ _ k1 ob.rd HK1.out).mono ?_; rintro e wx ⟨rfl, rfl⟩)
      | (go_at_call 107; refine (wrong_m w _ _ _ _ (!k1) S7.r H5.out).mono ?_; rintro e w8 ⟨rfl, R8, O8⟩; have S8 := S7.onR R8 O8; replace ob := ob.keepB O8 (fun e => by have h9 := (ob.ltB e).1; omega); clear S7 R8)
      | (go_at_call 117; refine (zeros_q 1 (by omega) w _ _ _ _ S8.r H6.out).mono ?_; rintro e w9 ⟨rfl, R9, O9⟩; have S9 := S8.onR R9 O9; replace ob := ob.keepB O9 (fun e => by have h9 := (ob.ltB e).1; omega); clear S8 R9)
      | (go_at_call 112; refine (done_r w _ _ _ _ S9.r H7.out).mono ?_; rintro e w10 ⟨rfl, R10, O10⟩; have S10 := S9.onR R10 O10; replace ob := ob.keepB O10 (fun e => by have h9 := (ob.ltB e).1; omega); clear S9 R10)
      | fail)
    have c1 := S10.r.c1
    have z0 := S10.b0.at (j := 0) (by rfl)
    have y0 := S10.b0.free 0 (by simp)
    have z1 := S10.b0.at (j := 1) (by rfl)
    have y1 := S10.b0.free 1 (by simp)
    have CH := (((On.refl w.heap.size w10).set 0 (.string ⟨#[]⟩)).set 1 (.slice none 0 0))
    have CD := CH.ext (Ext.refl _).drew
    have Bz : BoxF _ w.heap.size [.string ⟨#[]⟩, .slice none 0 0] := ((S10.b0.set 0 (.string ⟨#[]⟩)).set 1 (.slice none 0 0)).ext (Ext.refl _).drew
    have okz := (S10.ext.on CH (Nat.le_refl _)).drew
    have c1d : (World.drew w10).cell? ⟨w.heap.size + 1, 1, none⟩ = some (.int .i64 s7.2) := c1
    have c2d := CD.cell c1 (by simp)
    go_region_held3 (fun W' => W'.cell? ⟨w.heap.size + 1, 1, none⟩ = some (.int .i64 s7.2)) ((first | (with_reducible exact c1d) | (with_reducible exact c2d) | fail)) (fail)
    go_wp2_with fail
    try simp only [Exit.inBlock, Exit.then]
    refine ret_box rfl rfl rfl rfl Bz Tryz.underlying103 rfl (by kernel_rfl) ?_
    exact ⟨_, rfl, Rd.nil _, okz⟩
end Go.Proofs.YtbodppfpmpmadaaGreat

namespace Go.Proofs.YtbodppfpmpmadaaGreat
open Go.RowKit

theorem readOk_ref (w : World) (v : Value) (l : List UInt8) (c : Int) (hr : Rd w v l) (hll : l.length ≤ 8000000) :
    Calls Tryz.prog 77 #[v, .int .u32 c] w (RetOk w (okS l c)) := by
  obtain ⟨ba, sa, hba⟩ := rB_one (l, 0)
  cases h : (ba == 0) with
  | true => exact readOk_ref0 w v l c hr (fun b s hb => by rw [hba] at hb; simp only [Prod.mk.injEq, List.cons.injEq] at hb; rw [← hb.1.1]; exact h) hll
  | false => exact readOk_ref1 w v l c hr (fun b s hb => by rw [hba] at hb; simp only [Prod.mk.injEq, List.cons.injEq] at hb; rw [← hb.1.1]; exact h) hll
end Go.Proofs.YtbodppfpmpmadaaGreat

namespace Go.Proofs.YtbodppfpmpmadaaGreat
open Go.RowKit

set_option maxRecDepth 100000 in
set_option maxHeartbeats 1000000 in
theorem nonce27_c (w : World) : Calls Tryz.prog 51 #[] w (RetB w nonceT) := by
  go_enter Tryz.func51, Tryz.ntmps51
  go_wp2_with fail
  have OW0 : Own w w.heap.size (.slice none 0 0) (nonceT.take 0) := Own.nil _ _
  go_loopw [1, 2] (fun b i W => ∃ k : Nat, k ≤ 20 ∧ i = .int .i64 ((k : Int) + 1) ∧ Own W w.heap.size b (nonceT.take k) ∧ Ext w W) (fun _ i _ => 20 - ((intOf i).toNat - 1))
  case atStart => exact ⟨0, Nat.zero_le _, rfl, OW0, Ext.refl _⟩
  case round =>
    clear OW0
    obtain ⟨k, hk, rfl, ho, hx⟩ := hrel
    have HO := Lib.hid ho
    have HX := Lib.hid hx
    clear ho hx
    by_cases hkN : k < 20
    · have hb : (k : Int) + 1 ≤ 20 := by omega
      have HL := Lib.hid (show (nonceT.take k).length ≤ 20 by rw [List.length_take]; omega)
      go_wp2_with ((with_reducible show AtS 11); refine wpl_append_rd bt (HO.out.ext ((Ext.refl _).alloc _)) (rd_byte _ ((k : Int) + 1) (by omega) _ rfl) rfl _ _ rfl rfl rfl (by have := HL.out; simp only [List.length_cons, List.length_nil]; omega) (Ext.size (HX.out.alloc _)) ?_; intro v1 w1 ho1 hb1)
      rw [← nonceT_take k hkN] at ho1
      go_roundw
      case rel => exact ⟨k + 1, by omega, by go_num, ho1, (HX.out.alloc _).below hb1 (Nat.le_refl _)⟩
      case measure => simp [intOf]; omega
    · obtain rfl : k = 20 := by omega
      have hb : ¬ ((20 : Nat) : Int) + 1 ≤ 20 := by omega
      have e : nonceT.take 20 = nonceT := by decide
      have E := Lib.hid e
      clear e
      go_wp2_with fail
      go_ret
      exact ⟨_, rfl, E.out ▸ HO.out, HX.out⟩
def userN : UserV := ⟨[117], [112, 119], natL, [100], false⟩
set_option maxHeartbeats 1000000 in
theorem user27_c (w : World) : Calls Tryz.prog 48 #[] w fun e w' => e = .returned (.agg #[.string (strL [117]), .string (strL [112, 119]), .string (strL natL), .string (strL [100]), .bool false]) ∧ Ext w w' := by
  go_enter Tryz.func48, Tryz.ntmps48
  go_wp2_with (first
    | ((with_reducible show wpList _ _ _ (⟨some 0, Op.alloc _, _, _, _, _⟩ :: _) _ _); refine wpl_alloc rfl _ rfl user0 (by kernel_rfl) ?_; intro w1 B1 hx1)
    | ((with_reducible show wpList _ _ _ (⟨none, Op.store _ _ _, _, _, _, _⟩ :: _) _ _); refine wpl_store_box rfl _ _ _ rfl _ [.string (strL [117]), .string (strL [112, 119]), .string (strL natL), .string (strL [100]), .bool false] rfl rfl B1 rfl (by kernel_rfl) (by rfl) ?_; intro w2 B2 O2)
    | fail)
  try simp only [Exit.inBlock, Exit.then]
  refine ret_box1 rfl rfl rfl B2 Tryz.underlying32 rfl (by kernel_rfl) ?_
  exact ⟨rfl, hx1.on O2 (Nat.le_refl _)⟩
def greet0C : List Value := [.string ⟨#[]⟩, .int .u32 0, .slice none 0 0, .int .u32 0, .int .u8 0, .int .u16 0, .string ⟨#[]⟩]
set_option maxHeartbeats 1000000 in
theorem greeting27_c (w : World) : Calls Tryz.prog 49 #[] w fun e w' => ∃ A c, e = .returned (.agg #[.string (strL [56]), .int .u32 1, .slice A nonceT.length c, .int .u32 565760, .int .u8 45, .int .u16 2, .string (strL natL)]) ∧ Rd w' (.slice A nonceT.length c) nonceT ∧ Ext w w' := by
  obtain ⟨N, hN⟩ : ∃ N, N = nonceT.length := ⟨_, rfl⟩
  rw [← hN]
  have HN := Lib.hid hN
  clear hN
  go_enter Tryz.func49, Tryz.ntmps49
  go_wp2_with (first
    | ((with_reducible show wpList _ _ _ (⟨some 0, Op.alloc _, _, _, _, _⟩ :: _) _ _); refine wpl_alloc rfl _ rfl greet0C (by kernel_rfl) ?_; intro w1 B1 hx1)
    | (go_at_call 51; refine (nonce27_c _).mono ?_; rintro e w2 ⟨v2, rfl, ho2, hx2⟩; obtain ⟨A2, c2, hv2, _⟩ := id ho2.rd; rw [← HN.out] at hv2; subst hv2; have B2 := B1.ext hx2)
    | (go_at_call 91; refine (needed_c _).mono ?_; rintro e wx ⟨rfl, rfl⟩)
    | ((with_reducible show wpList _ _ _ (⟨none, Op.store _ _ _, _, _, _, _⟩ :: _) _ _); refine wpl_store_box rfl _ _ _ rfl _ [.string (strL [56]), .int .u32 1, .slice A2 N c2, .int .u32 565760, .int .u8 45, .int .u16 2, .string (strL natL)] rfl rfl B2 rfl (by kernel_rfl) (by rfl) ?_; intro w3 B3 O3)
    | fail)
  try simp only [Exit.inBlock, Exit.then]
  refine ret_box1 rfl rfl rfl B3 Tryz.underlying29 rfl (by kernel_rfl) ?_
  exact ⟨A2, c2, rfl, (ho2.on O3 (by have := B1.lt; omega)).rd, (hx1.trans hx2).on O3 (Nat.le_refl _)⟩
def ansL (nm pl r : List UInt8) : List UInt8 := answerB ⟨565760, 16777216, 45, nm, r, [], pl, []⟩
theorem ansL_ok (nm pl r : List UInt8) (h1 : nm.contains 0 = false) (h2 : pl.contains 0 = false) (h3 : r.length ≤ 255) : AnsOk ⟨565760, 16777216, 45, nm, r, [], pl, []⟩ :=
  ⟨by dsimp only; decide, by dsimp only; decide, by dsimp only; decide, by dsimp only; decide, h1, by dsimp only; decide, h2, .inl rfl, .inr (by dsimp only; decide), h3, by dsimp only; decide, .inl rfl⟩
set_option maxHeartbeats 1000000 in
theorem answer27_c (w : World) (nm pl r : List UInt8) (v : Value) (hr : Rd w v r) (h1 : nm.contains 0 = false) (h2 : pl.contains 0 = false) (h3 : r.length ≤ 255) (h4 : nm.length ≤ 100) (h5 : pl.length ≤ 100) :
    Calls Tryz.prog 52 #[.string (strL nm), .string (strL pl), v] w (RetB w (ansL nm pl r)) := by
  have HOK := Lib.hid (ansL_ok nm pl r h1 h2 h3)
  have HR := Lib.hid hr
  have H4 := Lib.hid h4
  have H5 := Lib.hid h5
  obtain ⟨A, c, rfl, _⟩ := hr
  obtain ⟨F, hF⟩ : ∃ F, F = ansL nm pl r := ⟨_, rfl⟩
  rw [← hF]
  have HF := Lib.hid hF
  clear h1 h2 h3 h4 h5 hF
  go_enter Tryz.func52, Tryz.ntmps52
  go_wp2_with (first
    | (go_at_call 91; refine (needed_c _).mono ?_; rintro e wx ⟨rfl, rfl⟩)
    | (go_at_call 93; refine (appendAnswer_r _ 565760 16777216 45 nm r [] pl [] _ _ HR.out (Recs.nil _ _) HOK.out (by have := H4.out; omega) (by simp) (by have := H5.out; omega) (by simp [attrsB]) (by decide)).mono ?_; rintro e w3 ⟨v3, rfl, ho3, hx3⟩)
    | fail)
  go_ret
  rw [HF.out]
  exact ⟨_, rfl, ho3, hx3⟩
end Go.Proofs.YtbodppfpmpmadaaGreat

