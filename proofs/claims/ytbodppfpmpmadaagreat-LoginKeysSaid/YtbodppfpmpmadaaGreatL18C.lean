import Derived.Test.YtbodppfpmpmadaaGreatKrB1C
import Derived.Test.YtbodppfpmpmadaaGreatKrB2C
import Derived.Test.YtbodppfpmpmadaaGreatKrB3C
namespace Go.Proofs.YtbodppfpmpmadaaGreat
open Go.RowKit

theorem greetedR_yes (w : World) (g : Nat) (K : KeyV) (l ver n pl : List UInt8) (thr caps chg stg c : Int) (vb : Value) (h : KeyRf w g K) (hf : KeyFit K) (hr : Rd w vb l) (hA : overP greetM gre0 l = (⟨ver, thr, n, caps, chg, stg, pl⟩, 0)) (hc : c = bothC caps (ownK K)) (hk : checkC c = 0) :
    Calls Tryz.prog 73 #[.pointer (some ⟨g, 0, none⟩), vb] w fun e w' => ∃ v, e = .returned (.tuple #[v, .int .i64 0]) ∧ ListsN w' w.heap.size v [answerB (ansK K ⟨ver, thr, n, caps, chg, stg, pl⟩ c)] ∧ KeyRf w' g { K with c := c, t := thr, hd := true } ∧ On g w w' := by
  have hok := ansK_ok hf ⟨ver, thr, n, caps, chg, stg, pl⟩ hc hk
  have hsome := scK_some (K := K) (s := caps) hc
  have hpw := (plainU_inv hf.pw).1
  have hus := (plainU_inv hf.us).1
  have hsl := (scK_plain hf c).1
  have hpl := (plugK_plain pl).2
  have h2 := (core_all hk).2
  obtain ⟨us, pw, sc, own, ch, st, c0, t0, hd⟩ := K
  unfold ansK at hok ⊢
  dsimp only at hok hpw hus hsome ⊢
  obtain ⟨plg, hplg⟩ : ∃ p, p = plugK pl := ⟨_, rfl⟩
  rw [← hplg] at hok hpl ⊢
  obtain ⟨scp, hscp⟩ : ∃ p, p = scK ⟨us, pw, sc, own, ch, st, c0, t0, hd⟩ c := ⟨_, rfl⟩
  rw [← hscp] at hok hsl hsome ⊢
  have hAA : ∀ w vr, Rd w vr (respPl plg pw n) → Calls Tryz.prog 126 #[.slice none 0 0, .agg #[.int .u32 c, .int .u32 16777216, .int .u8 ch, .string (strL us), vr, .string (strL scp), .string (strL plg), .slice none 0 0]] w (RetBE w (answerB ⟨c, 16777216, ch, us, respPl plg pw n, scp, plg, []⟩) 0) :=
    fun w vr hr => appendAnswerR_g w c 16777216 ch us (respPl plg pw n) scp plg vr hr hok h2 hsome (by omega) (by omega) (by omega)
  cases hq : sc.isEmpty with
  | true =>
    have hq1 : (strL sc).toList.isEmpty = true := by rw [strL_tl]; exact hq
    have how : bothC caps (bits .andNot .u32 own 8) = c := by rw [hc]; unfold ownK; dsimp only; rw [hq]; rfl
    have hz : (bits .and .u32 c 8 == 0) = true := by
      have := low_zero (c := c) (by rw [← how]; exact both_low caps own)
      rw [this]; rfl
    have he : scp = [] := by rw [hscp]; unfold scK; rw [hz]; rfl
    rw [he] at hAA ⊢
    exact greetedR_yes1 w g us pw sc own ch st c0 t0 hd l ver n pl plg _ thr caps chg stg c vb h hr hA hq1 how hz hk (by omega) hplg hAA
  | false =>
    have hq1 : (strL sc).toList.isEmpty = false := by rw [strL_tl]; exact hq
    have how : bothC caps (bits .or .u32 own 8) = c := by rw [hc]; unfold ownK; dsimp only; rw [hq]; rfl
    cases hz : (bits .and .u32 c 8 == 0) with
    | true =>
      have he : scp = [] := by rw [hscp]; unfold scK; rw [hz]; rfl
      rw [he] at hAA ⊢
      exact greetedR_yes2 w g us pw sc own ch st c0 t0 hd l ver n pl plg _ thr caps chg stg c vb h hr hA hq1 how hz hk (by omega) hplg hAA
    | false =>
      have he : scp = sc := by rw [hscp]; unfold scK; rw [hz]; rfl
      rw [he] at hAA ⊢
      exact greetedR_yes3 w g us pw sc own ch st c0 t0 hd l ver n pl plg _ thr caps chg stg c vb h hr hA hq1 how hz hk (by omega) hplg hAA
end Go.Proofs.YtbodppfpmpmadaaGreat

