/- The walk of LenencTexts. -/
import Derived.Test.YtnlfcknpmemhfaaLawA
import Derived.Test.YtnlfcknpmemhfaaLenH
import Derived.Test.YtnlfcknpmemhfaaKept
namespace Go.Proofs.Ytnlfcknpmemhfaa
open Go.RowKit

/-- What comes of an ended text's writing. -/
def endR (l s : List UInt8) : List UInt8 × Int := if s.contains 0 = true then ([], 2) else (l ++ s ++ [0], 0)

theorem RetZ.at {w : World} {l s m : List UInt8} {r : Int} (h : endR l s = (m, r)) {e : Ending} {w' : World} (hz : RetZ w l s e w') : RetBE w m r e w' := by
  unfold endR at h
  by_cases hc : s.contains 0 = true
  · rw [if_pos hc] at h
    injection h with h1 h2
    subst h1 h2
    exact hz.1 hc
  · rw [if_neg hc] at h
    injection h with h1 h2
    subst h1 h2
    exact hz.2 (by simpa using hc)

theorem readText_at_ref (w : World) (v : Value) (l t : List UInt8) (n : Nat) (r : Int) (s : ByteArray) (hr : Rd w v l) (h : readT l = (t, n, r)) (hs : strL t = s) :
    Calls Try.prog 48 #[v] w fun e w' => e = .returned (.tuple #[.string s, .int .i64 n, .int .i64 r]) ∧ w = w' := by
  have := readText_ref w v l hr
  rw [h] at this
  subst hs
  exact this
theorem readEnded_at_ref (w : World) (v : Value) (l t : List UInt8) (n : Nat) (r : Int) (s : ByteArray) (hr : Rd w v l) (h : readZ l = (t, n, r)) (hs : strL t = s) :
    Calls Try.prog 49 #[v] w fun e w' => e = .returned (.tuple #[.string s, .int .i64 n, .int .i64 r]) ∧ w = w' := by
  have := readEnded_ref w v l hr
  rw [h] at this
  subst hs
  exact this

set_option maxRecDepth 100000 in
set_option maxHeartbeats 4000000 in
theorem lenencTexts_c (w : World) (v : Value) (l : List UInt8) (s : ByteArray) (hr : Rd w v l) (hs : s.size ≤ 9223372036854775807) :
    Calls Try.prog 9 #[v, .string s] w (RetTrue w) := by
  have HR := Lib.hid hr
  obtain ⟨A, cap, rfl, hle, hm, hz⟩ := hr
  clear hz
  unfold maxLen at hm
  by_cases hb : 5000 < l.length
  · go_enter Try.func9, Try.ntmps9
    go_wp2_with (go_at_call 28; refine (lives01_c _).mono ?_; rintro e w1 ⟨rfl, hx1⟩)
    go_ret
    exact ⟨rfl, hx1⟩
  · by_cases hb2 : 5000 < s.size
    · go_enter Try.func9, Try.ntmps9
      go_wp2_with (go_at_call 28; refine (lives01_c _).mono ?_; rintro e w1 ⟨rfl, hx1⟩)
      go_ret
      exact ⟨rfl, hx1⟩
    · obtain ⟨m, r, h1⟩ : ∃ m r, endR l s.data.toList = (m, r) := ⟨_, _, rfl⟩
      obtain ⟨t, n, g, h2⟩ : ∃ t n g, readT l = (t, n, g) := ⟨_, _, _, rfl⟩
      obtain ⟨u, k, q, h3⟩ : ∃ u k q, readZ l = (u, k, q) := ⟨_, _, _, rfl⟩
      have H1 := Lib.hid h1
      have H2 := Lib.hid h2
      have H3 := Lib.hid h3
      clear h1 h2 h3 hm hle hs
      go_enter Try.func9, Try.ntmps9
      go_wp2_with (first | (go_at_call 28; refine (lives01_c _).mono ?_; rintro e w1 ⟨rfl, hx1⟩) | (go_at_call 17; (with_reducible show Calls _ _ _ w1 _); refine (own_c _ _ _ (HR.out.ext hx1) (by omega)).mono ?_; rintro e w2 ⟨vo, rfl, ho, hx2⟩) | (go_at_call 44; refine (appendEnded_len _ _ _ s ho.rd (by omega) (by omega)).mono ?_; intro e w3 hz; obtain ⟨va, rfl, hoa, hx3⟩ := hz.at H1.out; clear hz) | (go_at_call 45; refine (appendEnded_ref _ _ _ s (HR.out.ext (hx1.trans (hx2.trans hx3))) (by omega) (by omega)).mono ?_; intro e w4 hz; obtain ⟨vc, rfl, hoc, hx4⟩ := hz.at H1.out; clear hz) | (go_at_call 31; (with_reducible show Calls _ _ _ w4 _); refine (appendText_len _ _ _ s (ho.ext (hx3.trans hx4)).rd (by omega) (by omega)).mono ?_; rintro e w5 ⟨vd, rfl, hod, hx5⟩) | (go_at_call 46; (with_reducible show Calls _ _ _ w5 _); refine (appendText_ref _ _ _ s (HR.out.ext (hx1.trans (hx2.trans (hx3.trans (hx4.trans hx5))))) (by omega) (by omega)).mono ?_; rintro e w6 ⟨ve, rfl, hoe, hx6⟩) | ((with_reducible show Calls _ _ #[vd, ve] _ _); refine (same_c _ _ _ _ _ (hod.rd.ext hx6) hoe.rd true (by simp)).mono ?_; rintro e wx ⟨rfl, rfl⟩) | (go_at_call 30; refine (appendInt_len _ _ _ (s.size : Int) (ho.ext (hx3.trans (hx4.trans (hx5.trans hx6)))).rd (by omega) (by omega) (by omega)).mono ?_; rintro e w7 ⟨vf, rfl, hof, hx7⟩) | (go_at_call 40; refine (appendInt_ref _ _ _ (s.size : Int) (HR.out.ext (hx1.trans (hx2.trans (hx3.trans (hx4.trans (hx5.trans (hx6.trans hx7))))))) (by omega) (by omega) (by omega)).mono ?_; rintro e w8 ⟨vg, rfl, hog, hx8⟩; have HV := Lib.hid (HR.out.ext (hx1.trans (hx2.trans (hx3.trans (hx4.trans (hx5.trans (hx6.trans (hx7.trans hx8))))))))) | ((with_reducible show Calls _ _ #[vf, vg] _ _); refine (same_c _ _ _ _ _ (hof.rd.ext hx8) hog.rd true (by simp)).mono ?_; rintro e wx ⟨rfl, rfl⟩) | (go_at_call 47; refine (kept_c _ _ _ _ (ho.ext (hx3.trans (hx4.trans (hx5.trans (hx6.trans (hx7.trans hx8)))))) HV.out (by omega)).mono ?_; rintro e wx ⟨rfl, rfl⟩) | (go_at_call 32; refine (readText_at_len _ _ _ _ _ _ _ HV.out H2.out rfl).mono ?_; rintro e wx ⟨rfl, rfl⟩) | (go_at_call 48; refine (readText_at_ref _ _ _ _ _ _ _ HV.out H2.out rfl).mono ?_; rintro e wx ⟨rfl, rfl⟩) | ((with_reducible show Calls _ _ #[va, vc] _ _); refine (same_c _ _ _ m m (hoa.rd.ext (hx4.trans (hx5.trans (hx6.trans (hx7.trans hx8))))) (hoc.rd.ext (hx5.trans (hx6.trans (hx7.trans hx8)))) true (by simp)).mono ?_; rintro e wx ⟨rfl, rfl⟩) | (go_at_call 43; refine (readEnded_at_len _ _ _ _ _ _ _ HV.out H3.out rfl).mono ?_; rintro e wx ⟨rfl, rfl⟩) | (go_at_call 49; refine (readEnded_at_ref _ _ _ _ _ _ _ HV.out H3.out rfl).mono ?_; rintro e wx ⟨rfl, rfl⟩) | (go_at_call 17; (with_reducible show Calls _ _ _ w8 _); refine (own_c _ _ _ HV.out (by omega)).mono ?_; rintro e w9 ⟨vp, rfl, hop, hx9⟩) | (go_at_call 31; (with_reducible show Calls _ _ _ w9 _); refine (appendText_len _ _ _ s hop.rd (by omega) (by omega)).mono ?_; rintro e w10 ⟨vq, rfl, hoq, hx10⟩) | (go_at_call 46; (with_reducible show Calls _ _ _ w10 _); refine (appendText_ref _ _ _ s (HV.out.ext (hx9.trans hx10)) (by omega) (by omega)).mono ?_; rintro e w11 ⟨vr, rfl, hor, hx11⟩) | ((with_reducible show Calls _ _ #[vq, vr] _ _); refine (same_c _ _ _ _ _ (hoq.rd.ext hx11) hor.rd true (by simp)).mono ?_; rintro e wx ⟨rfl, rfl⟩))
      go_ret
      exact ⟨rfl, (hx1.trans (hx2.trans (hx3.trans (hx4.trans (hx5.trans (hx6.trans (hx7.trans (hx8.trans (hx9.trans (hx10.trans hx11))))))))))⟩
end Go.Proofs.Ytnlfcknpmemhfaa
