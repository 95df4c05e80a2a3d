/- The walk of LenencNumbers. -/
import Derived.Test.YtnlfcknpmemhfaaLawA
import Derived.Test.YtnlfcknpmemhfaaLenH
namespace Go.Proofs.Ytnlfcknpmemhfaa
open Go.RowKit

set_option maxRecDepth 100000 in
set_option maxHeartbeats 2000000 in
theorem lenencNumbers_c (w : World) (v : Value) (l : List UInt8) (x n : Int) (hr : Rd w v l) (hx0 : 0 ≤ x) (hx9 : x < 18446744073709551616) :
    Calls Try.prog 6 #[v, .int .u64 x, .int .i64 n] w (RetTrue w) := by
  have HR := Lib.hid hr
  obtain ⟨A, cap, rfl, hle, hm, hz⟩ := hr
  clear hz
  unfold maxLen at hm
  by_cases hb : 5000 < l.length
  · go_enter Try.func6, Try.ntmps6
    go_wp2_with (go_at_call 28; refine (lives01_c _).mono ?_; rintro e w1 ⟨rfl, hx1⟩)
    go_ret
    exact ⟨rfl, hx1⟩
  · obtain ⟨m, r, h1⟩ : ∃ m r, fixR l x n = (m, r) := ⟨_, _, rfl⟩
    obtain ⟨y, s, h2⟩ : ∃ y s, readF l n = (y, s) := ⟨_, _, rfl⟩
    obtain ⟨p, k, g, h3⟩ : ∃ p k g, readI l = (p, k, g) := ⟨_, _, _, rfl⟩
    have H1 := Lib.hid h1
    have H2 := Lib.hid h2
    have H3 := Lib.hid h3
    clear h1 h2 h3
    have HX := Lib.hid (And.intro hx0 hx9)
    clear hx0 hx9 hm hle
    go_enter Try.func6, Try.ntmps6
    go_wp2_with (first | (go_at_call 28; refine (lives01_c _).mono ?_; rintro e w1 ⟨rfl, hx1⟩) | (go_at_call 17; (with_reducible show Calls _ _ _ w1 _); refine (own_c _ _ _ (HR.out.ext hx1) (by omega)).mono ?_; rintro e w2 ⟨vo, rfl, ho, hx2⟩) | (go_at_call 33; refine (appendFixed_at_len _ _ _ _ _ _ _ ho.rd (by omega) H1.out).mono ?_; rintro e w3 ⟨va, rfl, hoa, hx3⟩) | (go_at_call 34; refine (appendFixed_at_ref _ _ _ _ _ _ _ (HR.out.ext (hx1.trans (hx2.trans hx3))) (by omega) H1.out).mono ?_; rintro e w4 ⟨vc, rfl, hoc, hx4⟩; have HV := Lib.hid (HR.out.ext (hx1.trans (hx2.trans (hx3.trans hx4)))); have HO := Lib.hid (ho.ext (hx3.trans hx4)).rd) | ((with_reducible show Calls _ _ #[va, vc] _ _); refine (same_c _ _ _ m m (hoa.rd.ext hx4) hoc.rd true (by simp)).mono ?_; rintro e wx ⟨rfl, rfl⟩) | ((with_reducible show Calls _ 19 #[vo, _] _ _); refine (same_c _ _ _ l l HO.out HV.out true (by simp)).mono ?_; rintro e wx ⟨rfl, rfl⟩) | (go_at_call 35; refine (readFixed_at_len _ _ _ _ _ _ HO.out H2.out).mono ?_; rintro e wx ⟨rfl, rfl⟩) | (go_at_call 36; refine (readFixed_at_ref _ _ _ _ _ _ HV.out H2.out).mono ?_; rintro e wx ⟨rfl, rfl⟩) | (go_at_call 29; refine (readInt_at_len _ _ _ _ _ _ HO.out H3.out).mono ?_; rintro e wx ⟨rfl, rfl⟩) | (go_at_call 37; refine (readInt_at_ref _ _ _ _ _ _ HV.out H3.out).mono ?_; rintro e wx ⟨rfl, rfl⟩) | (go_at_call 38; refine (size_len _ _).mono ?_; rintro e wx ⟨rfl, rfl⟩) | (go_at_call 39; refine (size_ref _ _).mono ?_; rintro e wx ⟨rfl, rfl⟩) | (go_at_call 17; (with_reducible show Calls _ _ _ w4 _); refine (own_c _ _ _ HV.out (by omega)).mono ?_; rintro e w5 ⟨vp, rfl, hop, hx5⟩) | (go_at_call 30; refine (appendInt_len _ _ _ _ hop.rd HX.out.1 HX.out.2 (by omega)).mono ?_; rintro e w6 ⟨vd, rfl, hod, hx6⟩) | (go_at_call 40; refine (appendInt_ref _ _ _ _ (HV.out.ext (hx5.trans hx6)) HX.out.1 HX.out.2 (by omega)).mono ?_; rintro e w7 ⟨ve, rfl, hoe, hx7⟩) | ((with_reducible show Calls _ _ #[vd, ve] _ _); refine (same_c _ _ _ _ _ (hod.rd.ext hx7) hoe.rd true (by simp)).mono ?_; rintro e wx ⟨rfl, rfl⟩))
    go_ret
    exact ⟨rfl, hx1.trans (hx2.trans (hx3.trans (hx4.trans (hx5.trans (hx6.trans hx7)))))⟩
end Go.Proofs.Ytnlfcknpmemhfaa
