/- Any bytes have the hashes that the document says. -/
import Derived.Test.YtimelnihiocngaaShaQ
import Derived.Test.YtimelnihiocngaaKept
import Derived.Outline
namespace Go.Proofs.Ytimelnihiocngaa
open Go.RowKit

set_option maxRecDepth 100000 in
set_option maxHeartbeats 1000000 in
theorem shaCalls_c (w : World) (v : Value) (l : List UInt8) (hr : Rd w v l) : Calls Try.prog 4 #[v] w fun e w' => e = .returned (.bool true) ∧ Ext w w' := by
  have hmx := hr.le
  unfold maxLen at hmx
  have HR := Lib.hid hr
  obtain ⟨A, cap, rfl, hle, hm, hz, _⟩ := id hr
  clear hr hz
  by_cases h5 : l.length ≤ 5000
  · have h5i : (l.length : Int) ≤ 5000 := by omega
    go_enter Try.func4, Try.ntmps4
    go_wp2_with (first
      | (go_at_call 14; refine (lives07_c _).mono ?_; rintro e w0 ⟨rfl, hx0⟩)
      | (go_at_call 18; refine (own_c _ _ l (HR.out.ext hx0) (by omega)).mono ?_; rintro e w1 ⟨v1, rfl, hO1, hx1⟩; have hx01 := hx0.trans hx1)
      | (go_at_call 16; refine (sum1_c _ _ l hO1.rd (by omega)).mono ?_; rintro e w2 ⟨v2, rfl, ho2, hx2⟩; have hx02 := hx01.trans hx2)
      | (go_at_call 20; refine (sum1_r _ _ l (HR.out.ext hx02) (by omega)).mono ?_; rintro e w3 ⟨v3, rfl, ho3, hx3⟩; have hx03 := hx02.trans hx3)
      | (go_at_call 19; (with_reducible show Calls _ _ #[v2, v3] _ _); refine (same_c _ _ _ _ _ (ho2.rd.ext hx3) ho3.rd true (by simp)).mono ?_; rintro e w4 ⟨rfl, rfl⟩)
      | (go_at_call 17; refine (sum256_c _ _ l (hO1.rd.ext (hx2.trans hx3)) (by omega)).mono ?_; rintro e w5 ⟨v5, rfl, ho5, hx5⟩; have hx05 := hx03.trans hx5)
      | (go_at_call 21; refine (sum256_r _ _ l (HR.out.ext hx05) (by omega)).mono ?_; rintro e w6 ⟨v6, rfl, ho6, hx6⟩; have hx06 := hx05.trans hx6)
      | (go_at_call 19; (with_reducible show Calls _ _ #[v5, v6] _ _); refine (same_c _ _ _ _ _ (ho5.rd.ext hx6) ho6.rd true (by simp)).mono ?_; rintro e w7 ⟨rfl, rfl⟩)
      | (go_at_call 22; refine (kept_c _ _ _ l (hO1.ext (((hx2.trans hx3).trans hx5).trans hx6)) (HR.out.ext hx06) (by omega)).mono ?_; rintro e w8 ⟨rfl, rfl⟩)
      | fail)
    go_ret
    exact ⟨rfl, hx06⟩
  · have h5i : 5000 < (l.length : Int) := by omega
    go_enter Try.func4, Try.ntmps4
    go_wp2_with (first
      | (go_at_call 14; refine (lives07_c _).mono ?_; rintro e w0 ⟨rfl, hx0⟩)
      | fail)
    go_ret
    exact ⟨rfl, hx0⟩
end Go.Proofs.Ytimelnihiocngaa
