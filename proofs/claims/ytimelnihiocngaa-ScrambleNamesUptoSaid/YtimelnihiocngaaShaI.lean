/- The two sums of bytes. -/
import Derived.Test.YtimelnihiocngaaShaH
namespace Go.Proofs.Ytimelnihiocngaa
open Go.RowKit

/-- The hash of bytes. -/
def sumP (kind : Int) (l : List UInt8) : List UInt8 := sumH kind (feedH kind (initH kind) l) l.length

set_option maxRecDepth 100000 in
set_option maxHeartbeats 1000000 in
theorem sum_k (w : World) (kind : Int) (v : Value) (l : List UInt8) (hk : kind = 1 ∨ kind = 2) (hr : Rd w v l) (hl : l.length ≤ 100000000) :
    Calls Try.prog 59 #[.int .i64 kind, v] w fun e w' => ∃ v', e = .returned v' ∧ Own w' w.heap.size v' (sumP kind l) ∧ Ext w w' := by
  have HR := Lib.hid hr
  have HK := Lib.hid hk
  clear hr hk
  go_enter Try.func59, Try.ntmps59
  go_wp2_with (first
    | (go_at_call 13; refine (new_c _ _ HK.out).mono ?_; rintro e w1 ⟨g, rfl, hg, hx1, B1⟩)
    | (go_at_call 23; refine (write_c _ g kind _ 0 v l B1 (goodH_init kind) (by rcases HK.out with h | h <;> omega) (HR.out.ext hx1) (HR.out.far hg) (by omega)).mono ?_; rintro e w2 ⟨rfl, O2, B2⟩; have hx2 := hx1.on O2 hg)
    | (go_at_call 25; refine (sum_c _ g kind _ _ B2 (goodH_feed kind l (goodH_init kind)) (by rcases HK.out with h | h <;> omega) (by omega)).mono ?_; rintro e w3 ⟨v3, rfl, OW3, hx3⟩)
    | fail)
  go_ret
  refine ⟨_, rfl, ?_, hx2.trans hx3⟩
  rw [Nat.zero_add] at OW3
  exact OW3.more (Ext.size hx2)

theorem sum1_c (w : World) (v : Value) (l : List UInt8) (hr : Rd w v l) (hl : l.length ≤ 100000000) :
    Calls Try.prog 16 #[v] w fun e w' => ∃ v', e = .returned v' ∧ Own w' w.heap.size v' (sumP 1 l) ∧ Ext w w' := by
  have HR := Lib.hid hr
  clear hr
  go_enter Try.func16, Try.ntmps16
  go_wp2_with (first
    | (go_at_call 59; refine (sum_k _ _ _ l (.inl rfl) HR.out hl).mono ?_; rintro e w3 ⟨v3, rfl, OW3, hx3⟩)
    | fail)
  go_ret
  exact ⟨_, rfl, OW3, hx3⟩
theorem sum256_c (w : World) (v : Value) (l : List UInt8) (hr : Rd w v l) (hl : l.length ≤ 100000000) :
    Calls Try.prog 17 #[v] w fun e w' => ∃ v', e = .returned v' ∧ Own w' w.heap.size v' (sumP 2 l) ∧ Ext w w' := by
  have HR := Lib.hid hr
  clear hr
  go_enter Try.func17, Try.ntmps17
  go_wp2_with (first
    | (go_at_call 59; refine (sum_k _ _ _ l (.inr rfl) HR.out hl).mono ?_; rintro e w3 ⟨v3, rfl, OW3, hx3⟩)
    | fail)
  go_ret
  exact ⟨_, rfl, OW3, hx3⟩
end Go.Proofs.Ytimelnihiocngaa
