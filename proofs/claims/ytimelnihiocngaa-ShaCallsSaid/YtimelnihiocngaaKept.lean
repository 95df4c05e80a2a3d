/- The contract of the statements' helper: is a copy that was made with room behind it still what it was, and what is behind it? -/
import Derived.Test.YtimelnihiocngaaKit
namespace Go.Proofs.Ytimelnihiocngaa
open Go.RowKit

theorem OwnS.form {w : World} {v : Value} {l : List UInt8} (h : OwnS w v l) : ∃ b o cap, v = .slice (some ⟨b, o, none⟩) l.length cap ∧ l.length + 8 ≤ cap ∧ cap ≤ maxLen ∧
    ∀ k, k < 8 → w.cell? ⟨b, o + l.length + k, none⟩ = some (.int .u8 165) := by
  obtain ⟨A, cap, rfl, hcap, A', cap', hv, _, hm, _, hc⟩ := h
  have e1 : A = A' := (Value.slice.inj hv).1
  have e2 : cap = cap' := (Value.slice.inj hv).2.2
  subst e1 e2
  obtain ⟨b, o, rfl, hc2⟩ := hc (by simp)
  refine ⟨b, o, cap, rfl, hcap, hm, fun k hk => ?_⟩
  have := hc2 (l.length + k) (by rw [List.length_append, List.length_replicate]; omega)
  rw [← Nat.add_assoc] at this
  rw [this]
  have e : (l ++ List.replicate 8 165).getD (l.length + k) 0 = (165 : UInt8) := by
    rw [List.getD_eq_getElem?_getD, List.getElem?_append_right (by omega), Nat.add_sub_cancel_left, List.getElem?_replicate, if_pos hk]
    rfl
  rw [e]
  rfl

set_option maxHeartbeats 400000 in
theorem kept_c (w : World) (v vb : Value) (l : List UInt8) (ho : OwnS w v l) (hr : Rd w vb l) (hl : l.length ≤ 1000000) :
    Calls Try.prog 22 #[v, vb] w fun e w' => e = .returned (.bool true) ∧ w = w' := by
  have HB := Lib.hid hr
  have HV := Lib.hid ho.rd
  obtain ⟨b, o, cap, rfl, hcap, hm3, hc⟩ := ho.form
  clear ho
  have HC := Lib.hid hc
  clear hc
  obtain ⟨B, cap2, rfl, hle2, hm2, hz⟩ := hr
  clear hz
  unfold maxLen at hm3 hm2
  have hne : ¬ cap = l.length := by omega
  go_enter Try.func22, Try.ntmps22
  go_wp2_with (go_at_call 19; refine (same_c _ _ _ _ _ HV.out HB.out true (by simp)).mono ?_; rintro e w1 ⟨rfl, rfl⟩)
  go_loop [6] (fun i => ∃ k : Nat, k ≤ 8 ∧ i = .int .i64 k) (fun i => 8 - (intOf i).toNat)
  case atStart => exact ⟨0, Nat.zero_le _, rfl⟩
  case round =>
    obtain ⟨k, hk, rfl⟩ := hrel
    by_cases hlt : k < 8
    · have hcell := HC.out k hlt
      go_wp2_with fail
      go_round
      case rel => exact ⟨k + 1, by omega, by go_num⟩
      case measure => simp [intOf]; omega
    · go_wp2_with fail
      go_ret
      exact ⟨rfl, rfl⟩
end Go.Proofs.Ytimelnihiocngaa
