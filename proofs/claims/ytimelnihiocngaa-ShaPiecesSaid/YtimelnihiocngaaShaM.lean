/- Nobody's hashes refuse every call. -/
import Derived.Test.YtimelnihiocngaaShaL
namespace Go.Proofs.Ytimelnihiocngaa
open Go.RowKit

set_option maxRecDepth 100000 in
set_option maxHeartbeats 1000000 in
theorem shaNil_c (w : World) (v : Value) : Calls Try.prog 6 #[v] w fun e w' => e = .returned (.bool true) ∧ Ext w w' := by
  go_enter Try.func6, Try.ntmps6
  go_wp2_with fail
  generalize hW0 : (w.alloc _).alloc _ = W0
  have hx0 : Ext w W0 := by rw [← hW0]; exact ((Ext.refl w).alloc _).alloc _
  have p0 : W0.cell? ⟨w.heap.size, 0, none⟩ = some (.int .i64 0) := by
    rw [← hW0]
    exact (((BoxF.new w hash0 _).ext ((Ext.refl _).alloc _)).at (j := 0) rfl)
  have p1 : W0.cell? ⟨w.heap.size + 1, 0, none⟩ = some (.pointer none) := by
    rw [← hW0]
    simp
  have p2 : W0.cell? ⟨w.heap.size + 1, 1, none⟩ = some (.pointer (some ⟨w.heap.size, 0, none⟩)) := by
    rw [← hW0]
    simp
  have n0 : NoHash W0 none := .inl rfl
  have n1 : NoHash W0 (some ⟨w.heap.size, 0, none⟩) := .inr ⟨_, rfl, p0⟩
  have N0 := Lib.hid n0
  have N1 := Lib.hid n1
  clear hW0 p0 n0 n1
  go_loop [4] (fun i => ∃ k : Nat, k ≤ 2 ∧ i = .int .i64 k) (fun i => 2 - (intOf i).toNat)
  case atStart => exact ⟨0, Nat.zero_le _, rfl⟩
  case round =>
    obtain ⟨k, hk, rfl⟩ := hrel
    have h3 : k = 0 ∨ k = 1 ∨ k = 2 := by omega
    rcases h3 with rfl | rfl | rfl
    all_goals simp only [Int.cast_ofNat_Int]
    · go_wp2_with (first
        | (go_at_call 23; refine (write_n _ _ _ N0.out).mono ?_; rintro e w1 ⟨rfl, rfl⟩)
        | (go_at_call 25; refine (sum_n _ _ N0.out).mono ?_; rintro e w1 ⟨rfl, rfl⟩)
        | (go_at_call 24; refine (len_n _ _ N0.out).mono ?_; rintro e w1 ⟨rfl, rfl⟩)
        | fail)
      go_round
      case rel => exact ⟨1, by omega, rfl⟩
      case measure => simp [intOf]
    · go_wp2_with (first
        | (go_at_call 23; refine (write_n _ _ _ N1.out).mono ?_; rintro e w1 ⟨rfl, rfl⟩)
        | (go_at_call 25; refine (sum_n _ _ N1.out).mono ?_; rintro e w1 ⟨rfl, rfl⟩)
        | (go_at_call 24; refine (len_n _ _ N1.out).mono ?_; rintro e w1 ⟨rfl, rfl⟩)
        | fail)
      go_round
      case rel => exact ⟨2, by omega, rfl⟩
      case measure => simp [intOf]
    · go_wp2_with (go_at_call 14; refine (lives07_c _).mono ?_; rintro e w1 ⟨rfl, hx1⟩)
      go_ret
      exact ⟨rfl, hx0.trans hx1⟩
end Go.Proofs.Ytimelnihiocngaa
