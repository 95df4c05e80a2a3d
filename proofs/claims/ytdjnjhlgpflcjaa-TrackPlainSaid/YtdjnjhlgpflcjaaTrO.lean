/- A session on which nothing is known may be. -/
import Derived.Test.YtdjnjhlgpflcjaaTrK
namespace Go.Proofs.Ytdjnjhlgpflcjaa
open Go.RowKit

set_option maxRecDepth 100000 in
set_option maxHeartbeats 2000000 in
theorem check_nil (w : World) (s : ByteArray) (tr us lk od : Bool) :
    Calls Try.prog 18 #[.agg (trC s nilV nilV tr us lk od).toArray] w fun e w' => e = .returned (.int .i64 0) ∧ Ext w w' := by
  go_enter Try.func18, Try.ntmps18
  go_wp2_with fail
  go_loop [3, 21] (fun o i => o = .bool true ∧ i = .int .i64 0) (fun _ _ => 0)
  case atStart => exact ⟨rfl, rfl⟩
  case round =>
    obtain ⟨rfl, rfl⟩ := hrel
    go_wp2_with fail
    go_loop [3, 52] (fun o i => o = .bool true ∧ i = .int .i64 0) (fun _ _ => 0)
    case atStart => exact ⟨rfl, rfl⟩
    case round =>
      obtain ⟨rfl, rfl⟩ := hrel
      go_wp2_with fail
      go_ret
      exact ⟨rfl, (Ext.refl _).alloc _⟩
theorem anyCk_nil (w : World) (s : ByteArray) (tr us lk od : Bool) : AnyCk w (trC s nilV nilV tr us lk od) := fun w' _ => check_nil w' s tr us lk od
theorem ext_alloc_of {w w' : World} {o : Obj} (h : w.alloc o = w') : Ext w w' := h ▸ (Ext.refl w).alloc o
/-- One change, written out. -/
theorem rec_lit (w : World) (C : Array Value) (t : TypeId) (k : Int) (n x : List UInt8) (hC : C = #[.int .i64 k, .string (strL n), .string (strL x)]) (g c : Nat) (hg : g = w.heap.size) (hc : 1 ≤ c) (hm : c ≤ maxLen) :
    RecC (w.alloc (.cells C t)) (.slice (some ⟨g, 0, none⟩) 1 c) [(k, n, x)] := by
  subst hC hg
  have B := BoxF.new w (chgC (k, n, x)) t
  refine ⟨some ⟨w.heap.size, 0, none⟩, c, rfl, hc, hm, fun _ => ⟨w.heap.size, 0, rfl, fun j hj => ?_⟩⟩
  obtain rfl : j = 0 := by simp [chgsC] at hj; exact hj
  intro jj u hu
  have := B.at (j := jj) hu
  rw [show 0 + 0 * 3 + jj = jj by omega]
  exact this
end Go.Proofs.Ytdjnjhlgpflcjaa
