/- The contracts of bytes.Clone and of the functions that write fixed numbers. -/
import Derived.Test.YtdjnjhlgpflcjaaFacts
import Derived.Test.YtdjnjhlgpflcjaaSpec
namespace Go.Proofs.Ytdjnjhlgpflcjaa
open Go.RowKit

/-- One result: a slice of bytes that the call owns. -/
def RetB (w : World) (l : List UInt8) (e : Ending) (w' : World) : Prop := ∃ v, e = .returned v ∧ Own w' w.heap.size v l ∧ Ext w w'

set_option maxHeartbeats 400000 in
theorem clone_c (w : World) (v : Value) (l : List UInt8) (h : Rd w v l) (hl : l.length ≤ 10000000) :
    Calls Try.prog 47 #[v] w (RetB w l) := by
  have h' := h
  obtain ⟨A, cap, rfl, hle, hm, hA, hc⟩ := h
  have H := Lib.hid h'
  clear h'
  rcases A with _ | ad
  · have hl0 : l = [] := by
      rcases l with _ | ⟨x, m⟩
      · rfl
      · obtain ⟨b, o, h, _⟩ := hc (by simp)
        cases h
    subst hl0
    clear hc hA
    have hn := fun wx => Lib.run_eql_slice_nil (P := Try.prog) wx 23 5 none 0 cap 0 0 Try.underlying23
    go_enter Try.func47, Try.ntmps47
    go_wp2_with fail
    go_ret
    exact ⟨_, rfl, Own.nil _ _, Ext.refl _⟩
  · clear hc hA
    have hn := fun wx => Lib.run_eql_slice_nil (P := Try.prog) wx 23 5 (some ad) l.length cap 0 0 Try.underlying23
    go_enter Try.func47, Try.ntmps47
    go_wp2_with (at_builtin; refine wpl_append_rd bt (base := w.heap.size) (l := []) (own_new w #[] [] rfl 0 rfl (by decide) (Nat.le_refl _)) ((H.out).ext ((Ext.refl w).alloc _)) rfl _ _ rfl rfl rfl (by simp; omega) (by simp) ?_; intro v1 w1 ho hb)
    go_ret
    exact ⟨_, rfl, ho, ((Ext.refl w).alloc _).below hb (Nat.le_refl _)⟩
end Go.Proofs.Ytdjnjhlgpflcjaa
