/- A change is appended: both sides. -/
import Derived.Test.YtdjnjhlgpflcjaaTrA
import Derived.Test.YtdjnjhlgpflcjaaTrH
import Derived.Deep.RegionHeld3
namespace Go.Proofs.Ytdjnjhlgpflcjaa
open Go.RowKit

set_option maxHeartbeats 400000 in
theorem cloneS_c (w : World) (v : Value) (l : List UInt8) (h : Rd w v l) (hl : l.length ≤ 10000000) :
    Calls Try.prog 22 #[v] w (RetB w l) := by
  have h' := h
  obtain ⟨A, cap, rfl, hle, hm, hA, hc⟩ := h
  have H := Lib.hid h'
  clear h'
  rcases A with _ | ad
  · have hl0 : l = [] := by
      rcases l with _ | ⟨x, m⟩
      · rfl
      · obtain ⟨b, o, h, _⟩ := hc (by simp)
        cases h
    subst hl0
    clear hc hA
    have hn := fun wx => Lib.run_eql_slice_nil (P := Try.prog) wx 23 5 none 0 cap 0 0 Try.underlying23
    go_enter Try.func22, Try.ntmps22
    go_wp2_with fail
    go_ret
    exact ⟨_, rfl, Own.nil _ _, Ext.refl _⟩
  · clear hc hA
    have hn := fun wx => Lib.run_eql_slice_nil (P := Try.prog) wx 23 5 (some ad) l.length cap 0 0 Try.underlying23
    go_enter Try.func22, Try.ntmps22
    go_wp2_with (at_builtin; refine wpl_append_rd bt (base := w.heap.size) (l := []) (own_new w #[] [] rfl 0 rfl (by decide) (Nat.le_refl _)) ((H.out).ext ((Ext.refl w).alloc _)) rfl _ _ rfl rfl rfl (by simp; omega) (by simp) ?_; intro v1 w1 ho hb)
    go_ret
    exact ⟨_, rfl, ho, ((Ext.refl w).alloc _).below hb (Nat.le_refl _)⟩

theorem text_b (w : World) (v : Value) (l s : List UInt8) (hr : Rd w v l) (hs : s.length ≤ 1000000) (hl : l.length ≤ 7000000) :
    Calls Try.prog 21 #[v, .string (strL s)] w (RetB w (l ++ textB s)) := appendText_len w v l (strL s) hr (by rw [strL_size]; exact hs) hl
theorem text_r (w : World) (v : Value) (l s : List UInt8) (hr : Rd w v l) (hs : s.length ≤ 1000000) (hl : l.length ≤ 7000000) :
    Calls Try.prog 30 #[v, .string (strL s)] w (RetB w (l ++ textB s)) := appendText_ref w v l (strL s) hr (by rw [strL_size]; exact hs) hl

set_option maxRecDepth 100000 in
theorem append_bad (w : World) (v : Value) (k : Int) (n x : List UInt8) (h : mayP (k, n, x) = false) :
    Calls Try.prog 8 #[v, .agg #[.int .i64 k, .string (strL n), .string (strL x)]] w (RetBE w [] 2) := by
  have HH := Lib.hid h
  clear h
  go_enter Try.func8, Try.ntmps8
  go_wp2_with (go_at_call 20; refine (may_g _ k n x _ HH.out).mono ?_; rintro e w1 ⟨rfl, hw1⟩; have hx1 : Ext _ w1 := hw1 ▸ (Ext.refl _).alloc _; clear hw1)
  go_ret2
  exact ⟨_, rfl, Own.nil _ _, ((Ext.refl _).alloc _).trans hx1⟩
set_option maxRecDepth 100000 in
theorem append_bad_r (w : World) (v : Value) (k : Int) (n x : List UInt8) (h : mayP (k, n, x) = false) :
    Calls Try.prog 15 #[v, .agg #[.int .i64 k, .string (strL n), .string (strL x)]] w (RetBE w [] 2) := by
  have HH := Lib.hid h
  clear h
  go_enter Try.func15, Try.ntmps15
  go_wp2_with (go_at_call 29; refine (may_r _ k n x _ HH.out).mono ?_; rintro e w1 ⟨rfl, hw1⟩; have hx1 : Ext _ w1 := hw1 ▸ (Ext.refl _).alloc _; clear hw1)
  go_ret2
  exact ⟨_, rfl, Own.nil _ _, ((Ext.refl _).alloc _).trans hx1⟩
end Go.Proofs.Ytdjnjhlgpflcjaa
