/- The contracts of the small functions of the package on replies: is a capability there, a fixed number behind bytes; an ERR, a file. -/
import Derived.Test.YtnlfcknpmemhfaaLenE
import Derived.Test.YtnlfcknpmemhfaaLenH
import Derived.Test.YtnlfcknpmemhfaaKit
import Derived.Test.YtnlfcknpmemhfaaRegion
import Derived.IntWalk
namespace Go.Proofs.Ytnlfcknpmemhfaa
open Go.RowKit

/-- Is a capability there? -/
def hasB (c x : Int) : Bool := bits .and .u32 c x != 0

theorem has_at (w : World) (c x : Int) (r : Bool) (h : hasB c x = r) :
    Calls Try.prog 66 #[.int .u32 c, .int .u32 x] w fun e w' => e = .returned (.bool r) ∧ w = w' := by
  have H := Lib.hid h
  clear h
  go_enter Try.func66, Try.ntmps66
  go_wp2_with fail
  go_ret
  rw [← H.out]
  exact ⟨rfl, rfl⟩

theorem fixed_c (w : World) (v : Value) (l : List UInt8) (x n : Int) (hr : Rd w v l) (hl : l.length ≤ 9000000) (h : fixOk x n = true) :
    Calls Try.prog 65 #[v, .int .u64 x, .int .i64 n] w (RetB w (l ++ fixB x n.toNat)) := by
  have HR := Lib.hid hr
  have HK := Lib.hid h
  clear hr h
  go_enter Try.func65, Try.ntmps65
  go_wp2_with (go_at_call 33; refine (appendFixed_good_len _ _ _ _ _ HR.out hl HK.out).mono ?_; rintro e w1 ⟨v1, rfl, ho, hx⟩)
  go_ret
  exact ⟨_, rfl, ho, hx⟩

/-- An ERR. -/
def errB (c : Int) (s t : List UInt8) : List UInt8 := [255] ++ fixB c 2 ++ [35] ++ s ++ t

set_option maxRecDepth 100000 in
set_option maxHeartbeats 1000000 in
theorem appendErr_bad (w : World) (v : Value) (c : Int) (s t : ByteArray) (h : (s.size : Int) ≠ 5) (_hs : s.size ≤ 9223372036854775807) :
    Calls Try.prog 20 #[v, .agg #[.int .u16 c, .string s, .string t]] w (RetBE w [] 2) := by
  have hb : ((s.size : Int) == 5) = false := by simpa using h
  clear h
  go_enter Try.func20, Try.ntmps20
  go_wp2_with fail
  go_ret2
  exact ⟨_, rfl, Own.nil _ _, (Ext.refl _).alloc _⟩

theorem Box.held0 {W0 W : World} {g : Nat} {cs : List Value} {v : Value} (h : Box W0 g cs) (hv : cs.head? = some v) (k : Ext W0 W) : W.cell? ⟨g, 0, none⟩ = some v ∧ Ext W0 W := by
  cases cs with
  | nil => simp at hv
  | cons a b => simp at hv; subst hv; exact ⟨(h.ext k) 0 (by simp), k⟩

theorem Box.held2 {W0 W : World} {g j k : Nat} {cs : List Value} {v u : Value} (h : Box W0 g cs) (hv : cs[j]? = some v) (hu : cs[k]? = some u) (e : Ext W0 W) : W.cell? ⟨g, j, none⟩ = some v ∧ W.cell? ⟨g, k, none⟩ = some u ∧ Ext W0 W := by
  obtain ⟨hj, hv⟩ := List.getElem?_eq_some_iff.1 hv
  obtain ⟨hk, hu⟩ := List.getElem?_eq_some_iff.1 hu
  have h1 := (h.ext e) j hj
  have h2 := (h.ext e) k hk
  simp [List.getD, hj, hv] at h1
  simp [List.getD, hk, hu] at h2
  exact ⟨h1, h2, e⟩

set_option maxRecDepth 100000 in
set_option maxHeartbeats 1000000 in
theorem appendErr_good (w : World) (v : Value) (l : List UInt8) (c : Int) (s t : ByteArray) (hr : Rd w v l) (hl : l.length ≤ 1000000) (h : s.size = 5) (ht : t.size ≤ 1000000) (hc : 0 ≤ c ∧ c < 65536) :
    Calls Try.prog 20 #[v, .agg #[.int .u16 c, .string s, .string t]] w (RetBE w (l ++ errB c s.data.toList t.data.toList) 0) := by
  have HR := Lib.hid hr
  clear hr
  have hb : ((s.size : Int) == 5) = true := by simp [h]
  have HW := Lib.hid (show IntKind.u64.wrap c = c from IntWalk.u64_in c (by omega))
  have HK := Lib.hid (show fixOk c 2 = true by simp [fixOk]; omega)
  go_enter Try.func20, Try.ntmps20
  go_wp2_with fail
  generalize hW0 : w.alloc _ = W0
  have hbox : Box W0 w.heap.size [.int .u16 c, .string s, .string t] := by rw [← hW0]; exact Box.new w _ _
  have hx0 : Ext w W0 := by rw [← hW0]; exact (Ext.refl w).alloc _
  clear hW0
  have hlt : w.heap.size < W0.heap.size := World.block_lt_of_cell? W0 _ (hbox 0 (by simp))
  go_region_held3 (fun W' => W'.cell? ⟨w.heap.size, 0, none⟩ = some (.int .u16 c) ∧ Ext W0 W') ((go_split_ands; refine Box.held0 hbox (by simp) ?_; first | exact (Ext.refl _).drew | exact ((Ext.refl _).alloc _).drew | exact Ext.trans (by assumption) hx1 | exact Ext.below (by assumption) hb2 (Nat.le_refl _) | exact Ext.trans (by assumption) hx3 | exact Ext.alloc (by assumption) _))
    (first
      | (go_at_call 64; go_must (go_split_ands; refine (clone_c _ _ _ (HR.out.ext (hx0.trans (by assumption))) ?_).mono ?_; omega; rintro e w1 ⟨v1, rfl, ho1', hx1⟩; have ho1 := ho1'.more (base' := W0.heap.size) (Ext.size (by assumption)); clear ho1'))
      | (go_at_call 65; rw [HW.out]; go_must (go_split_ands; refine (fixed_c _ _ _ c 2 ho2.rd ?_ HK.out).mono ?_; (simp; omega); rintro e w3 ⟨v3, rfl, ho3', hx3⟩; have ho3 := ho3'.more (base' := W0.heap.size) (Ext.size (by assumption)); clear ho3'))
      | ((with_reducible show (if Region.wanted (⟨some 14, _, _, _, _, _⟩ : Oper) _ = true then _ else _)); go_split_ands; refine step_append_rd bt (ho1.ext ((Ext.refl _).alloc _)) (rd_lit w1 _ [255] (by rfl) (by simp) 1 _ (by rfl) (by rfl)) (by rfl) _ _ (by rfl) (by rfl) (by rfl) ?_ ?_ ?_; (simp; omega); (exact Ext.size (by assumption)); intro v2 w2 ho2 hb2)
      | ((with_reducible show (if Region.wanted (⟨some 14, _, _, _, _, _⟩ : Oper) _ = true then _ else _)); go_split_ands; refine step_append_rd bt ho1 ((rd_lit _ _ [255] (by rfl) (by simp) 1 _ (by rfl) (by rfl)).ext ((Ext.refl _).drew.trans hx1)) (by rfl) _ _ (by rfl) (by rfl) (by rfl) ?_ ?_ ?_; (simp; omega); (exact Ext.size (by assumption)); intro v2 w2 ho2 hb2))
  all_goals
    go_split_ands
    rename Ext W0 w3 => hx03
    have hc1 := (hbox.ext hx03) 1 (by simp)
    have hc2 := (hbox.ext hx03) 2 (by simp)
    have hf : (fixB c 2).length = 2 := fixB_length c 2
    clear hx1 hb2 hx3 ho1 ho2
    go_wp2_with fail
    go_region_held3 (fun W' => W'.cell? ⟨w.heap.size, 1, none⟩ = some (.string s) ∧ W'.cell? ⟨w.heap.size, 2, none⟩ = some (.string t) ∧ Ext W0 W') ((go_split_ands; refine Box.held2 hbox (j := 1) (k := 2) (by simp) (by simp) ?_; first | exact hx03.drew | exact (hx03.alloc _).drew | exact Ext.below (by assumption) hb4 (Nat.le_refl _)))
      (first
        | ((with_reducible show (if Region.wanted (⟨some 21, _, _, _, _, _⟩ : Oper) _ = true then _ else _)); go_split_ands; refine step_append_rd bt (ho3.ext (((Ext.refl _).alloc _).drew)) ((rd_lit w3 _ [35] (by rfl) (by simp) 1 _ (by rfl) (by rfl)).ext (Ext.refl _).drew) (by rfl) _ _ (by rfl) (by rfl) (by rfl) ?_ ?_ ?_; (simp; omega); (exact Ext.size (by assumption)); intro v4 w4 ho4 hb4)
        | ((with_reducible show (if Region.wanted (⟨some 24, _, _, _, _, _⟩ : Oper) _ = true then _ else _)); go_split_ands; refine step_append_st bt s ho4 (by rfl) _ _ (by rfl) (by rfl) (by rfl) ?_ ?_ ?_; (simp; omega); (exact Ext.size (by assumption)); clear hb4; intro v5 w5 ho5 hb4)
        | ((with_reducible show (if Region.wanted (⟨some 27, _, _, _, _, _⟩ : Oper) _ = true then _ else _)); go_split_ands; refine step_append_st bt t ho5 (by rfl) _ _ (by rfl) (by rfl) (by rfl) ?_ ?_ ?_; (simp; omega); (exact Ext.size (by assumption)); clear hb4; intro v6 w6 ho6 hb4))
    go_split_ands
    rename Ext W0 w6 => hx06
    clear hb4 ho5 ho4
    go_wp2_with fail
    go_ret2
    refine ⟨_, rfl, ?_, hx0.trans hx06⟩
    have := ho6.more (base' := w.heap.size) (by omega)
    simpa [errB] using this
end Go.Proofs.Ytnlfcknpmemhfaa
