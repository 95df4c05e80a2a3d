/- The contracts of the reference on replies, first half: fixed numbers, capabilities, an ERR, a file. -/
import Derived.Test.YtnlfcknpmemhfaaRepB
import Derived.Test.YtnlfcknpmemhfaaRegB
namespace Go.Proofs.Ytnlfcknpmemhfaa
open Go.RowKit

theorem hasR_at (w : World) (c x : Int) (r : Bool) (h : hasB c x = r) :
    Calls Try.prog 69 #[.int .u32 c, .int .u32 x] w fun e w' => e = .returned (.bool r) ∧ w = w' := by
  have H := Lib.hid h
  clear h
  go_enter Try.func69, Try.ntmps69
  go_wp2_with fail
  go_ret
  rw [← H.out]
  exact ⟨rfl, rfl⟩

theorem fixedR_c (w : World) (v : Value) (l : List UInt8) (x n : Int) (hr : Rd w v l) (hl : l.length ≤ 9000000) (h : fixOk x n = true) :
    Calls Try.prog 68 #[v, .int .u64 x, .int .i64 n] w (RetB w (l ++ fixB x n.toNat)) := by
  have HR := Lib.hid hr
  have HK := Lib.hid h
  clear hr h
  go_enter Try.func68, Try.ntmps68
  go_wp2_with (go_at_call 34; refine (appendFixed_good_ref _ _ _ _ _ HR.out hl HK.out).mono ?_; rintro e w1 ⟨v1, rfl, ho, hx⟩)
  go_ret
  exact ⟨_, rfl, ho, hx⟩

set_option maxHeartbeats 400000 in
theorem trackR_c (w : World) (c st : Int) (r : Bool) (h : trackB c st = r) :
    Calls Try.prog 67 #[.int .u32 c, .int .u16 st] w fun e w' => e = .returned (.bool r) ∧ w = w' := by
  cases hk : hasB c 8388608 with
  | false =>
    have hr : r = false := by rw [← h]; simp [trackB, hk]
    subst hr
    have HK := Lib.hid hk
    clear hk h
    go_enter Try.func67, Try.ntmps67
    go_wp2_with (go_at_call 69; refine (hasR_at _ _ _ false HK.out).mono ?_; rintro e w1 ⟨rfl, rfl⟩)
    go_ret
    exact ⟨rfl, rfl⟩
  | true =>
    have hr : (bits .and .u16 st 16384 != 0) = r := by rw [← h]; simp [trackB, hk]
    have HK := Lib.hid hk
    have HQ := Lib.hid hr
    clear hk h hr
    go_enter Try.func67, Try.ntmps67
    go_wp2_with (go_at_call 69; refine (hasR_at _ _ _ true HK.out).mono ?_; rintro e w1 ⟨rfl, rfl⟩)
    go_ret
    rw [← HQ.out]
    exact ⟨rfl, rfl⟩

set_option maxRecDepth 100000 in
set_option maxHeartbeats 1000000 in
theorem appendErrR_bad (w : World) (v : Value) (c : Int) (s t : ByteArray) (h : (s.size : Int) ≠ 5) (_hs : s.size ≤ 9223372036854775807) :
    Calls Try.prog 21 #[v, .agg #[.int .u16 c, .string s, .string t]] w (RetBE w [] 2) := by
  have hb : ((s.size : Int) == 5) = false := by simpa using h
  clear h
  go_enter Try.func21, Try.ntmps21
  go_wp2_with fail
  go_ret2
  exact ⟨_, rfl, Own.nil _ _, (Ext.refl _).alloc _⟩

theorem Box.held1 {W0 W : World} {g j : Nat} {cs : List Value} {v : Value} (h : Box W0 g cs) (hv : cs[j]? = some v) (e : Ext W0 W) : W.cell? ⟨g, j, none⟩ = some v ∧ Ext W0 W := by
  obtain ⟨hj, hv⟩ := List.getElem?_eq_some_iff.1 hv
  have h1 := (h.ext e) j hj
  simp [List.getD, hj, hv] at h1
  exact ⟨h1, e⟩

set_option maxRecDepth 100000 in
set_option maxHeartbeats 1000000 in
theorem appendErrR_good (w : World) (v : Value) (l : List UInt8) (c : Int) (s t : ByteArray) (hr : Rd w v l) (hl : l.length ≤ 1000000) (h : s.size = 5) (ht : t.size ≤ 1000000) (hc : 0 ≤ c ∧ c < 65536) :
    Calls Try.prog 21 #[v, .agg #[.int .u16 c, .string s, .string t]] w (RetBE w (l ++ errB c s.data.toList t.data.toList) 0) := by
  have HR := Lib.hid hr
  clear hr
  have hb : ((s.size : Int) == 5) = true := by simp [h]
  have HW := Lib.hid (show IntKind.u64.wrap c = c from IntWalk.u64_in c (by omega))
  have HK := Lib.hid (show fixOk c 2 = true by simp [fixOk]; omega)
  have hf : (fixB c 2).length = 2 := fixB_length c 2
  go_enter Try.func21, Try.ntmps21
  go_wp2_with fail
  generalize hW0 : w.alloc _ = W0
  have hbox : Box W0 w.heap.size [.int .u16 c, .string s, .string t] := by rw [← hW0]; exact Box.new w _ _
  have hx0 : Ext w W0 := by rw [← hW0]; exact (Ext.refl w).alloc _
  clear hW0
  have hE := Ext.refl W0
  have hlt : w.heap.size < W0.heap.size := World.block_lt_of_cell? W0 _ (hbox 0 (by simp))
  go_region_held3 (fun W' => W'.cell? ⟨w.heap.size, 0, none⟩ = some (.int .u16 c) ∧ Ext W0 W') ((refine Box.held1 hbox (j := 0) (by simp) ?_; first | exact hE.drew | exact (hE.alloc _).drew | exact ((hE.alloc _).alloc _).drew | exact hE | exact hE.alloc _))
    (first
      | ((with_reducible show (if Region.wanted (⟨some 13, _, _, _, _, _⟩ : Oper) _ = true then _ else _)); refine step_append_rdg bt ((own_nil W0 W0.heap.size W0.heap.size rfl (Nat.le_refl _)).ext (Ext.refl _).drew) (HR.out.ext (hx0.trans ((hE.alloc _).drew))) (by rfl) _ _ (by rfl) (by rfl) (by rfl) (by simp; omega) (by first | (simp; done) | (simp; omega)) ?_; intro v1 w1 ho1 hb1 hg1; replace hE := ((hE.alloc _).drew).below hb1 (Nat.le_refl _))
      | ((with_reducible show (if Region.wanted (⟨some 13, _, _, _, _, _⟩ : Oper) _ = true then _ else _)); refine step_append_rdg bt ((own_nil W0 W0.heap.size W0.heap.size rfl (Nat.le_refl _)).ext ((Ext.refl _).alloc _).drew) (HR.out.ext (hx0.trans (((hE.alloc _).alloc _).drew))) (by rfl) _ _ (by rfl) (by rfl) (by rfl) (by simp; omega) (by first | (simp; done) | (simp; omega)) ?_; intro v1 w1 ho1 hb1 hg1; replace hE := (((hE.alloc _).alloc _).drew).below hb1 (Nat.le_refl _))
      | ((with_reducible show (if Region.wanted (⟨some 13, _, _, _, _, _⟩ : Oper) _ = true then _ else _)); refine step_append_rdg bt ((own_nil (W0.alloc _) (W0.heap.size + 1) W0.heap.size (by simp) (by simp)).ext (Ext.refl _).drew) (HR.out.ext (hx0.trans (((hE.alloc _).alloc _).drew))) (by rfl) _ _ (by rfl) (by rfl) (by rfl) (by simp; omega) (by first | (simp; done) | (simp; omega)) ?_; intro v1 w1 ho1 hb1 hg1; replace hE := (((hE.alloc _).alloc _).drew).below hb1 (Nat.le_refl _))
      | ((with_reducible show (if Region.wanted (⟨some 15, _, _, _, _, _⟩ : Oper) _ = true then _ else _)); refine step_append_rd bt (ho1.ext ((Ext.refl _).alloc _)) (rd_lit w1 _ [255] (by rfl) (by simp) 1 _ (by rfl) (by rfl)) (by rfl) _ _ (by rfl) (by rfl) (by rfl) (by simp; omega) (hE.alloc _).size ?_; intro v2 w2 ho2 hb2; replace hE := (hE.alloc _).below hb2 (Nat.le_refl _))
      | ((with_reducible show (if Region.wanted (⟨some 15, _, _, _, _, _⟩ : Oper) _ = true then _ else _)); refine step_append_rd bt ho1 (rd_far ((rd_lit (W0.alloc _) _ [255] (by rfl) (by simp) 1 (W0.heap.size + 1) (by rfl) (by simp)).ext (Ext.refl _).drew) hg1 (by simp [Value.ownBlock])) (by rfl) _ _ (by rfl) (by rfl) (by rfl) (by simp; omega) hE.size ?_; intro v2 w2 ho2 hb2; replace hE := hE.below hb2 (Nat.le_refl _))
      | ((with_reducible show (if Region.wanted (⟨some 15, _, _, _, _, _⟩ : Oper) _ = true then _ else _)); refine step_append_rd bt ho1 (rd_far ((rd_lit W0 _ [255] (by rfl) (by simp) 1 _ (by rfl) (by rfl)).ext ((Ext.refl _).alloc _).drew) hg1 (by simp [Value.ownBlock])) (by rfl) _ _ (by rfl) (by rfl) (by rfl) (by simp; omega) hE.size ?_; intro v2 w2 ho2 hb2; replace hE := hE.below hb2 (Nat.le_refl _))
      | (go_at_call 68; rw [HW.out]; refine (fixedR_c _ _ _ c 2 ho2.rd (by simp; omega) HK.out).mono ?_; rintro e w3 ⟨v3, rfl, ho3', hx3⟩; have ho3 := ho3'.more (base' := W0.heap.size) hE.size; clear ho3'; replace hE := hE.trans hx3))
  all_goals
    clear hb1 hg1 hb2 ho1 ho2
    have hc1 := (hbox.ext hE) 1 (by simp)
    have hc2 := (hbox.ext hE) 2 (by simp)
    go_wp2_with fail
    go_region_held3 (fun W' => W'.cell? ⟨w.heap.size, 1, none⟩ = some (.string s) ∧ W'.cell? ⟨w.heap.size, 2, none⟩ = some (.string t) ∧ Ext W0 W') ((refine Box.held2 hbox (j := 1) (k := 2) (by simp) (by simp) ?_; first | exact hE.drew | exact (hE.alloc _).drew | exact hE))
      (first
        | ((with_reducible show (if Region.wanted (⟨some 22, _, _, _, _, _⟩ : Oper) _ = true then _ else _)); refine step_append_rd bt (ho3.ext (((Ext.refl _).alloc _).drew)) ((rd_lit w3 _ [35] (by rfl) (by simp) 1 _ (by rfl) (by rfl)).ext (Ext.refl _).drew) (by rfl) _ _ (by rfl) (by rfl) (by rfl) (by simp; omega) (hE.alloc _).drew.size ?_; intro v4 w4 ho4 hb4; replace hE := (hE.alloc _).drew.below hb4 (Nat.le_refl _))
        | ((with_reducible show (if Region.wanted (⟨some 25, _, _, _, _, _⟩ : Oper) _ = true then _ else _)); refine step_append_st bt s ho4 (by rfl) _ _ (by rfl) (by rfl) (by rfl) (by simp; omega) hE.size ?_; intro v5 w5 ho5 hb5; replace hE := hE.below hb5 (Nat.le_refl _))
        | ((with_reducible show (if Region.wanted (⟨some 28, _, _, _, _, _⟩ : Oper) _ = true then _ else _)); refine step_append_st bt t ho5 (by rfl) _ _ (by rfl) (by rfl) (by rfl) (by simp; omega) hE.size ?_; intro v6 w6 ho6 hb6; replace hE := hE.below hb6 (Nat.le_refl _)))
    go_wp2_with fail
    go_ret2
    refine ⟨_, rfl, ?_, hx0.trans hE⟩
    have := ho6.more (base' := w.heap.size) (by omega)
    simpa [errB] using this

/-- A file. -/
def fileB (s : List UInt8) : List UInt8 := 251 :: s

set_option maxHeartbeats 400000 in
theorem appendFile_bad (w : World) (v : Value) :
    Calls Try.prog 22 #[v, .string ⟨#[]⟩] w (RetBE w [] 2) := by
  go_enter Try.func22, Try.ntmps22
  go_wp2_with fail
  go_ret2
  exact ⟨_, rfl, Own.nil _ _, Ext.refl _⟩

set_option maxHeartbeats 400000 in
theorem appendFileR_bad (w : World) (v : Value) :
    Calls Try.prog 23 #[v, .string ⟨#[]⟩] w (RetBE w [] 2) := by
  go_enter Try.func23, Try.ntmps23
  go_wp2_with fail
  go_ret2
  exact ⟨_, rfl, Own.nil _ _, Ext.refl _⟩

set_option maxHeartbeats 400000 in
theorem appendFile_good (w : World) (v : Value) (l : List UInt8) (s : ByteArray) (hr : Rd w v l) (hl : l.length ≤ 1000000) (hs : s.size ≤ 1000000) (h : s.toList ≠ []) :
    Calls Try.prog 22 #[v, .string s] w (RetBE w (l ++ fileB s.data.toList) 0) := by
  have HR := Lib.hid hr
  clear hr
  have hb : (s.toList == []) = false := by simpa using h
  go_enter Try.func22, Try.ntmps22
  go_wp2_with (first
    | (go_at_call 64; refine (clone_c _ _ _ HR.out (by omega)).mono ?_; rintro e w1 ⟨v1, rfl, ho1, hx1⟩)
    | ((with_reducible show wpList _ _ _ (⟨some 11, _, _, _, _, _⟩ :: _) _ _); refine wpl_append_one bt 251 ho1 (by omega) (by omega) rfl _ _ rfl rfl rfl (by omega) hx1.size ?_; intro v2 w2 ho2 hb2)
    | ((with_reducible show wpList _ _ _ (⟨some 13, _, _, _, _, _⟩ :: _) _ _); refine wpl_append_st bt s ho2 rfl _ _ rfl rfl rfl (by simp; omega) (hx1.below hb2 (Nat.le_refl _)).size ?_; intro v3 w3 ho3 hb3))
  go_ret2
  refine ⟨_, rfl, ?_, (hx1.below hb2 (Nat.le_refl _)).below hb3 (Nat.le_refl _)⟩
  simpa [fileB] using ho3

set_option maxHeartbeats 400000 in
theorem appendFileR_good (w : World) (v : Value) (l : List UInt8) (s : ByteArray) (hr : Rd w v l) (hl : l.length ≤ 1000000) (hs : s.size ≤ 1000000) (h : s.toList ≠ []) :
    Calls Try.prog 23 #[v, .string s] w (RetBE w (l ++ fileB s.data.toList) 0) := by
  have HR := Lib.hid hr
  clear hr
  have hb : (s.toList == []) = false := by simpa using h
  go_enter Try.func23, Try.ntmps23
  go_wp2_with (first
    | ((with_reducible show wpList _ _ _ (⟨some 10, _, _, _, _, _⟩ :: _) _ _); refine wpl_clone bt HR.out rfl _ _ rfl rfl rfl (by omega) ?_; intro v1 w1 ho1 hx1)
    | ((with_reducible show wpList _ _ _ (⟨some 12, _, _, _, _, _⟩ :: _) _ _); refine wpl_append_one bt 251 ho1 (by omega) (by omega) rfl _ _ rfl rfl rfl (by omega) hx1.size ?_; intro v2 w2 ho2 hb2)
    | ((with_reducible show wpList _ _ _ (⟨some 14, _, _, _, _, _⟩ :: _) _ _); refine wpl_append_st bt s ho2 rfl _ _ rfl rfl rfl (by simp; omega) (hx1.below hb2 (Nat.le_refl _)).size ?_; intro v3 w3 ho3 hb3))
  go_ret2
  refine ⟨_, rfl, ?_, (hx1.below hb2 (Nat.le_refl _)).below hb3 (Nat.le_refl _)⟩
  simpa [fileB] using ho3
end Go.Proofs.Ytnlfcknpmemhfaa
