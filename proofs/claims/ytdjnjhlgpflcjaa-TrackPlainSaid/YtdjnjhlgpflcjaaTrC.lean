/- A change that may be is appended, by its kind: both sides. (Printed by gen_trB.py.) -/
import Derived.Test.YtdjnjhlgpflcjaaTrB
namespace Go.Proofs.Ytdjnjhlgpflcjaa
open Go.RowKit

set_option maxRecDepth 100000 in
set_option maxHeartbeats 2000000 in
theorem append_good0 (w : World) (v : Value) (l n x : List UInt8) (h : mayP (0, n, x) = true) (hr : Rd w v l) (hn : n.length ≤ 10000) (hx : x.length ≤ 10000) (hl : l.length ≤ 5000000) :
    Calls Try.prog 8 #[v, .agg #[.int .i64 0, .string (strL n), .string (strL x)]] w (RetBE w (l ++ chgB (0, n, x)) 0) := by
  have hi := inB_le (0, n, x)
  dsimp only at hi
  have hq := preB_le (0, n, x)
  dsimp only at hq
  have hS : inB (0, n, x) = textB n ++ textB x := rfl
  have hC : chgB (0, n, x) = [0] ++ textB (inB (0, n, x)) := rfl
  have hP : (textB n).length ≤ n.length + 9 := hq
  generalize hin : inB (0, n, x) = S at hi hS hC
  have HH := Lib.hid h
  have HR := Lib.hid hr
  have HS := Lib.hid hS
  have HC := Lib.hid hC
  clear h hr hS hC hin hq
  go_enter Try.func8, Try.ntmps8
  go_wp2_with fail
  generalize hW0 : w.alloc _ = W0
  have hbox : Box W0 w.heap.size [.int .i64 0, .string (strL n), .string (strL x)] := by rw [← hW0]; exact Box.new w _ _
  have hx0 : Ext w W0 := by rw [← hW0]; exact (Ext.refl w).alloc _
  clear hW0
  have hE := Ext.refl W0
  obtain ⟨c0, c1, c2⟩ := hbox.three hE
  go_wp2_with (first
    | (go_at_call 20; refine (may_g _ 0 n x _ HH.out).mono ?_; rintro e w1 ⟨rfl, hw1⟩; have hx1 : Ext _ w1 := hw1 ▸ (Ext.refl _).alloc _; clear hw1; replace hE := hE.trans hx1; clear c0 c1 c2; obtain ⟨c0, c1, c2⟩ := hbox.three hE)
    | ((with_reducible show Calls _ _ #[_, .string (strL n)] _ _); go_at_call 21; refine (text_b _ _ [] n (Rd.nil _) (by omega) (by simp)).mono ?_; rintro e w2 ⟨v2, rfl, ho2', hx2⟩; rw [List.nil_append] at ho2'; have ho2 := ho2'.more (base' := W0.heap.size) hE.size; clear ho2'; replace hE := hE.trans hx2; clear c0 c1 c2; obtain ⟨c0, c1, c2⟩ := hbox.three hE)
    | ((with_reducible show Calls _ _ #[_, .string (strL x)] _ _); go_at_call 21; refine (text_b _ _ (textB n) x ho2.rd (by omega) (by omega)).mono ?_; rintro e w3 ⟨v3, rfl, ho3', hx3⟩; rw [← HS.out] at ho3'; have ho3 := ho3'.more (base' := W0.heap.size) hE.size; clear ho3'; replace hE := hE.trans hx3; clear c0 c1 c2; obtain ⟨c0, c1, c2⟩ := hbox.three hE)
    | fail)
  clear c0 c1 c2
  have hb3 := hbox.ext hE
  have HX03 := Lib.hid (hx0.trans hE)
  clear hE hbox hx0 hx1 hx3
  have hE := Ext.refl w3
  go_region_held3 (fun W' => W'.cell? ⟨w.heap.size, 0, none⟩ = some (.int .i64 0) ∧ Ext w3 W') ((refine Box.hold1 hb3 (j := 0) (by rfl) ?_; first | exact hE.drew | exact (hE.alloc _).drew | exact hE | exact hE.alloc _))
    (first
      | (go_at_call 22; go_must (first | (refine (cloneS_c _ _ _ (HR.out.ext (HX03.out.trans hE.drew)) (by omega)).mono ?_; rintro e w8 ⟨v8, rfl, ho8', hx8⟩; have ho8 := ho8'.more (base' := w3.heap.size) hE.size; clear ho8'; replace hE := hE.drew.trans hx8) | (refine (cloneS_c _ _ _ (HR.out.ext (HX03.out.trans (hE.alloc _).drew)) (by omega)).mono ?_; rintro e w8 ⟨v8, rfl, ho8', hx8⟩; have ho8 := ho8'.more (base' := w3.heap.size) (hE.alloc _).drew.size; clear ho8'; replace hE := (hE.alloc _).drew.trans hx8) | fail))
      | ((with_reducible show (if Region.wanted (⟨some 34, _, _, _, _, _⟩ : Oper) _ = true then _ else _)); go_must (first | (refine step_append_rd bt (ho8.ext ((Ext.refl _).alloc _)) (rd_lit w8 _ [0] (by rfl) (by simp) 1 _ (by rfl) (by rfl)) (by rfl) _ _ (by rfl) (by rfl) (by rfl) (by simp; omega) (hE.alloc _).size ?_; intro v9 w9 ho9 hb9; replace hE := (hE.alloc _).below hb9 (Nat.le_refl _)) | (refine step_append_rd bt ho8 (((rd_lit w3 _ [0] (by rfl) (by simp) 1 _ (by rfl) (by rfl)).ext (Ext.refl _).drew).ext hx8) (by rfl) _ _ (by rfl) (by rfl) (by rfl) (by simp; omega) hE.size ?_; intro v9 w9 ho9 hb9; replace hE := hE.below hb9 (Nat.le_refl _)) | fail))
      | fail)
  all_goals
    have ho3z := ho3.ext hE
    have HA := Lib.hid (HX03.out.trans hE)
    have h39 := Nat.le_trans (Ext.size HX03.out) (Ext.size hE)
    clear ho3 ho8 hx8 hb9 hE hb3
    go_wp2_with (first
      | ((with_reducible show wpList _ _ _ (⟨some 37, _, _, _, _, _⟩ :: _) _ _); refine wpl_str bt ho3z.rd rfl _ rfl rfl ?_)
      | (go_at_call 21; refine (text_b _ _ _ S ho9.rd (by omega) (by simp; omega)).mono ?_; rintro e w10 ⟨v10, rfl, ho10, hx10⟩)
      | fail)
    go_ret2
    refine ⟨_, rfl, ?_, HA.out.trans hx10⟩
    rw [HC.out, ← List.append_assoc]
    exact ho10.more h39

set_option maxRecDepth 100000 in
set_option maxHeartbeats 2000000 in
theorem append_good_r0 (w : World) (v : Value) (l n x : List UInt8) (h : mayP (0, n, x) = true) (hr : Rd w v l) (hn : n.length ≤ 10000) (hx : x.length ≤ 10000) (hl : l.length ≤ 5000000) :
    Calls Try.prog 15 #[v, .agg #[.int .i64 0, .string (strL n), .string (strL x)]] w (RetBE w (l ++ chgB (0, n, x)) 0) := by
  have hi := inB_le (0, n, x)
  dsimp only at hi
  have hq := preB_le (0, n, x)
  dsimp only at hq
  have hS : inB (0, n, x) = textB n ++ textB x := rfl
  have hC : chgB (0, n, x) = [0] ++ textB (inB (0, n, x)) := rfl
  have hP : (textB n).length ≤ n.length + 9 := hq
  generalize hin : inB (0, n, x) = S at hi hS hC
  have HH := Lib.hid h
  have HR := Lib.hid hr
  have HS := Lib.hid hS
  have HC := Lib.hid hC
  clear h hr hS hC hin hq
  go_enter Try.func15, Try.ntmps15
  go_wp2_with fail
  generalize hW0 : w.alloc _ = W0
  have hbox : Box W0 w.heap.size [.int .i64 0, .string (strL n), .string (strL x)] := by rw [← hW0]; exact Box.new w _ _
  have hx0 : Ext w W0 := by rw [← hW0]; exact (Ext.refl w).alloc _
  clear hW0
  have hE := Ext.refl W0
  obtain ⟨c0, c1, c2⟩ := hbox.three hE
  go_wp2_with (first
    | (go_at_call 29; refine (may_r _ 0 n x _ HH.out).mono ?_; rintro e w1 ⟨rfl, hw1⟩; have hx1 : Ext _ w1 := hw1 ▸ (Ext.refl _).alloc _; clear hw1; replace hE := hE.trans hx1; clear c0 c1 c2; obtain ⟨c0, c1, c2⟩ := hbox.three hE)
    | ((with_reducible show Calls _ _ #[_, .string (strL n)] _ _); go_at_call 30; refine (text_r _ _ [] n (Rd.nil _) (by omega) (by simp)).mono ?_; rintro e w2 ⟨v2, rfl, ho2', hx2⟩; rw [List.nil_append] at ho2'; have ho2 := ho2'.more (base' := W0.heap.size) hE.size; clear ho2'; replace hE := hE.trans hx2; clear c0 c1 c2; obtain ⟨c0, c1, c2⟩ := hbox.three hE)
    | ((with_reducible show Calls _ _ #[_, .string (strL x)] _ _); go_at_call 30; refine (text_r _ _ (textB n) x ho2.rd (by omega) (by omega)).mono ?_; rintro e w3 ⟨v3, rfl, ho3', hx3⟩; rw [← HS.out] at ho3'; have ho3 := ho3'.more (base' := W0.heap.size) hE.size; clear ho3'; replace hE := hE.trans hx3; clear c0 c1 c2; obtain ⟨c0, c1, c2⟩ := hbox.three hE)
    | ((with_reducible show wpList _ _ _ (⟨some 27, _, _, _, _, _⟩ :: _) _ _); refine wpl_append_rd bt (Own.nil _ _) (HR.out.ext (hx0.trans hE)) rfl _ _ rfl rfl rfl (by simp; omega) (Nat.le_refl _) ?_; intro v7 w7 ho7 hb7; rw [List.nil_append] at ho7; have h37 := (Ext.refl w3).below hb7 (Nat.le_refl _); clear c0 c1 c2; obtain ⟨c0, c1, c2⟩ := hbox.three (hE.trans h37))
    | ((with_reducible show wpList _ _ _ (⟨some 33, _, _, _, _, _⟩ :: _) _ _); refine wpl_append_one bt 0 ho7 (by omega) (by omega) rfl _ _ rfl rfl rfl (by omega) (Below.size hb7) ?_; intro v9 w9 ho9 hb9; have h39 := h37.below hb9 (Nat.le_refl _); have ho3y := ho3.ext h39)
    | ((with_reducible show wpList _ _ _ (⟨some 36, _, _, _, _, _⟩ :: _) _ _); refine wpl_str bt ho3y.rd rfl _ rfl rfl ?_)
    | ((with_reducible show Calls _ _ #[_, .string (strL S)] _ _); go_at_call 30; refine (text_r _ _ _ S ho9.rd (by omega) (by simp; omega)).mono ?_; rintro e w10 ⟨v10, rfl, ho10, hx10⟩)
    | fail)
  go_ret2
  refine ⟨_, rfl, ?_, ?_⟩
  · rw [HC.out, ← List.append_assoc]
    exact ho10.more (by have := Ext.size hx0; have := Ext.size hE; have := Ext.size h39; omega)
  · exact (hx0.trans hE).trans (h39.trans hx10)

set_option maxRecDepth 100000 in
set_option maxHeartbeats 2000000 in
theorem append_good1 (w : World) (v : Value) (l n x : List UInt8) (h : mayP (1, n, x) = true) (hr : Rd w v l) (hn : n.length ≤ 10000) (hx : x.length ≤ 10000) (hl : l.length ≤ 5000000) :
    Calls Try.prog 8 #[v, .agg #[.int .i64 1, .string (strL n), .string (strL x)]] w (RetBE w (l ++ chgB (1, n, x)) 0) := by
  have hi := inB_le (1, n, x)
  dsimp only at hi
  have hq := preB_le (1, n, x)
  dsimp only at hq
  have hS : inB (1, n, x) = [] ++ textB x := rfl
  have hC : chgB (1, n, x) = [1] ++ textB (inB (1, n, x)) := rfl
  have hP : ([]).length ≤ n.length + 9 := hq
  generalize hin : inB (1, n, x) = S at hi hS hC
  have HH := Lib.hid h
  have HR := Lib.hid hr
  have HS := Lib.hid hS
  have HC := Lib.hid hC
  clear h hr hS hC hin hq
  go_enter Try.func8, Try.ntmps8
  go_wp2_with fail
  generalize hW0 : w.alloc _ = W0
  have hbox : Box W0 w.heap.size [.int .i64 1, .string (strL n), .string (strL x)] := by rw [← hW0]; exact Box.new w _ _
  have hx0 : Ext w W0 := by rw [← hW0]; exact (Ext.refl w).alloc _
  clear hW0
  have hE := Ext.refl W0
  obtain ⟨c0, c1, c2⟩ := hbox.three hE
  go_wp2_with (first
    | (go_at_call 20; refine (may_g _ 1 n x _ HH.out).mono ?_; rintro e w1 ⟨rfl, hw1⟩; have hx1 : Ext _ w1 := hw1 ▸ (Ext.refl _).alloc _; clear hw1; replace hE := hE.trans hx1; clear c0 c1 c2; obtain ⟨c0, c1, c2⟩ := hbox.three hE)
    | ((with_reducible show Calls _ _ #[_, .string (strL x)] _ _); go_at_call 21; refine (text_b _ _ ([]) x (Rd.nil _) (by omega) (by omega)).mono ?_; rintro e w3 ⟨v3, rfl, ho3', hx3⟩; rw [← HS.out] at ho3'; have ho3 := ho3'.more (base' := W0.heap.size) hE.size; clear ho3'; replace hE := hE.trans hx3; clear c0 c1 c2; obtain ⟨c0, c1, c2⟩ := hbox.three hE)
    | fail)
  clear c0 c1 c2
  have hb3 := hbox.ext hE
  have HX03 := Lib.hid (hx0.trans hE)
  clear hE hbox hx0 hx1 hx3
  have hE := Ext.refl w3
  go_region_held3 (fun W' => W'.cell? ⟨w.heap.size, 0, none⟩ = some (.int .i64 1) ∧ Ext w3 W') ((refine Box.hold1 hb3 (j := 0) (by rfl) ?_; first | exact hE.drew | exact (hE.alloc _).drew | exact hE | exact hE.alloc _))
    (first
      | (go_at_call 22; go_must (first | (refine (cloneS_c _ _ _ (HR.out.ext (HX03.out.trans hE.drew)) (by omega)).mono ?_; rintro e w8 ⟨v8, rfl, ho8', hx8⟩; have ho8 := ho8'.more (base' := w3.heap.size) hE.size; clear ho8'; replace hE := hE.drew.trans hx8) | (refine (cloneS_c _ _ _ (HR.out.ext (HX03.out.trans (hE.alloc _).drew)) (by omega)).mono ?_; rintro e w8 ⟨v8, rfl, ho8', hx8⟩; have ho8 := ho8'.more (base' := w3.heap.size) (hE.alloc _).drew.size; clear ho8'; replace hE := (hE.alloc _).drew.trans hx8) | fail))
      | ((with_reducible show (if Region.wanted (⟨some 34, _, _, _, _, _⟩ : Oper) _ = true then _ else _)); go_must (first | (refine step_append_rd bt (ho8.ext ((Ext.refl _).alloc _)) (rd_lit w8 _ [1] (by rfl) (by simp) 1 _ (by rfl) (by rfl)) (by rfl) _ _ (by rfl) (by rfl) (by rfl) (by simp; omega) (hE.alloc _).size ?_; intro v9 w9 ho9 hb9; replace hE := (hE.alloc _).below hb9 (Nat.le_refl _)) | (refine step_append_rd bt ho8 (((rd_lit w3 _ [1] (by rfl) (by simp) 1 _ (by rfl) (by rfl)).ext (Ext.refl _).drew).ext hx8) (by rfl) _ _ (by rfl) (by rfl) (by rfl) (by simp; omega) hE.size ?_; intro v9 w9 ho9 hb9; replace hE := hE.below hb9 (Nat.le_refl _)) | fail))
      | fail)
  all_goals
    have ho3z := ho3.ext hE
    have HA := Lib.hid (HX03.out.trans hE)
    have h39 := Nat.le_trans (Ext.size HX03.out) (Ext.size hE)
    clear ho3 ho8 hx8 hb9 hE hb3
    go_wp2_with (first
      | ((with_reducible show wpList _ _ _ (⟨some 37, _, _, _, _, _⟩ :: _) _ _); refine wpl_str bt ho3z.rd rfl _ rfl rfl ?_)
      | (go_at_call 21; refine (text_b _ _ _ S ho9.rd (by omega) (by simp; omega)).mono ?_; rintro e w10 ⟨v10, rfl, ho10, hx10⟩)
      | fail)
    go_ret2
    refine ⟨_, rfl, ?_, HA.out.trans hx10⟩
    rw [HC.out, ← List.append_assoc]
    exact ho10.more h39

set_option maxRecDepth 100000 in
set_option maxHeartbeats 2000000 in
theorem append_good_r1 (w : World) (v : Value) (l n x : List UInt8) (h : mayP (1, n, x) = true) (hr : Rd w v l) (hn : n.length ≤ 10000) (hx : x.length ≤ 10000) (hl : l.length ≤ 5000000) :
    Calls Try.prog 15 #[v, .agg #[.int .i64 1, .string (strL n), .string (strL x)]] w (RetBE w (l ++ chgB (1, n, x)) 0) := by
  have hi := inB_le (1, n, x)
  dsimp only at hi
  have hq := preB_le (1, n, x)
  dsimp only at hq
  have hS : inB (1, n, x) = [] ++ textB x := rfl
  have hC : chgB (1, n, x) = [1] ++ textB (inB (1, n, x)) := rfl
  have hP : ([]).length ≤ n.length + 9 := hq
  generalize hin : inB (1, n, x) = S at hi hS hC
  have HH := Lib.hid h
  have HR := Lib.hid hr
  have HS := Lib.hid hS
  have HC := Lib.hid hC
  clear h hr hS hC hin hq
  go_enter Try.func15, Try.ntmps15
  go_wp2_with fail
  generalize hW0 : w.alloc _ = W0
  have hbox : Box W0 w.heap.size [.int .i64 1, .string (strL n), .string (strL x)] := by rw [← hW0]; exact Box.new w _ _
  have hx0 : Ext w W0 := by rw [← hW0]; exact (Ext.refl w).alloc _
  clear hW0
  have hE := Ext.refl W0
  obtain ⟨c0, c1, c2⟩ := hbox.three hE
  go_wp2_with (first
    | (go_at_call 29; refine (may_r _ 1 n x _ HH.out).mono ?_; rintro e w1 ⟨rfl, hw1⟩; have hx1 : Ext _ w1 := hw1 ▸ (Ext.refl _).alloc _; clear hw1; replace hE := hE.trans hx1; clear c0 c1 c2; obtain ⟨c0, c1, c2⟩ := hbox.three hE)
    | ((with_reducible show Calls _ _ #[_, .string (strL x)] _ _); go_at_call 30; refine (text_r _ _ ([]) x (Rd.nil _) (by omega) (by omega)).mono ?_; rintro e w3 ⟨v3, rfl, ho3', hx3⟩; rw [← HS.out] at ho3'; have ho3 := ho3'.more (base' := W0.heap.size) hE.size; clear ho3'; replace hE := hE.trans hx3; clear c0 c1 c2; obtain ⟨c0, c1, c2⟩ := hbox.three hE)
    | ((with_reducible show wpList _ _ _ (⟨some 27, _, _, _, _, _⟩ :: _) _ _); refine wpl_append_rd bt (Own.nil _ _) (HR.out.ext (hx0.trans hE)) rfl _ _ rfl rfl rfl (by simp; omega) (Nat.le_refl _) ?_; intro v7 w7 ho7 hb7; rw [List.nil_append] at ho7; have h37 := (Ext.refl w3).below hb7 (Nat.le_refl _); clear c0 c1 c2; obtain ⟨c0, c1, c2⟩ := hbox.three (hE.trans h37))
    | ((with_reducible show wpList _ _ _ (⟨some 33, _, _, _, _, _⟩ :: _) _ _); refine wpl_append_one bt 1 ho7 (by omega) (by omega) rfl _ _ rfl rfl rfl (by omega) (Below.size hb7) ?_; intro v9 w9 ho9 hb9; have h39 := h37.below hb9 (Nat.le_refl _); have ho3y := ho3.ext h39)
    | ((with_reducible show wpList _ _ _ (⟨some 36, _, _, _, _, _⟩ :: _) _ _); refine wpl_str bt ho3y.rd rfl _ rfl rfl ?_)
    | ((with_reducible show Calls _ _ #[_, .string (strL S)] _ _); go_at_call 30; refine (text_r _ _ _ S ho9.rd (by omega) (by simp; omega)).mono ?_; rintro e w10 ⟨v10, rfl, ho10, hx10⟩)
    | fail)
  go_ret2
  refine ⟨_, rfl, ?_, ?_⟩
  · rw [HC.out, ← List.append_assoc]
    exact ho10.more (by have := Ext.size hx0; have := Ext.size hE; have := Ext.size h39; omega)
  · exact (hx0.trans hE).trans (h39.trans hx10)

set_option maxRecDepth 100000 in
set_option maxHeartbeats 2000000 in
theorem append_good2 (w : World) (v : Value) (l n x : List UInt8) (h : mayP (2, n, x) = true) (hr : Rd w v l) (hn : n.length ≤ 10000) (hx : x.length ≤ 10000) (hl : l.length ≤ 5000000) :
    Calls Try.prog 8 #[v, .agg #[.int .i64 2, .string (strL n), .string (strL x)]] w (RetBE w (l ++ chgB (2, n, x)) 0) := by
  have hi := inB_le (2, n, x)
  dsimp only at hi
  have hq := preB_le (2, n, x)
  dsimp only at hq
  have hS : inB (2, n, x) = [] ++ textB x := rfl
  have hC : chgB (2, n, x) = [2] ++ textB (inB (2, n, x)) := rfl
  have hP : ([]).length ≤ n.length + 9 := hq
  generalize hin : inB (2, n, x) = S at hi hS hC
  have HH := Lib.hid h
  have HR := Lib.hid hr
  have HS := Lib.hid hS
  have HC := Lib.hid hC
  clear h hr hS hC hin hq
  go_enter Try.func8, Try.ntmps8
  go_wp2_with fail
  generalize hW0 : w.alloc _ = W0
  have hbox : Box W0 w.heap.size [.int .i64 2, .string (strL n), .string (strL x)] := by rw [← hW0]; exact Box.new w _ _
  have hx0 : Ext w W0 := by rw [← hW0]; exact (Ext.refl w).alloc _
  clear hW0
  have hE := Ext.refl W0
  obtain ⟨c0, c1, c2⟩ := hbox.three hE
  go_wp2_with (first
    | (go_at_call 20; refine (may_g _ 2 n x _ HH.out).mono ?_; rintro e w1 ⟨rfl, hw1⟩; have hx1 : Ext _ w1 := hw1 ▸ (Ext.refl _).alloc _; clear hw1; replace hE := hE.trans hx1; clear c0 c1 c2; obtain ⟨c0, c1, c2⟩ := hbox.three hE)
    | ((with_reducible show Calls _ _ #[_, .string (strL x)] _ _); go_at_call 21; refine (text_b _ _ ([]) x (Rd.nil _) (by omega) (by omega)).mono ?_; rintro e w3 ⟨v3, rfl, ho3', hx3⟩; rw [← HS.out] at ho3'; have ho3 := ho3'.more (base' := W0.heap.size) hE.size; clear ho3'; replace hE := hE.trans hx3; clear c0 c1 c2; obtain ⟨c0, c1, c2⟩ := hbox.three hE)
    | fail)
  clear c0 c1 c2
  have hb3 := hbox.ext hE
  have HX03 := Lib.hid (hx0.trans hE)
  clear hE hbox hx0 hx1 hx3
  have hE := Ext.refl w3
  go_region_held3 (fun W' => W'.cell? ⟨w.heap.size, 0, none⟩ = some (.int .i64 2) ∧ Ext w3 W') ((refine Box.hold1 hb3 (j := 0) (by rfl) ?_; first | exact hE.drew | exact (hE.alloc _).drew | exact hE | exact hE.alloc _))
    (first
      | (go_at_call 22; go_must (first | (refine (cloneS_c _ _ _ (HR.out.ext (HX03.out.trans hE.drew)) (by omega)).mono ?_; rintro e w8 ⟨v8, rfl, ho8', hx8⟩; have ho8 := ho8'.more (base' := w3.heap.size) hE.size; clear ho8'; replace hE := hE.drew.trans hx8) | (refine (cloneS_c _ _ _ (HR.out.ext (HX03.out.trans (hE.alloc _).drew)) (by omega)).mono ?_; rintro e w8 ⟨v8, rfl, ho8', hx8⟩; have ho8 := ho8'.more (base' := w3.heap.size) (hE.alloc _).drew.size; clear ho8'; replace hE := (hE.alloc _).drew.trans hx8) | fail))
      | ((with_reducible show (if Region.wanted (⟨some 34, _, _, _, _, _⟩ : Oper) _ = true then _ else _)); go_must (first | (refine step_append_rd bt (ho8.ext ((Ext.refl _).alloc _)) (rd_lit w8 _ [2] (by rfl) (by simp) 1 _ (by rfl) (by rfl)) (by rfl) _ _ (by rfl) (by rfl) (by rfl) (by simp; omega) (hE.alloc _).size ?_; intro v9 w9 ho9 hb9; replace hE := (hE.alloc _).below hb9 (Nat.le_refl _)) | (refine step_append_rd bt ho8 (((rd_lit w3 _ [2] (by rfl) (by simp) 1 _ (by rfl) (by rfl)).ext (Ext.refl _).drew).ext hx8) (by rfl) _ _ (by rfl) (by rfl) (by rfl) (by simp; omega) hE.size ?_; intro v9 w9 ho9 hb9; replace hE := hE.below hb9 (Nat.le_refl _)) | fail))
      | fail)
  all_goals
    have ho3z := ho3.ext hE
    have HA := Lib.hid (HX03.out.trans hE)
    have h39 := Nat.le_trans (Ext.size HX03.out) (Ext.size hE)
    clear ho3 ho8 hx8 hb9 hE hb3
    go_wp2_with (first
      | ((with_reducible show wpList _ _ _ (⟨some 37, _, _, _, _, _⟩ :: _) _ _); refine wpl_str bt ho3z.rd rfl _ rfl rfl ?_)
      | (go_at_call 21; refine (text_b _ _ _ S ho9.rd (by omega) (by simp; omega)).mono ?_; rintro e w10 ⟨v10, rfl, ho10, hx10⟩)
      | fail)
    go_ret2
    refine ⟨_, rfl, ?_, HA.out.trans hx10⟩
    rw [HC.out, ← List.append_assoc]
    exact ho10.more h39

set_option maxRecDepth 100000 in
set_option maxHeartbeats 2000000 in
theorem append_good_r2 (w : World) (v : Value) (l n x : List UInt8) (h : mayP (2, n, x) = true) (hr : Rd w v l) (hn : n.length ≤ 10000) (hx : x.length ≤ 10000) (hl : l.length ≤ 5000000) :
    Calls Try.prog 15 #[v, .agg #[.int .i64 2, .string (strL n), .string (strL x)]] w (RetBE w (l ++ chgB (2, n, x)) 0) := by
  have hi := inB_le (2, n, x)
  dsimp only at hi
  have hq := preB_le (2, n, x)
  dsimp only at hq
  have hS : inB (2, n, x) = [] ++ textB x := rfl
  have hC : chgB (2, n, x) = [2] ++ textB (inB (2, n, x)) := rfl
  have hP : ([]).length ≤ n.length + 9 := hq
  generalize hin : inB (2, n, x) = S at hi hS hC
  have HH := Lib.hid h
  have HR := Lib.hid hr
  have HS := Lib.hid hS
  have HC := Lib.hid hC
  clear h hr hS hC hin hq
  go_enter Try.func15, Try.ntmps15
  go_wp2_with fail
  generalize hW0 : w.alloc _ = W0
  have hbox : Box W0 w.heap.size [.int .i64 2, .string (strL n), .string (strL x)] := by rw [← hW0]; exact Box.new w _ _
  have hx0 : Ext w W0 := by rw [← hW0]; exact (Ext.refl w).alloc _
  clear hW0
  have hE := Ext.refl W0
  obtain ⟨c0, c1, c2⟩ := hbox.three hE
  go_wp2_with (first
    | (go_at_call 29; refine (may_r _ 2 n x _ HH.out).mono ?_; rintro e w1 ⟨rfl, hw1⟩; have hx1 : Ext _ w1 := hw1 ▸ (Ext.refl _).alloc _; clear hw1; replace hE := hE.trans hx1; clear c0 c1 c2; obtain ⟨c0, c1, c2⟩ := hbox.three hE)
    | ((with_reducible show Calls _ _ #[_, .string (strL x)] _ _); go_at_call 30; refine (text_r _ _ ([]) x (Rd.nil _) (by omega) (by omega)).mono ?_; rintro e w3 ⟨v3, rfl, ho3', hx3⟩; rw [← HS.out] at ho3'; have ho3 := ho3'.more (base' := W0.heap.size) hE.size; clear ho3'; replace hE := hE.trans hx3; clear c0 c1 c2; obtain ⟨c0, c1, c2⟩ := hbox.three hE)
    | ((with_reducible show wpList _ _ _ (⟨some 27, _, _, _, _, _⟩ :: _) _ _); refine wpl_append_rd bt (Own.nil _ _) (HR.out.ext (hx0.trans hE)) rfl _ _ rfl rfl rfl (by simp; omega) (Nat.le_refl _) ?_; intro v7 w7 ho7 hb7; rw [List.nil_append] at ho7; have h37 := (Ext.refl w3).below hb7 (Nat.le_refl _); clear c0 c1 c2; obtain ⟨c0, c1, c2⟩ := hbox.three (hE.trans h37))
    | ((with_reducible show wpList _ _ _ (⟨some 33, _, _, _, _, _⟩ :: _) _ _); refine wpl_append_one bt 2 ho7 (by omega) (by omega) rfl _ _ rfl rfl rfl (by omega) (Below.size hb7) ?_; intro v9 w9 ho9 hb9; have h39 := h37.below hb9 (Nat.le_refl _); have ho3y := ho3.ext h39)
    | ((with_reducible show wpList _ _ _ (⟨some 36, _, _, _, _, _⟩ :: _) _ _); refine wpl_str bt ho3y.rd rfl _ rfl rfl ?_)
    | ((with_reducible show Calls _ _ #[_, .string (strL S)] _ _); go_at_call 30; refine (text_r _ _ _ S ho9.rd (by omega) (by simp; omega)).mono ?_; rintro e w10 ⟨v10, rfl, ho10, hx10⟩)
    | fail)
  go_ret2
  refine ⟨_, rfl, ?_, ?_⟩
  · rw [HC.out, ← List.append_assoc]
    exact ho10.more (by have := Ext.size hx0; have := Ext.size hE; have := Ext.size h39; omega)
  · exact (hx0.trans hE).trans (h39.trans hx10)

set_option maxRecDepth 100000 in
set_option maxHeartbeats 2000000 in
theorem append_good3 (w : World) (v : Value) (l n x : List UInt8) (h : mayP (3, n, x) = true) (hr : Rd w v l) (hn : n.length ≤ 10000) (hx : x.length ≤ 10000) (hl : l.length ≤ 5000000) :
    Calls Try.prog 8 #[v, .agg #[.int .i64 3, .string (strL n), .string (strL x)]] w (RetBE w (l ++ chgB (3, n, x)) 0) := by
  have hi := inB_le (3, n, x)
  dsimp only at hi
  have hq := preB_le (3, n, x)
  dsimp only at hq
  have hS : inB (3, n, x) = [0] ++ textB x := rfl
  have hC : chgB (3, n, x) = [3] ++ textB (inB (3, n, x)) := rfl
  have hP : ([0]).length ≤ n.length + 9 := hq
  generalize hin : inB (3, n, x) = S at hi hS hC
  have HH := Lib.hid h
  have HR := Lib.hid hr
  have HS := Lib.hid hS
  have HC := Lib.hid hC
  clear h hr hS hC hin hq
  go_enter Try.func8, Try.ntmps8
  go_wp2_with fail
  generalize hW0 : w.alloc _ = W0
  have hbox : Box W0 w.heap.size [.int .i64 3, .string (strL n), .string (strL x)] := by rw [← hW0]; exact Box.new w _ _
  have hx0 : Ext w W0 := by rw [← hW0]; exact (Ext.refl w).alloc _
  clear hW0
  have hE := Ext.refl W0
  obtain ⟨c0, c1, c2⟩ := hbox.three hE
  go_wp2_with (first
    | (go_at_call 20; refine (may_g _ 3 n x _ HH.out).mono ?_; rintro e w1 ⟨rfl, hw1⟩; have hx1 : Ext _ w1 := hw1 ▸ (Ext.refl _).alloc _; clear hw1; replace hE := hE.trans hx1; clear c0 c1 c2; obtain ⟨c0, c1, c2⟩ := hbox.three hE)
    | ((with_reducible show wpList _ _ _ (⟨some 23, _, _, _, _, _⟩ :: _) _ _); refine wpl_append_one bt 0 (Own.nil _ _) (by omega) (by omega) rfl _ _ rfl rfl rfl (by simp) (Nat.le_refl _) ?_; intro v2 w2 ho2' hb2; rw [List.nil_append] at ho2'; have ho2 : Own w2 W0.heap.size v2 [0] := ho2'.more (base' := W0.heap.size) hE.size; clear ho2'; replace hE := hE.below hb2 hE.size; clear c0 c1 c2; obtain ⟨c0, c1, c2⟩ := hbox.three hE)
    | ((with_reducible show Calls _ _ #[_, .string (strL x)] _ _); go_at_call 21; refine (text_b _ _ ([0]) x ho2.rd (by omega) (by omega)).mono ?_; rintro e w3 ⟨v3, rfl, ho3', hx3⟩; rw [← HS.out] at ho3'; have ho3 := ho3'.more (base' := W0.heap.size) hE.size; clear ho3'; replace hE := hE.trans hx3; clear c0 c1 c2; obtain ⟨c0, c1, c2⟩ := hbox.three hE)
    | fail)
  clear c0 c1 c2
  have hb3 := hbox.ext hE
  have HX03 := Lib.hid (hx0.trans hE)
  clear hE hbox hx0 hx1 hx3
  have hE := Ext.refl w3
  go_region_held3 (fun W' => W'.cell? ⟨w.heap.size, 0, none⟩ = some (.int .i64 3) ∧ Ext w3 W') ((refine Box.hold1 hb3 (j := 0) (by rfl) ?_; first | exact hE.drew | exact (hE.alloc _).drew | exact hE | exact hE.alloc _))
    (first
      | (go_at_call 22; go_must (first | (refine (cloneS_c _ _ _ (HR.out.ext (HX03.out.trans hE.drew)) (by omega)).mono ?_; rintro e w8 ⟨v8, rfl, ho8', hx8⟩; have ho8 := ho8'.more (base' := w3.heap.size) hE.size; clear ho8'; replace hE := hE.drew.trans hx8) | (refine (cloneS_c _ _ _ (HR.out.ext (HX03.out.trans (hE.alloc _).drew)) (by omega)).mono ?_; rintro e w8 ⟨v8, rfl, ho8', hx8⟩; have ho8 := ho8'.more (base' := w3.heap.size) (hE.alloc _).drew.size; clear ho8'; replace hE := (hE.alloc _).drew.trans hx8) | fail))
      | ((with_reducible show (if Region.wanted (⟨some 34, _, _, _, _, _⟩ : Oper) _ = true then _ else _)); go_must (first | (refine step_append_rd bt (ho8.ext ((Ext.refl _).alloc _)) (rd_lit w8 _ [3] (by rfl) (by simp) 1 _ (by rfl) (by rfl)) (by rfl) _ _ (by rfl) (by rfl) (by rfl) (by simp; omega) (hE.alloc _).size ?_; intro v9 w9 ho9 hb9; replace hE := (hE.alloc _).below hb9 (Nat.le_refl _)) | (refine step_append_rd bt ho8 (((rd_lit w3 _ [3] (by rfl) (by simp) 1 _ (by rfl) (by rfl)).ext (Ext.refl _).drew).ext hx8) (by rfl) _ _ (by rfl) (by rfl) (by rfl) (by simp; omega) hE.size ?_; intro v9 w9 ho9 hb9; replace hE := hE.below hb9 (Nat.le_refl _)) | fail))
      | fail)
  all_goals
    have ho3z := ho3.ext hE
    have HA := Lib.hid (HX03.out.trans hE)
    have h39 := Nat.le_trans (Ext.size HX03.out) (Ext.size hE)
    clear ho3 ho8 hx8 hb9 hE hb3
    go_wp2_with (first
      | ((with_reducible show wpList _ _ _ (⟨some 37, _, _, _, _, _⟩ :: _) _ _); refine wpl_str bt ho3z.rd rfl _ rfl rfl ?_)
      | (go_at_call 21; refine (text_b _ _ _ S ho9.rd (by omega) (by simp; omega)).mono ?_; rintro e w10 ⟨v10, rfl, ho10, hx10⟩)
      | fail)
    go_ret2
    refine ⟨_, rfl, ?_, HA.out.trans hx10⟩
    rw [HC.out, ← List.append_assoc]
    exact ho10.more h39

set_option maxRecDepth 100000 in
set_option maxHeartbeats 2000000 in
theorem append_good_r3 (w : World) (v : Value) (l n x : List UInt8) (h : mayP (3, n, x) = true) (hr : Rd w v l) (hn : n.length ≤ 10000) (hx : x.length ≤ 10000) (hl : l.length ≤ 5000000) :
    Calls Try.prog 15 #[v, .agg #[.int .i64 3, .string (strL n), .string (strL x)]] w (RetBE w (l ++ chgB (3, n, x)) 0) := by
  have hi := inB_le (3, n, x)
  dsimp only at hi
  have hq := preB_le (3, n, x)
  dsimp only at hq
  have hS : inB (3, n, x) = [0] ++ textB x := rfl
  have hC : chgB (3, n, x) = [3] ++ textB (inB (3, n, x)) := rfl
  have hP : ([0]).length ≤ n.length + 9 := hq
  generalize hin : inB (3, n, x) = S at hi hS hC
  have HH := Lib.hid h
  have HR := Lib.hid hr
  have HS := Lib.hid hS
  have HC := Lib.hid hC
  clear h hr hS hC hin hq
  go_enter Try.func15, Try.ntmps15
  go_wp2_with fail
  generalize hW0 : w.alloc _ = W0
  have hbox : Box W0 w.heap.size [.int .i64 3, .string (strL n), .string (strL x)] := by rw [← hW0]; exact Box.new w _ _
  have hx0 : Ext w W0 := by rw [← hW0]; exact (Ext.refl w).alloc _
  clear hW0
  have hE := Ext.refl W0
  obtain ⟨c0, c1, c2⟩ := hbox.three hE
  go_wp2_with (first
    | (go_at_call 29; refine (may_r _ 3 n x _ HH.out).mono ?_; rintro e w1 ⟨rfl, hw1⟩; have hx1 : Ext _ w1 := hw1 ▸ (Ext.refl _).alloc _; clear hw1; replace hE := hE.trans hx1; clear c0 c1 c2; obtain ⟨c0, c1, c2⟩ := hbox.three hE; have d2 : ∀ o, (w1.alloc o).cell? ⟨w.heap.size, 2, none⟩ = some (.string (strL x)) := fun o => hbox.one (j := 2) rfl (hE.alloc o))
    | ((with_reducible show Calls _ _ #[_, .string (strL x)] _ _); go_at_call 30; refine (text_r _ _ ([0]) x (rd_lit _ _ [0] (by rfl) (by simp) 1 _ (by rfl) (by rfl)) (by omega) (by omega)).mono ?_; rintro e w3 ⟨v3, rfl, ho3', hx3⟩; rw [← HS.out] at ho3'; have ho3 := ho3'.more (base' := W0.heap.size) (hE.alloc _).size; clear ho3'; replace hE := (hE.alloc _).trans hx3; clear c0 c1 c2; obtain ⟨c0, c1, c2⟩ := hbox.three hE)
    | ((with_reducible show wpList _ _ _ (⟨some 27, _, _, _, _, _⟩ :: _) _ _); refine wpl_append_rd bt (Own.nil _ _) (HR.out.ext (hx0.trans hE)) rfl _ _ rfl rfl rfl (by simp; omega) (Nat.le_refl _) ?_; intro v7 w7 ho7 hb7; rw [List.nil_append] at ho7; have h37 := (Ext.refl w3).below hb7 (Nat.le_refl _); clear c0 c1 c2; obtain ⟨c0, c1, c2⟩ := hbox.three (hE.trans h37))
    | ((with_reducible show wpList _ _ _ (⟨some 33, _, _, _, _, _⟩ :: _) _ _); refine wpl_append_one bt 3 ho7 (by omega) (by omega) rfl _ _ rfl rfl rfl (by omega) (Below.size hb7) ?_; intro v9 w9 ho9 hb9; have h39 := h37.below hb9 (Nat.le_refl _); have ho3y := ho3.ext h39)
    | ((with_reducible show wpList _ _ _ (⟨some 36, _, _, _, _, _⟩ :: _) _ _); refine wpl_str bt ho3y.rd rfl _ rfl rfl ?_)
    | ((with_reducible show Calls _ _ #[_, .string (strL S)] _ _); go_at_call 30; refine (text_r _ _ _ S ho9.rd (by omega) (by simp; omega)).mono ?_; rintro e w10 ⟨v10, rfl, ho10, hx10⟩)
    | fail)
  go_ret2
  refine ⟨_, rfl, ?_, ?_⟩
  · rw [HC.out, ← List.append_assoc]
    exact ho10.more (by have := Ext.size hx0; have := Ext.size hE; have := Ext.size h39; omega)
  · exact (hx0.trans hE).trans (h39.trans hx10)

set_option maxRecDepth 100000 in
set_option maxHeartbeats 2000000 in
theorem append_good4 (w : World) (v : Value) (l n x : List UInt8) (h : mayP (4, n, x) = true) (hr : Rd w v l) (hn : n.length ≤ 10000) (hx : x.length ≤ 10000) (hl : l.length ≤ 5000000) :
    Calls Try.prog 8 #[v, .agg #[.int .i64 4, .string (strL n), .string (strL x)]] w (RetBE w (l ++ chgB (4, n, x)) 0) := by
  have hi := inB_le (4, n, x)
  dsimp only at hi
  have hq := preB_le (4, n, x)
  dsimp only at hq
  have hS : inB (4, n, x) = [] ++ textB x := rfl
  have hC : chgB (4, n, x) = [4] ++ textB (inB (4, n, x)) := rfl
  have hP : ([]).length ≤ n.length + 9 := hq
  generalize hin : inB (4, n, x) = S at hi hS hC
  have HH := Lib.hid h
  have HR := Lib.hid hr
  have HS := Lib.hid hS
  have HC := Lib.hid hC
  clear h hr hS hC hin hq
  go_enter Try.func8, Try.ntmps8
  go_wp2_with fail
  generalize hW0 : w.alloc _ = W0
  have hbox : Box W0 w.heap.size [.int .i64 4, .string (strL n), .string (strL x)] := by rw [← hW0]; exact Box.new w _ _
  have hx0 : Ext w W0 := by rw [← hW0]; exact (Ext.refl w).alloc _
  clear hW0
  have hE := Ext.refl W0
  obtain ⟨c0, c1, c2⟩ := hbox.three hE
  go_wp2_with (first
    | (go_at_call 20; refine (may_g _ 4 n x _ HH.out).mono ?_; rintro e w1 ⟨rfl, hw1⟩; have hx1 : Ext _ w1 := hw1 ▸ (Ext.refl _).alloc _; clear hw1; replace hE := hE.trans hx1; clear c0 c1 c2; obtain ⟨c0, c1, c2⟩ := hbox.three hE)
    | ((with_reducible show Calls _ _ #[_, .string (strL x)] _ _); go_at_call 21; refine (text_b _ _ ([]) x (Rd.nil _) (by omega) (by omega)).mono ?_; rintro e w3 ⟨v3, rfl, ho3', hx3⟩; rw [← HS.out] at ho3'; have ho3 := ho3'.more (base' := W0.heap.size) hE.size; clear ho3'; replace hE := hE.trans hx3; clear c0 c1 c2; obtain ⟨c0, c1, c2⟩ := hbox.three hE)
    | fail)
  clear c0 c1 c2
  have hb3 := hbox.ext hE
  have HX03 := Lib.hid (hx0.trans hE)
  clear hE hbox hx0 hx1 hx3
  have hE := Ext.refl w3
  go_region_held3 (fun W' => W'.cell? ⟨w.heap.size, 0, none⟩ = some (.int .i64 4) ∧ Ext w3 W') ((refine Box.hold1 hb3 (j := 0) (by rfl) ?_; first | exact hE.drew | exact (hE.alloc _).drew | exact hE | exact hE.alloc _))
    (first
      | (go_at_call 22; go_must (first | (refine (cloneS_c _ _ _ (HR.out.ext (HX03.out.trans hE.drew)) (by omega)).mono ?_; rintro e w8 ⟨v8, rfl, ho8', hx8⟩; have ho8 := ho8'.more (base' := w3.heap.size) hE.size; clear ho8'; replace hE := hE.drew.trans hx8) | (refine (cloneS_c _ _ _ (HR.out.ext (HX03.out.trans (hE.alloc _).drew)) (by omega)).mono ?_; rintro e w8 ⟨v8, rfl, ho8', hx8⟩; have ho8 := ho8'.more (base' := w3.heap.size) (hE.alloc _).drew.size; clear ho8'; replace hE := (hE.alloc _).drew.trans hx8) | fail))
      | ((with_reducible show (if Region.wanted (⟨some 34, _, _, _, _, _⟩ : Oper) _ = true then _ else _)); go_must (first | (refine step_append_rd bt (ho8.ext ((Ext.refl _).alloc _)) (rd_lit w8 _ [4] (by rfl) (by simp) 1 _ (by rfl) (by rfl)) (by rfl) _ _ (by rfl) (by rfl) (by rfl) (by simp; omega) (hE.alloc _).size ?_; intro v9 w9 ho9 hb9; replace hE := (hE.alloc _).below hb9 (Nat.le_refl _)) | (refine step_append_rd bt ho8 (((rd_lit w3 _ [4] (by rfl) (by simp) 1 _ (by rfl) (by rfl)).ext (Ext.refl _).drew).ext hx8) (by rfl) _ _ (by rfl) (by rfl) (by rfl) (by simp; omega) hE.size ?_; intro v9 w9 ho9 hb9; replace hE := hE.below hb9 (Nat.le_refl _)) | fail))
      | fail)
  all_goals
    have ho3z := ho3.ext hE
    have HA := Lib.hid (HX03.out.trans hE)
    have h39 := Nat.le_trans (Ext.size HX03.out) (Ext.size hE)
    clear ho3 ho8 hx8 hb9 hE hb3
    go_wp2_with (first
      | ((with_reducible show wpList _ _ _ (⟨some 37, _, _, _, _, _⟩ :: _) _ _); refine wpl_str bt ho3z.rd rfl _ rfl rfl ?_)
      | (go_at_call 21; refine (text_b _ _ _ S ho9.rd (by omega) (by simp; omega)).mono ?_; rintro e w10 ⟨v10, rfl, ho10, hx10⟩)
      | fail)
    go_ret2
    refine ⟨_, rfl, ?_, HA.out.trans hx10⟩
    rw [HC.out, ← List.append_assoc]
    exact ho10.more h39

set_option maxRecDepth 100000 in
set_option maxHeartbeats 2000000 in
theorem append_good_r4 (w : World) (v : Value) (l n x : List UInt8) (h : mayP (4, n, x) = true) (hr : Rd w v l) (hn : n.length ≤ 10000) (hx : x.length ≤ 10000) (hl : l.length ≤ 5000000) :
    Calls Try.prog 15 #[v, .agg #[.int .i64 4, .string (strL n), .string (strL x)]] w (RetBE w (l ++ chgB (4, n, x)) 0) := by
  have hi := inB_le (4, n, x)
  dsimp only at hi
  have hq := preB_le (4, n, x)
  dsimp only at hq
  have hS : inB (4, n, x) = [] ++ textB x := rfl
  have hC : chgB (4, n, x) = [4] ++ textB (inB (4, n, x)) := rfl
  have hP : ([]).length ≤ n.length + 9 := hq
  generalize hin : inB (4, n, x) = S at hi hS hC
  have HH := Lib.hid h
  have HR := Lib.hid hr
  have HS := Lib.hid hS
  have HC := Lib.hid hC
  clear h hr hS hC hin hq
  go_enter Try.func15, Try.ntmps15
  go_wp2_with fail
  generalize hW0 : w.alloc _ = W0
  have hbox : Box W0 w.heap.size [.int .i64 4, .string (strL n), .string (strL x)] := by rw [← hW0]; exact Box.new w _ _
  have hx0 : Ext w W0 := by rw [← hW0]; exact (Ext.refl w).alloc _
  clear hW0
  have hE := Ext.refl W0
  obtain ⟨c0, c1, c2⟩ := hbox.three hE
  go_wp2_with (first
    | (go_at_call 29; refine (may_r _ 4 n x _ HH.out).mono ?_; rintro e w1 ⟨rfl, hw1⟩; have hx1 : Ext _ w1 := hw1 ▸ (Ext.refl _).alloc _; clear hw1; replace hE := hE.trans hx1; clear c0 c1 c2; obtain ⟨c0, c1, c2⟩ := hbox.three hE)
    | ((with_reducible show Calls _ _ #[_, .string (strL x)] _ _); go_at_call 30; refine (text_r _ _ ([]) x (Rd.nil _) (by omega) (by omega)).mono ?_; rintro e w3 ⟨v3, rfl, ho3', hx3⟩; rw [← HS.out] at ho3'; have ho3 := ho3'.more (base' := W0.heap.size) hE.size; clear ho3'; replace hE := hE.trans hx3; clear c0 c1 c2; obtain ⟨c0, c1, c2⟩ := hbox.three hE)
    | ((with_reducible show wpList _ _ _ (⟨some 27, _, _, _, _, _⟩ :: _) _ _); refine wpl_append_rd bt (Own.nil _ _) (HR.out.ext (hx0.trans hE)) rfl _ _ rfl rfl rfl (by simp; omega) (Nat.le_refl _) ?_; intro v7 w7 ho7 hb7; rw [List.nil_append] at ho7; have h37 := (Ext.refl w3).below hb7 (Nat.le_refl _); clear c0 c1 c2; obtain ⟨c0, c1, c2⟩ := hbox.three (hE.trans h37))
    | ((with_reducible show wpList _ _ _ (⟨some 33, _, _, _, _, _⟩ :: _) _ _); refine wpl_append_one bt 4 ho7 (by omega) (by omega) rfl _ _ rfl rfl rfl (by omega) (Below.size hb7) ?_; intro v9 w9 ho9 hb9; have h39 := h37.below hb9 (Nat.le_refl _); have ho3y := ho3.ext h39)
    | ((with_reducible show wpList _ _ _ (⟨some 36, _, _, _, _, _⟩ :: _) _ _); refine wpl_str bt ho3y.rd rfl _ rfl rfl ?_)
    | ((with_reducible show Calls _ _ #[_, .string (strL S)] _ _); go_at_call 30; refine (text_r _ _ _ S ho9.rd (by omega) (by simp; omega)).mono ?_; rintro e w10 ⟨v10, rfl, ho10, hx10⟩)
    | fail)
  go_ret2
  refine ⟨_, rfl, ?_, ?_⟩
  · rw [HC.out, ← List.append_assoc]
    exact ho10.more (by have := Ext.size hx0; have := Ext.size hE; have := Ext.size h39; omega)
  · exact (hx0.trans hE).trans (h39.trans hx10)

set_option maxRecDepth 100000 in
set_option maxHeartbeats 2000000 in
theorem append_good5 (w : World) (v : Value) (l n x : List UInt8) (h : mayP (5, n, x) = true) (hr : Rd w v l) (hn : n.length ≤ 10000) (hx : x.length ≤ 10000) (hl : l.length ≤ 5000000) :
    Calls Try.prog 8 #[v, .agg #[.int .i64 5, .string (strL n), .string (strL x)]] w (RetBE w (l ++ chgB (5, n, x)) 0) := by
  have hi := inB_le (5, n, x)
  dsimp only at hi
  have hq := preB_le (5, n, x)
  dsimp only at hq
  have hS : inB (5, n, x) = [] ++ textB x := rfl
  have hC : chgB (5, n, x) = [5] ++ textB (inB (5, n, x)) := rfl
  have hP : ([]).length ≤ n.length + 9 := hq
  generalize hin : inB (5, n, x) = S at hi hS hC
  have HH := Lib.hid h
  have HR := Lib.hid hr
  have HS := Lib.hid hS
  have HC := Lib.hid hC
  clear h hr hS hC hin hq
  go_enter Try.func8, Try.ntmps8
  go_wp2_with fail
  generalize hW0 : w.alloc _ = W0
  have hbox : Box W0 w.heap.size [.int .i64 5, .string (strL n), .string (strL x)] := by rw [← hW0]; exact Box.new w _ _
  have hx0 : Ext w W0 := by rw [← hW0]; exact (Ext.refl w).alloc _
  clear hW0
  have hE := Ext.refl W0
  obtain ⟨c0, c1, c2⟩ := hbox.three hE
  go_wp2_with (first
    | (go_at_call 20; refine (may_g _ 5 n x _ HH.out).mono ?_; rintro e w1 ⟨rfl, hw1⟩; have hx1 : Ext _ w1 := hw1 ▸ (Ext.refl _).alloc _; clear hw1; replace hE := hE.trans hx1; clear c0 c1 c2; obtain ⟨c0, c1, c2⟩ := hbox.three hE)
    | ((with_reducible show Calls _ _ #[_, .string (strL x)] _ _); go_at_call 21; refine (text_b _ _ ([]) x (Rd.nil _) (by omega) (by omega)).mono ?_; rintro e w3 ⟨v3, rfl, ho3', hx3⟩; rw [← HS.out] at ho3'; have ho3 := ho3'.more (base' := W0.heap.size) hE.size; clear ho3'; replace hE := hE.trans hx3; clear c0 c1 c2; obtain ⟨c0, c1, c2⟩ := hbox.three hE)
    | fail)
  clear c0 c1 c2
  have hb3 := hbox.ext hE
  have HX03 := Lib.hid (hx0.trans hE)
  clear hE hbox hx0 hx1 hx3
  have hE := Ext.refl w3
  go_region_held3 (fun W' => W'.cell? ⟨w.heap.size, 0, none⟩ = some (.int .i64 5) ∧ Ext w3 W') ((refine Box.hold1 hb3 (j := 0) (by rfl) ?_; first | exact hE.drew | exact (hE.alloc _).drew | exact hE | exact hE.alloc _))
    (first
      | (go_at_call 22; go_must (first | (refine (cloneS_c _ _ _ (HR.out.ext (HX03.out.trans hE.drew)) (by omega)).mono ?_; rintro e w8 ⟨v8, rfl, ho8', hx8⟩; have ho8 := ho8'.more (base' := w3.heap.size) hE.size; clear ho8'; replace hE := hE.drew.trans hx8) | (refine (cloneS_c _ _ _ (HR.out.ext (HX03.out.trans (hE.alloc _).drew)) (by omega)).mono ?_; rintro e w8 ⟨v8, rfl, ho8', hx8⟩; have ho8 := ho8'.more (base' := w3.heap.size) (hE.alloc _).drew.size; clear ho8'; replace hE := (hE.alloc _).drew.trans hx8) | fail))
      | ((with_reducible show (if Region.wanted (⟨some 34, _, _, _, _, _⟩ : Oper) _ = true then _ else _)); go_must (first | (refine step_append_rd bt (ho8.ext ((Ext.refl _).alloc _)) (rd_lit w8 _ [5] (by rfl) (by simp) 1 _ (by rfl) (by rfl)) (by rfl) _ _ (by rfl) (by rfl) (by rfl) (by simp; omega) (hE.alloc _).size ?_; intro v9 w9 ho9 hb9; replace hE := (hE.alloc _).below hb9 (Nat.le_refl _)) | (refine step_append_rd bt ho8 (((rd_lit w3 _ [5] (by rfl) (by simp) 1 _ (by rfl) (by rfl)).ext (Ext.refl _).drew).ext hx8) (by rfl) _ _ (by rfl) (by rfl) (by rfl) (by simp; omega) hE.size ?_; intro v9 w9 ho9 hb9; replace hE := hE.below hb9 (Nat.le_refl _)) | fail))
      | fail)
  all_goals
    have ho3z := ho3.ext hE
    have HA := Lib.hid (HX03.out.trans hE)
    have h39 := Nat.le_trans (Ext.size HX03.out) (Ext.size hE)
    clear ho3 ho8 hx8 hb9 hE hb3
    go_wp2_with (first
      | ((with_reducible show wpList _ _ _ (⟨some 37, _, _, _, _, _⟩ :: _) _ _); refine wpl_str bt ho3z.rd rfl _ rfl rfl ?_)
      | (go_at_call 21; refine (text_b _ _ _ S ho9.rd (by omega) (by simp; omega)).mono ?_; rintro e w10 ⟨v10, rfl, ho10, hx10⟩)
      | fail)
    go_ret2
    refine ⟨_, rfl, ?_, HA.out.trans hx10⟩
    rw [HC.out, ← List.append_assoc]
    exact ho10.more h39

set_option maxRecDepth 100000 in
set_option maxHeartbeats 2000000 in
theorem append_good_r5 (w : World) (v : Value) (l n x : List UInt8) (h : mayP (5, n, x) = true) (hr : Rd w v l) (hn : n.length ≤ 10000) (hx : x.length ≤ 10000) (hl : l.length ≤ 5000000) :
    Calls Try.prog 15 #[v, .agg #[.int .i64 5, .string (strL n), .string (strL x)]] w (RetBE w (l ++ chgB (5, n, x)) 0) := by
  have hi := inB_le (5, n, x)
  dsimp only at hi
  have hq := preB_le (5, n, x)
  dsimp only at hq
  have hS : inB (5, n, x) = [] ++ textB x := rfl
  have hC : chgB (5, n, x) = [5] ++ textB (inB (5, n, x)) := rfl
  have hP : ([]).length ≤ n.length + 9 := hq
  generalize hin : inB (5, n, x) = S at hi hS hC
  have HH := Lib.hid h
  have HR := Lib.hid hr
  have HS := Lib.hid hS
  have HC := Lib.hid hC
  clear h hr hS hC hin hq
  go_enter Try.func15, Try.ntmps15
  go_wp2_with fail
  generalize hW0 : w.alloc _ = W0
  have hbox : Box W0 w.heap.size [.int .i64 5, .string (strL n), .string (strL x)] := by rw [← hW0]; exact Box.new w _ _
  have hx0 : Ext w W0 := by rw [← hW0]; exact (Ext.refl w).alloc _
  clear hW0
  have hE := Ext.refl W0
  obtain ⟨c0, c1, c2⟩ := hbox.three hE
  go_wp2_with (first
    | (go_at_call 29; refine (may_r _ 5 n x _ HH.out).mono ?_; rintro e w1 ⟨rfl, hw1⟩; have hx1 : Ext _ w1 := hw1 ▸ (Ext.refl _).alloc _; clear hw1; replace hE := hE.trans hx1; clear c0 c1 c2; obtain ⟨c0, c1, c2⟩ := hbox.three hE)
    | ((with_reducible show Calls _ _ #[_, .string (strL x)] _ _); go_at_call 30; refine (text_r _ _ ([]) x (Rd.nil _) (by omega) (by omega)).mono ?_; rintro e w3 ⟨v3, rfl, ho3', hx3⟩; rw [← HS.out] at ho3'; have ho3 := ho3'.more (base' := W0.heap.size) hE.size; clear ho3'; replace hE := hE.trans hx3; clear c0 c1 c2; obtain ⟨c0, c1, c2⟩ := hbox.three hE)
    | ((with_reducible show wpList _ _ _ (⟨some 27, _, _, _, _, _⟩ :: _) _ _); refine wpl_append_rd bt (Own.nil _ _) (HR.out.ext (hx0.trans hE)) rfl _ _ rfl rfl rfl (by simp; omega) (Nat.le_refl _) ?_; intro v7 w7 ho7 hb7; rw [List.nil_append] at ho7; have h37 := (Ext.refl w3).below hb7 (Nat.le_refl _); clear c0 c1 c2; obtain ⟨c0, c1, c2⟩ := hbox.three (hE.trans h37))
    | ((with_reducible show wpList _ _ _ (⟨some 33, _, _, _, _, _⟩ :: _) _ _); refine wpl_append_one bt 5 ho7 (by omega) (by omega) rfl _ _ rfl rfl rfl (by omega) (Below.size hb7) ?_; intro v9 w9 ho9 hb9; have h39 := h37.below hb9 (Nat.le_refl _); have ho3y := ho3.ext h39)
    | ((with_reducible show wpList _ _ _ (⟨some 36, _, _, _, _, _⟩ :: _) _ _); refine wpl_str bt ho3y.rd rfl _ rfl rfl ?_)
    | ((with_reducible show Calls _ _ #[_, .string (strL S)] _ _); go_at_call 30; refine (text_r _ _ _ S ho9.rd (by omega) (by simp; omega)).mono ?_; rintro e w10 ⟨v10, rfl, ho10, hx10⟩)
    | fail)
  go_ret2
  refine ⟨_, rfl, ?_, ?_⟩
  · rw [HC.out, ← List.append_assoc]
    exact ho10.more (by have := Ext.size hx0; have := Ext.size hE; have := Ext.size h39; omega)
  · exact (hx0.trans hE).trans (h39.trans hx10)
end Go.Proofs.Ytdjnjhlgpflcjaa
