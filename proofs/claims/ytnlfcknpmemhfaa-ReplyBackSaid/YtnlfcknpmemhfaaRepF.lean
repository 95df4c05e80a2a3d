/- The contracts of the functions that write an EOF, a prepared statement; the reference's function that writes an OK. (Printed by gen_repF.py.) -/
import Derived.Test.YtnlfcknpmemhfaaRepE
namespace Go.Proofs.Ytnlfcknpmemhfaa
open Go.RowKit

/-- An EOF. -/
def eofB (a b : Int) : List UInt8 := 254 :: (fixB a 2 ++ fixB b 2)
/-- A prepared statement. -/
def prepB (i x y z : Int) : List UInt8 := 0 :: (fixB i 4 ++ (fixB x 2 ++ (fixB y 2 ++ (0 :: fixB z 2))))

theorem Box.held3 {W0 W : World} {g j k m : Nat} {cs : List Value} {v u t : Value} (h : Box W0 g cs) (hv : cs[j]? = some v) (hu : cs[k]? = some u) (ht : cs[m]? = some t) (e : Ext W0 W) :
    W.cell? ⟨g, j, none⟩ = some v ∧ W.cell? ⟨g, k, none⟩ = some u ∧ W.cell? ⟨g, m, none⟩ = some t ∧ Ext W0 W :=
  ⟨(h.held1 hv e).1, (h.held1 hu e).1, (h.held1 ht e).1, e⟩

set_option maxRecDepth 100000 in
set_option maxHeartbeats 4000000 in
theorem appendEof_c (w : World) (v : Value) (l : List UInt8) (a b : Int) (hr : Rd w v l) (hl : l.length ≤ 1000000) (ha : 0 ≤ a ∧ a < 65536) (hb : 0 ≤ b ∧ b < 65536) :
    Calls Try.prog 24 #[v, .agg #[.int .u16 a, .int .u16 b]] w (RetB w (l ++ eofB a b)) := by
  have HR := Lib.hid hr
  clear hr
  have HW1 := Lib.hid (show IntKind.u64.wrap a = a from IntWalk.u64_in a (by omega))
  have HK1 := Lib.hid (show fixOk a 2 = true by simp [fixOk]; omega)
  have hf1 : (fixB a 2).length = 2 := fixB_length a 2
  have HW2 := Lib.hid (show IntKind.u64.wrap b = b from IntWalk.u64_in b (by omega))
  have HK2 := Lib.hid (show fixOk b 2 = true by simp [fixOk]; omega)
  have hf2 : (fixB b 2).length = 2 := fixB_length b 2
  go_enter Try.func24, Try.ntmps24
  go_wp2_with fail
  generalize hW0 : w.alloc _ = W0
  have hbox : Box W0 w.heap.size [.int .u16 a, .int .u16 b] := by rw [← hW0]; exact Box.new w _ _
  have hx0 : Ext w W0 := by rw [← hW0]; exact (Ext.refl w).alloc _
  clear hW0
  have hE := Ext.refl W0
  have hlt : w.heap.size < W0.heap.size := World.block_lt_of_cell? W0 _ (hbox 0 (by simp))
  go_wp2_with (first
    | (go_at_call 64; refine (clone_c _ _ _ (HR.out.ext (hx0.trans hE)) (by omega)).mono ?_; rintro e w2 ⟨v2, rfl, ho', hx2⟩; have ho := ho'.more (base' := W0.heap.size) hE.size; clear ho'; replace hE := hE.trans hx2)
    | (at_builtin; refine wpl_append_one bt 254 ho (by omega) (by omega) rfl _ _ rfl rfl rfl (by omega) hE.size ?_; intro v3 w3 ho3 hb3; replace hE := hE.below hb3 (Nat.le_refl _)))
  go_region_held3 (fun W' => W'.cell? ⟨w.heap.size, 0, none⟩ = some (.int .u16 a) ∧ W'.cell? ⟨w.heap.size, 1, none⟩ = some (.int .u16 b) ∧ Ext W0 W') ((refine Box.held2 hbox (j := 0) (k := 1) (by simp) (by simp) ?_; first | exact hE.drew | exact (hE.alloc _).drew | exact ((hE.alloc _).alloc _).drew | exact hE | exact hE.alloc _))
    (first
      | ((with_reducible show Calls _ _ #[v3, _, _] _ _); go_at_call 65; rw [HW1.out]; refine (fixed_c _ _ _ a 2 (ho3.ext (Ext.refl _).drew).rd (by simp; omega) HK1.out).mono ?_; rintro e w4 ⟨v4, rfl, ho', hx4⟩; have ho4 := ho'.more (base' := W0.heap.size) (hE.drew).size; clear ho'; replace hE := (hE.drew).trans hx4)
      | ((with_reducible show Calls _ _ #[v4, _, _] _ _); go_at_call 65; rw [HW2.out]; refine (fixed_c _ _ _ b 2 (ho4).rd (by simp; omega) HK2.out).mono ?_; rintro e wZ ⟨vZ, rfl, ho', hxZ⟩; have hoZ := ho'.more (base' := W0.heap.size) (hE).size; clear ho'; replace hE := (hE).trans hxZ))
  all_goals
    go_wp2_with fail
    go_ret
    refine ⟨_, rfl, ?_, hx0.trans hE⟩
    have := hoZ.more (base' := w.heap.size) (by omega)
    simpa [eofB] using this

set_option maxRecDepth 100000 in
set_option maxHeartbeats 4000000 in
theorem appendEofR_c (w : World) (v : Value) (l : List UInt8) (a b : Int) (hr : Rd w v l) (hl : l.length ≤ 1000000) (ha : 0 ≤ a ∧ a < 65536) (hb : 0 ≤ b ∧ b < 65536) :
    Calls Try.prog 25 #[v, .agg #[.int .u16 a, .int .u16 b]] w (RetB w (l ++ eofB a b)) := by
  have HR := Lib.hid hr
  clear hr
  have HW1 := Lib.hid (show IntKind.u64.wrap a = a from IntWalk.u64_in a (by omega))
  have HK1 := Lib.hid (show fixOk a 2 = true by simp [fixOk]; omega)
  have hf1 : (fixB a 2).length = 2 := fixB_length a 2
  have HW2 := Lib.hid (show IntKind.u64.wrap b = b from IntWalk.u64_in b (by omega))
  have HK2 := Lib.hid (show fixOk b 2 = true by simp [fixOk]; omega)
  have hf2 : (fixB b 2).length = 2 := fixB_length b 2
  go_enter Try.func25, Try.ntmps25
  go_wp2_with fail
  generalize hW0 : w.alloc _ = W0
  have hbox : Box W0 w.heap.size [.int .u16 a, .int .u16 b] := by rw [← hW0]; exact Box.new w _ _
  have hx0 : Ext w W0 := by rw [← hW0]; exact (Ext.refl w).alloc _
  clear hW0
  have hE := Ext.refl W0
  have hlt : w.heap.size < W0.heap.size := World.block_lt_of_cell? W0 _ (hbox 0 (by simp))
  go_region_held3 (fun W' => W'.cell? ⟨w.heap.size, 0, none⟩ = some (.int .u16 a) ∧ W'.cell? ⟨w.heap.size, 1, none⟩ = some (.int .u16 b) ∧ Ext W0 W') ((refine Box.held2 hbox (j := 0) (k := 1) (by simp) (by simp) ?_; first | exact hE.drew | exact (hE.alloc _).drew | exact ((hE.alloc _).alloc _).drew | exact hE | exact hE.alloc _))
    (first
      | ((with_reducible show (if Region.wanted (⟨some 7, _, _, _, _, _⟩ : Oper) _ = true then _ else _)); refine step_append_rdg bt ((own_nil W0 W0.heap.size W0.heap.size rfl hE.size).ext (Ext.refl _).drew) (HR.out.ext (hx0.trans ((hE.alloc _).drew))) (by rfl) _ _ (by rfl) (by rfl) (by rfl) (by simp; omega) (by first | (simp; done) | (simp; omega)) ?_; intro v1 w1 ho1 hb1 hg1; replace hE := ((hE.alloc _).drew).below hb1 (Nat.le_refl _))
      | ((with_reducible show (if Region.wanted (⟨some 7, _, _, _, _, _⟩ : Oper) _ = true then _ else _)); refine step_append_rdg bt ((own_nil W0 W0.heap.size W0.heap.size rfl hE.size).ext ((Ext.refl _).alloc _).drew) (HR.out.ext (hx0.trans (((hE.alloc _).alloc _).drew))) (by rfl) _ _ (by rfl) (by rfl) (by rfl) (by simp; omega) (by first | (simp; done) | (simp; omega)) ?_; intro v1 w1 ho1 hb1 hg1; replace hE := (((hE.alloc _).alloc _).drew).below hb1 (Nat.le_refl _))
      | ((with_reducible show (if Region.wanted (⟨some 7, _, _, _, _, _⟩ : Oper) _ = true then _ else _)); refine step_append_rdg bt ((own_nil (W0.alloc _) (W0.heap.size + 1) W0.heap.size (by simp) (hE.alloc _).size).ext (Ext.refl _).drew) (HR.out.ext (hx0.trans (((hE.alloc _).alloc _).drew))) (by rfl) _ _ (by rfl) (by rfl) (by rfl) (by simp; omega) (by first | (simp; done) | (simp; omega)) ?_; intro v1 w1 ho1 hb1 hg1; replace hE := (((hE.alloc _).alloc _).drew).below hb1 (Nat.le_refl _))
      | ((with_reducible show (if Region.wanted (⟨some 9, _, _, _, _, _⟩ : Oper) _ = true then _ else _)); refine step_append_rd bt (ho1.ext ((Ext.refl _).alloc _)) (rd_lit w1 _ [254] (by rfl) (by simp) 1 _ (by rfl) (by rfl)) (by rfl) _ _ (by rfl) (by rfl) (by rfl) (by simp; omega) (hE.alloc _).size ?_; intro v2 w2 ho2 hb2; replace hE := (hE.alloc _).below hb2 (Nat.le_refl _))
      | ((with_reducible show (if Region.wanted (⟨some 9, _, _, _, _, _⟩ : Oper) _ = true then _ else _)); refine step_append_rd bt ho1 (rd_far ((rd_lit (W0.alloc _) _ [254] (by rfl) (by simp) 1 (W0.heap.size + 1) (by rfl) (by simp)).ext (Ext.refl _).drew) hg1 (by simp [Value.ownBlock])) (by rfl) _ _ (by rfl) (by rfl) (by rfl) (by simp; omega) hE.size ?_; intro v2 w2 ho2 hb2; replace hE := hE.below hb2 (Nat.le_refl _))
      | ((with_reducible show (if Region.wanted (⟨some 9, _, _, _, _, _⟩ : Oper) _ = true then _ else _)); refine step_append_rd bt ho1 (rd_far ((rd_lit W0 _ [254] (by rfl) (by simp) 1 _ (by rfl) (by rfl)).ext ((Ext.refl _).alloc _).drew) hg1 (by simp [Value.ownBlock])) (by rfl) _ _ (by rfl) (by rfl) (by rfl) (by simp; omega) hE.size ?_; intro v2 w2 ho2 hb2; replace hE := hE.below hb2 (Nat.le_refl _))
      | ((with_reducible show Calls _ _ #[v2, _, _] _ _); go_at_call 68; rw [HW1.out]; refine (fixedR_c _ _ _ a 2 (ho2).rd (by simp; omega) HK1.out).mono ?_; rintro e w4 ⟨v4, rfl, ho', hx4⟩; have ho4 := ho'.more (base' := W0.heap.size) (hE).size; clear ho'; replace hE := (hE).trans hx4)
      | ((with_reducible show Calls _ _ #[v4, _, _] _ _); go_at_call 68; rw [HW2.out]; refine (fixedR_c _ _ _ b 2 (ho4).rd (by simp; omega) HK2.out).mono ?_; rintro e wZ ⟨vZ, rfl, ho', hxZ⟩; have hoZ := ho'.more (base' := W0.heap.size) (hE).size; clear ho'; replace hE := (hE).trans hxZ))
  all_goals
    go_wp2_with fail
    go_ret
    refine ⟨_, rfl, ?_, hx0.trans hE⟩
    have := hoZ.more (base' := w.heap.size) (by omega)
    simpa [eofB] using this

set_option maxRecDepth 100000 in
set_option maxHeartbeats 4000000 in
theorem appendPrep_c (w : World) (v : Value) (l : List UInt8) (i x y z : Int) (hr : Rd w v l) (hl : l.length ≤ 1000000) (hi : 0 ≤ i ∧ i < 4294967296) (hx : 0 ≤ x ∧ x < 65536) (hy : 0 ≤ y ∧ y < 65536) (hz : 0 ≤ z ∧ z < 65536) :
    Calls Try.prog 26 #[v, .agg #[.int .u32 i, .int .u16 x, .int .u16 y, .int .u16 z]] w (RetB w (l ++ prepB i x y z)) := by
  have HR := Lib.hid hr
  clear hr
  have HW0 := Lib.hid (show IntKind.u64.wrap i = i from IntWalk.u64_in i (by omega))
  have HK0 := Lib.hid (show fixOk i 4 = true by simp [fixOk]; omega)
  have hf0 : (fixB i 4).length = 4 := fixB_length i 4
  have HW1 := Lib.hid (show IntKind.u64.wrap x = x from IntWalk.u64_in x (by omega))
  have HK1 := Lib.hid (show fixOk x 2 = true by simp [fixOk]; omega)
  have hf1 : (fixB x 2).length = 2 := fixB_length x 2
  have HW2 := Lib.hid (show IntKind.u64.wrap y = y from IntWalk.u64_in y (by omega))
  have HK2 := Lib.hid (show fixOk y 2 = true by simp [fixOk]; omega)
  have hf2 : (fixB y 2).length = 2 := fixB_length y 2
  have HW3 := Lib.hid (show IntKind.u64.wrap z = z from IntWalk.u64_in z (by omega))
  have HK3 := Lib.hid (show fixOk z 2 = true by simp [fixOk]; omega)
  have hf3 : (fixB z 2).length = 2 := fixB_length z 2
  go_enter Try.func26, Try.ntmps26
  go_wp2_with fail
  generalize hW0 : w.alloc _ = W0
  have hbox : Box W0 w.heap.size [.int .u32 i, .int .u16 x, .int .u16 y, .int .u16 z] := by rw [← hW0]; exact Box.new w _ _
  have hx0 : Ext w W0 := by rw [← hW0]; exact (Ext.refl w).alloc _
  clear hW0
  have hE := Ext.refl W0
  have hlt : w.heap.size < W0.heap.size := World.block_lt_of_cell? W0 _ (hbox 0 (by simp))
  go_region_held3 (fun W' => W'.cell? ⟨w.heap.size, 0, none⟩ = some (.int .u32 i) ∧ Ext W0 W') ((refine Box.held1 hbox (j := 0) (by simp) ?_; first | exact hE.drew | exact (hE.alloc _).drew | exact ((hE.alloc _).alloc _).drew | exact hE | exact hE.alloc _))
    (first
      | (go_at_call 64; refine (clone_c _ _ _ (HR.out.ext (hx0.trans (hE.drew))) (by omega)).mono ?_; rintro e w1 ⟨v1, rfl, ho', hx1⟩; have ho1 := ho'.more (base' := W0.heap.size) (hE.drew).size; clear ho'; replace hE := (hE.drew).trans hx1)
      | (go_at_call 64; refine (clone_c _ _ _ (HR.out.ext (hx0.trans ((hE.alloc _).drew))) (by omega)).mono ?_; rintro e w1 ⟨v1, rfl, ho', hx1⟩; have ho1 := ho'.more (base' := W0.heap.size) ((hE.alloc _).drew).size; clear ho'; replace hE := ((hE.alloc _).drew).trans hx1)
      | ((with_reducible show (if Region.wanted (⟨some 9, _, _, _, _, _⟩ : Oper) _ = true then _ else _)); refine step_append_rd bt (ho1.ext ((Ext.refl _).alloc _)) (rd_lit w1 _ [0] (by rfl) (by simp) 1 _ (by rfl) (by rfl)) (by rfl) _ _ (by rfl) (by rfl) (by rfl) (by simp; omega) (hE.alloc _).size ?_; intro v2 w2 ho2 hb2; replace hE := (hE.alloc _).below hb2 (Nat.le_refl _))
      | ((with_reducible show (if Region.wanted (⟨some 9, _, _, _, _, _⟩ : Oper) _ = true then _ else _)); refine step_append_rd bt ho1 ((rd_lit _ _ [0] (by rfl) (by simp) 1 _ (by rfl) (by rfl)).ext ((Ext.refl _).drew.trans hx1)) (by rfl) _ _ (by rfl) (by rfl) (by rfl) (by simp; omega) hE.size ?_; intro v2 w2 ho2 hb2; replace hE := hE.below hb2 (Nat.le_refl _))
      | ((with_reducible show Calls _ _ #[v2, _, _] _ _); go_at_call 65; rw [HW0.out]; refine (fixed_c _ _ _ i 4 (ho2).rd (by simp; omega) HK0.out).mono ?_; rintro e w3 ⟨v3, rfl, ho', hx3⟩; have ho3 := ho'.more (base' := W0.heap.size) (hE).size; clear ho'; replace hE := (hE).trans hx3))
  all_goals
    clear ho1 ho2 hx1 hb2 hx3
    go_wp2_with fail
    go_region_held3 (fun W' => W'.cell? ⟨w.heap.size, 1, none⟩ = some (.int .u16 x) ∧ W'.cell? ⟨w.heap.size, 2, none⟩ = some (.int .u16 y) ∧ Ext W0 W') ((refine Box.held2 hbox (j := 1) (k := 2) (by simp) (by simp) ?_; first | exact hE.drew | exact (hE.alloc _).drew | exact ((hE.alloc _).alloc _).drew | exact hE | exact hE.alloc _))
      (first
        | ((with_reducible show Calls _ _ #[v3, _, _] _ _); go_at_call 65; rw [HW1.out]; refine (fixed_c _ _ _ x 2 (ho3.ext (Ext.refl _).drew).rd (by simp; omega) HK1.out).mono ?_; rintro e w4 ⟨v4, rfl, ho', hx4⟩; have ho4 := ho'.more (base' := W0.heap.size) (hE.drew).size; clear ho'; replace hE := (hE.drew).trans hx4)
        | ((with_reducible show Calls _ _ #[v4, _, _] _ _); go_at_call 65; rw [HW2.out]; refine (fixed_c _ _ _ y 2 (ho4).rd (by simp; omega) HK2.out).mono ?_; rintro e w5 ⟨v5, rfl, ho', hx5⟩; have ho5 := ho'.more (base' := W0.heap.size) (hE).size; clear ho'; replace hE := (hE).trans hx5))
    clear ho3 ho4 hx4 hx5
    go_wp2_with fail
    go_region_held3 (fun W' => W'.cell? ⟨w.heap.size, 3, none⟩ = some (.int .u16 z) ∧ Ext W0 W') ((refine Box.held1 hbox (j := 3) (by simp) ?_; first | exact hE.drew | exact (hE.alloc _).drew | exact ((hE.alloc _).alloc _).drew | exact hE | exact hE.alloc _))
      (first
        | ((with_reducible show (if Region.wanted (⟨some 25, _, _, _, _, _⟩ : Oper) _ = true then _ else _)); refine step_append_rd bt (ho5.ext ((Ext.refl _).alloc _).drew) ((rd_lit w5 _ [0] (by rfl) (by simp) 1 _ (by rfl) (by rfl)).ext (Ext.refl _).drew) (by rfl) _ _ (by rfl) (by rfl) (by rfl) (by simp; omega) (hE.alloc _).drew.size ?_; intro v6 w6 ho6 hb6; replace hE := ((hE.alloc _).drew).below hb6 (Nat.le_refl _))
        | ((with_reducible show Calls _ _ #[v6, _, _] _ _); go_at_call 65; rw [HW3.out]; refine (fixed_c _ _ _ z 2 (ho6).rd (by simp; omega) HK3.out).mono ?_; rintro e wZ ⟨vZ, rfl, ho', hxZ⟩; have hoZ := ho'.more (base' := W0.heap.size) (hE).size; clear ho'; replace hE := (hE).trans hxZ))
  all_goals
    go_wp2_with fail
    go_ret
    refine ⟨_, rfl, ?_, hx0.trans hE⟩
    have := hoZ.more (base' := w.heap.size) (by omega)
    simpa [prepB] using this

set_option maxRecDepth 100000 in
set_option maxHeartbeats 4000000 in
theorem appendPrepR_c (w : World) (v : Value) (l : List UInt8) (i x y z : Int) (hr : Rd w v l) (hl : l.length ≤ 1000000) (hi : 0 ≤ i ∧ i < 4294967296) (hx : 0 ≤ x ∧ x < 65536) (hy : 0 ≤ y ∧ y < 65536) (hz : 0 ≤ z ∧ z < 65536) :
    Calls Try.prog 27 #[v, .agg #[.int .u32 i, .int .u16 x, .int .u16 y, .int .u16 z]] w (RetB w (l ++ prepB i x y z)) := by
  have HR := Lib.hid hr
  clear hr
  have HW0 := Lib.hid (show IntKind.u64.wrap i = i from IntWalk.u64_in i (by omega))
  have HK0 := Lib.hid (show fixOk i 4 = true by simp [fixOk]; omega)
  have hf0 : (fixB i 4).length = 4 := fixB_length i 4
  have HW1 := Lib.hid (show IntKind.u64.wrap x = x from IntWalk.u64_in x (by omega))
  have HK1 := Lib.hid (show fixOk x 2 = true by simp [fixOk]; omega)
  have hf1 : (fixB x 2).length = 2 := fixB_length x 2
  have HW2 := Lib.hid (show IntKind.u64.wrap y = y from IntWalk.u64_in y (by omega))
  have HK2 := Lib.hid (show fixOk y 2 = true by simp [fixOk]; omega)
  have hf2 : (fixB y 2).length = 2 := fixB_length y 2
  have HW3 := Lib.hid (show IntKind.u64.wrap z = z from IntWalk.u64_in z (by omega))
  have HK3 := Lib.hid (show fixOk z 2 = true by simp [fixOk]; omega)
  have hf3 : (fixB z 2).length = 2 := fixB_length z 2
  go_enter Try.func27, Try.ntmps27
  go_wp2_with fail
  generalize hW0 : w.alloc _ = W0
  have hbox : Box W0 w.heap.size [.int .u32 i, .int .u16 x, .int .u16 y, .int .u16 z] := by rw [← hW0]; exact Box.new w _ _
  have hx0 : Ext w W0 := by rw [← hW0]; exact (Ext.refl w).alloc _
  clear hW0
  have hE := Ext.refl W0
  have hlt : w.heap.size < W0.heap.size := World.block_lt_of_cell? W0 _ (hbox 0 (by simp))
  go_region_held3 (fun W' => W'.cell? ⟨w.heap.size, 0, none⟩ = some (.int .u32 i) ∧ Ext W0 W') ((refine Box.held1 hbox (j := 0) (by simp) ?_; first | exact hE.drew | exact (hE.alloc _).drew | exact ((hE.alloc _).alloc _).drew | exact hE | exact hE.alloc _))
    (first
      | ((with_reducible show (if Region.wanted (⟨some 8, _, _, _, _, _⟩ : Oper) _ = true then _ else _)); refine step_append_rdg bt ((own_nil W0 W0.heap.size W0.heap.size rfl hE.size).ext (Ext.refl _).drew) (HR.out.ext (hx0.trans ((hE.alloc _).drew))) (by rfl) _ _ (by rfl) (by rfl) (by rfl) (by simp; omega) (by first | (simp; done) | (simp; omega)) ?_; intro v1 w1 ho1 hb1 hg1; replace hE := ((hE.alloc _).drew).below hb1 (Nat.le_refl _))
      | ((with_reducible show (if Region.wanted (⟨some 8, _, _, _, _, _⟩ : Oper) _ = true then _ else _)); refine step_append_rdg bt ((own_nil W0 W0.heap.size W0.heap.size rfl hE.size).ext ((Ext.refl _).alloc _).drew) (HR.out.ext (hx0.trans (((hE.alloc _).alloc _).drew))) (by rfl) _ _ (by rfl) (by rfl) (by rfl) (by simp; omega) (by first | (simp; done) | (simp; omega)) ?_; intro v1 w1 ho1 hb1 hg1; replace hE := (((hE.alloc _).alloc _).drew).below hb1 (Nat.le_refl _))
      | ((with_reducible show (if Region.wanted (⟨some 8, _, _, _, _, _⟩ : Oper) _ = true then _ else _)); refine step_append_rdg bt ((own_nil (W0.alloc _) (W0.heap.size + 1) W0.heap.size (by simp) (hE.alloc _).size).ext (Ext.refl _).drew) (HR.out.ext (hx0.trans (((hE.alloc _).alloc _).drew))) (by rfl) _ _ (by rfl) (by rfl) (by rfl) (by simp; omega) (by first | (simp; done) | (simp; omega)) ?_; intro v1 w1 ho1 hb1 hg1; replace hE := (((hE.alloc _).alloc _).drew).below hb1 (Nat.le_refl _))
      | ((with_reducible show (if Region.wanted (⟨some 10, _, _, _, _, _⟩ : Oper) _ = true then _ else _)); refine step_append_rd bt (ho1.ext ((Ext.refl _).alloc _)) (rd_lit w1 _ [0] (by rfl) (by simp) 1 _ (by rfl) (by rfl)) (by rfl) _ _ (by rfl) (by rfl) (by rfl) (by simp; omega) (hE.alloc _).size ?_; intro v2 w2 ho2 hb2; replace hE := (hE.alloc _).below hb2 (Nat.le_refl _))
      | ((with_reducible show (if Region.wanted (⟨some 10, _, _, _, _, _⟩ : Oper) _ = true then _ else _)); refine step_append_rd bt ho1 (rd_far ((rd_lit (W0.alloc _) _ [0] (by rfl) (by simp) 1 (W0.heap.size + 1) (by rfl) (by simp)).ext (Ext.refl _).drew) hg1 (by simp [Value.ownBlock])) (by rfl) _ _ (by rfl) (by rfl) (by rfl) (by simp; omega) hE.size ?_; intro v2 w2 ho2 hb2; replace hE := hE.below hb2 (Nat.le_refl _))
      | ((with_reducible show (if Region.wanted (⟨some 10, _, _, _, _, _⟩ : Oper) _ = true then _ else _)); refine step_append_rd bt ho1 (rd_far ((rd_lit W0 _ [0] (by rfl) (by simp) 1 _ (by rfl) (by rfl)).ext ((Ext.refl _).alloc _).drew) hg1 (by simp [Value.ownBlock])) (by rfl) _ _ (by rfl) (by rfl) (by rfl) (by simp; omega) hE.size ?_; intro v2 w2 ho2 hb2; replace hE := hE.below hb2 (Nat.le_refl _))
      | ((with_reducible show Calls _ _ #[v2, _, _] _ _); go_at_call 68; rw [HW0.out]; refine (fixedR_c _ _ _ i 4 (ho2).rd (by simp; omega) HK0.out).mono ?_; rintro e w3 ⟨v3, rfl, ho', hx3⟩; have ho3 := ho'.more (base' := W0.heap.size) (hE).size; clear ho'; replace hE := (hE).trans hx3))
  all_goals
    clear ho1 ho2 hg1 hb1 hb2 hx3
    go_wp2_with fail
    go_region_held3 (fun W' => W'.cell? ⟨w.heap.size, 1, none⟩ = some (.int .u16 x) ∧ W'.cell? ⟨w.heap.size, 2, none⟩ = some (.int .u16 y) ∧ Ext W0 W') ((refine Box.held2 hbox (j := 1) (k := 2) (by simp) (by simp) ?_; first | exact hE.drew | exact (hE.alloc _).drew | exact ((hE.alloc _).alloc _).drew | exact hE | exact hE.alloc _))
      (first
        | ((with_reducible show Calls _ _ #[v3, _, _] _ _); go_at_call 68; rw [HW1.out]; refine (fixedR_c _ _ _ x 2 (ho3.ext (Ext.refl _).drew).rd (by simp; omega) HK1.out).mono ?_; rintro e w4 ⟨v4, rfl, ho', hx4⟩; have ho4 := ho'.more (base' := W0.heap.size) (hE.drew).size; clear ho'; replace hE := (hE.drew).trans hx4)
        | ((with_reducible show Calls _ _ #[v3, _, _] _ _); go_at_call 68; rw [HW1.out]; refine (fixedR_c _ _ _ x 2 (ho3.ext ((Ext.refl _).alloc _).drew).rd (by simp; omega) HK1.out).mono ?_; rintro e w4 ⟨v4, rfl, ho', hx4⟩; have ho4 := ho'.more (base' := W0.heap.size) ((hE.alloc _).drew).size; clear ho'; replace hE := ((hE.alloc _).drew).trans hx4)
        | ((with_reducible show Calls _ _ #[v4, _, _] _ _); go_at_call 68; rw [HW2.out]; refine (fixedR_c _ _ _ y 2 (ho4).rd (by simp; omega) HK2.out).mono ?_; rintro e w5 ⟨v5, rfl, ho', hx5⟩; have ho5 := ho'.more (base' := W0.heap.size) (hE).size; clear ho'; replace hE := (hE).trans hx5)
        | ((with_reducible show Calls _ _ #[v4, _, _] _ _); go_at_call 68; rw [HW2.out]; refine (fixedR_c _ _ _ y 2 (ho4.ext ((Ext.refl _).alloc _)).rd (by simp; omega) HK2.out).mono ?_; rintro e w5 ⟨v5, rfl, ho', hx5⟩; have ho5 := ho'.more (base' := W0.heap.size) (hE.alloc _).size; clear ho'; replace hE := (hE.alloc _).trans hx5)
        | ((with_reducible show (if Region.wanted (⟨some 25, _, _, _, _, _⟩ : Oper) _ = true then _ else _)); refine step_append_rd bt (ho5.ext ((Ext.refl _).alloc _)) (rd_lit w5 _ [0] (by rfl) (by simp) 1 _ (by rfl) (by rfl)) (by rfl) _ _ (by rfl) (by rfl) (by rfl) (by simp; omega) (hE.alloc _).size ?_; intro v6 w6 ho6 hb6; replace hE := (hE.alloc _).below hb6 (Nat.le_refl _))
        | ((with_reducible show (if Region.wanted (⟨some 25, _, _, _, _, _⟩ : Oper) _ = true then _ else _)); refine step_append_rd bt (ho5) ((rd_lit w4 _ [0] (by rfl) (by simp) 1 _ (by rfl) (by rfl)).ext hx5) (by rfl) _ _ (by rfl) (by rfl) (by rfl) (by simp; omega) (hE).size ?_; intro v6 w6 ho6 hb6; replace hE := (hE).below hb6 (Nat.le_refl _))
        | ((with_reducible show (if Region.wanted (⟨some 25, _, _, _, _, _⟩ : Oper) _ = true then _ else _)); refine step_append_rd bt (ho5) ((rd_lit w3 _ [0] (by rfl) (by simp) 1 _ (by rfl) (by rfl)).ext ((Ext.refl _).drew.trans (hx4.trans hx5))) (by rfl) _ _ (by rfl) (by rfl) (by rfl) (by simp; omega) (hE).size ?_; intro v6 w6 ho6 hb6; replace hE := (hE).below hb6 (Nat.le_refl _)))
    all_goals
      clear ho3 ho4 ho5 hx4 hx5 hb6
      have c3 := (hbox.ext hE) 3 (by simp)
      go_wp2_with (go_at_call 68; (try rw [HW3.out]); refine (fixedR_c _ _ _ z 2 ho6.rd (by simp; omega) HK3.out).mono ?_; rintro e wZ ⟨vZ, rfl, ho', hxZ⟩; have hoZ := ho'.more (base' := W0.heap.size) hE.size; clear ho'; replace hE := hE.trans hxZ)
      go_ret
      refine ⟨_, rfl, ?_, hx0.trans hE⟩
      have := hoZ.more (base' := w.heap.size) (by omega)
      simpa [prepB] using this

end Go.Proofs.Ytnlfcknpmemhfaa
