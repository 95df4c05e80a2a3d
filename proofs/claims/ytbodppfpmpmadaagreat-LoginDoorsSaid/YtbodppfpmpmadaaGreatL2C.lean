import Derived.Test.YtbodppfpmpmadaaGreatL1C
import Derived.Laws.ResultCell
import Derived.Deep.QuietTactic
import Derived.BigQuiet
import Derived.ProofKit
import Derived.SliceStrings
import Derived.WalkKit
import Derived.WalkSpells
import Derived.Lib.Hide
import Derived.Laws.BitsAllLaws
namespace Go.Proofs.YtbodppfpmpmadaaGreat
open Go.RowKit

structure BoxF (W : World) (g : Nat) (cs : List Value) : Prop where
  box : Box W g cs
  free : ∀ j, j < cs.length → W.frozen? ⟨g, j, none⟩ = false
  lt : g < W.heap.size

theorem BoxF.new (w : World) (cs : List Value) (t : TypeId) : BoxF (w.alloc (.cells cs.toArray t)) w.heap.size cs := ⟨Box.new w cs t, fun j _ => World.frozen?_alloc_new _ _ _ _, by simp⟩
theorem BoxF.ext {W W' : World} {g : Nat} {cs : List Value} (h : BoxF W g cs) (k : Ext W W') : BoxF W' g cs :=
  ⟨h.box.ext k, fun j hj => (k.frozen h.lt).trans (h.free j hj), Nat.lt_of_lt_of_le h.lt (Ext.size k)⟩
theorem BoxF.on {W W' : World} {g b : Nat} {cs : List Value} (h : BoxF W g cs) (k : On b W W') (hne : g ≠ b) : BoxF W' g cs :=
  ⟨h.box.on k hne, fun j hj => k.frozen (h.free j hj) h.lt hne, Nat.lt_of_lt_of_le h.lt k.size⟩
theorem BoxF.there {W : World} {g : Nat} {cs : List Value} (h : BoxF W g cs) : W.there g 0 cs.length := fun j hj => by
  rw [Nat.zero_add]
  exact ⟨by rw [h.box j hj]; rfl, h.free j hj⟩
theorem On.sets {g : Nat} (W : World) (o : Nat) (vs : List Value) : On g W (W.setCells g o vs) := by
  induction vs generalizing o W with
  | nil => exact On.refl g W
  | cons v r ih => exact ((On.refl g W).set o v).trans (ih _ _)
theorem BoxF.sets {W : World} {g : Nat} {cs ds : List Value} (h : BoxF W g cs) (hl : cs.length = ds.length) : BoxF (W.setCells g 0 ds) g ds := by
  refine ⟨fun j hj => ?_, fun j hj => ?_, Nat.lt_of_lt_of_le h.lt (On.sets W 0 ds).size⟩
  · have := World.cell?_setCells_in g ds 0 W (fun j hj => (h.there j (by omega)).1) j hj
    rw [Nat.zero_add] at this
    rw [this, List.getD_eq_getElem?_getD, List.getElem?_eq_getElem hj]
    rfl
  · rw [World.frozen?_setCells]
    exact h.free j (by omega)
theorem BoxF.set {W : World} {g : Nat} {cs : List Value} (h : BoxF W g cs) (j : Nat) (u : Value) : BoxF (W.setCell ⟨g, j, none⟩ u) g (cs.set j u) := by
  refine ⟨fun i hi => ?_, fun i hi => ?_, by simpa [World.setCell] using h.lt⟩
  · rw [List.length_set] at hi
    by_cases e : j = i
    · subst e
      rw [World.cell?_setCell_same _ _ _ (h.box j hi), List.getD_eq_getElem?_getD, List.getElem?_set_self hi]
      rfl
    · rw [World.cell?_setCell_other _ _ _ _ (by simp), h.box i hi, List.getD_eq_getElem?_getD, List.getD_eq_getElem?_getD, List.getElem?_set_ne e]
  · rw [World.frozen?_setCell]
    rw [List.length_set] at hi
    exact h.free i hi
theorem BoxF.at {W : World} {g j : Nat} {cs : List Value} {v : Value} (h : BoxF W g cs) (hv : cs[j]? = some v) : W.cell? ⟨g, j, none⟩ = some v := by
  obtain ⟨hj, hv'⟩ := List.getElem?_eq_some_iff.1 hv
  rw [h.box j hj, List.getD_eq_getElem?_getD, hv]
  rfl

section
variable {P : Program} {ops : Array Oper} {rest : List Oper} {o : Oper} {a : Act} {w : World} {Q : Exit → Act → World → Prop} {K : Act → World → Prop} {E : Prop}

theorem wpl_store_box (hgd : o.guard = none) (ty : TypeId) (x y : Operand) (ho : o.op = .store ty x y) (g : Nat) (ds : List Value) (hx : a.eval x = .pointer (some ⟨g, 0, none⟩)) (hy : a.eval y = .agg ds.toArray)
    {cs : List Value} (B : BoxF w g cs) (hl : cs.length = ds.length) (hi : (P.info? ty).map (·.size) = some ds.length) (h1 : ds.all (·.oneCell') = true)
    (h : ∀ w', BoxF w' g ds → On g w w' → wpList P ops Q rest (a.put o.dst undef) w') : wpList P ops Q (o :: rest) a w :=
  wpList_store_mid hgd ty x y ho g 0 ds.toArray hx hy (by have := B.there; rwa [hl] at this) (by simpa using hi) (by simpa using h1) (h _ (by simpa using B.sets hl) (On.sets w 0 _))

theorem run_store_cell (ty : TypeId) (g j : Nat) (v : Value) (hv : v.cells = #[v]) (h1 : v.oneCell' = true) (hi : (P.info? ty).map (·.size) = some 1) {cs : List Value} (B : BoxF w g cs) (hj : j < cs.length) :
    (storeVar ty ⟨g, j, none⟩ v).run P w = .ok () (w.setCell ⟨g, j, none⟩ v) := by
  have := run_storeCells_cells (P := P) g j [v] 0 w (fun i hi => by simp at hi; subst hi; show (w.cell? ⟨g, j, none⟩).isSome = true; rw [B.box j hj]; rfl)
    (fun i hi => by simp at hi; subst hi; exact B.free j hj) (fun u hu => by simp at hu; subst hu; exact h1)
  cases hq : P.info? ty with
  | none => simp [hq] at hi
  | some i =>
    have hs : i.size = 1 := by simpa [hq] using hi
    simp only [Nat.add_zero] at this
    simp [storeVar, sizeOf, typeInfo, hq, hs, hv, this, World.setCells]

theorem wpl_store_cell (hgd : o.guard = none) (ty : TypeId) (x y : Operand) (ho : o.op = .store ty x y) (g j : Nat) (v : Value) (hx : a.eval x = .pointer (some ⟨g, j, none⟩)) (hy : a.eval y = v)
    (hv : v.cells = #[v]) (h1 : v.oneCell' = true) (hi : (P.info? ty).map (·.size) = some 1) {cs : List Value} (B : BoxF w g cs) (hj : j < cs.length)
    (h : ∀ w', BoxF w' g (cs.set j v) → On g w w' → wpList P ops Q rest (a.put o.dst undef) w') : wpList P ops Q (o :: rest) a w := by
  refine wpList_plain hgd fun K hK => ?_
  unfold Oper.wp execOp
  simp only [ho, hx, hy, Instr.storeAt, Instr.sureAddr, Sem.run_bind, Sem.run_pure, Result.andThen_ok, run_store_cell ty g j v hv h1 hi B hj]
  exact hK _ _ (h _ (B.set j v) ((On.refl g w).set j v))

theorem wpl_load_box (hgd : o.guard = none) (ty : TypeId) (x : Operand) (ho : o.op = .load ty x) (g : Nat) (hx : a.eval x = .pointer (some ⟨g, 0, none⟩)) {cs : List Value} {d : TypeDesc} (B : BoxF w g cs)
    (hu : P.underlying ty = some d) (hd : d.isRow = true) (hi : (P.info? ty).map (·.size) = some cs.length)
    (h : wpList P ops Q rest (a.put o.dst (.agg cs.toArray)) w) : wpList P ops Q (o :: rest) a w :=
  wpList_load_mid hgd ty x ho g 0 hx cs d B.box.range hu hd hi h

theorem wpl_bytes (hT : BT P) (s : ByteArray) (hn : s.size ≤ maxLen) (hgd : o.guard = none) (x : Operand) (ho : o.op = .convert 9 22 x) (hx : a.eval x = .string s)
    (h : ∀ A m c w', Rd w' (.slice A m c) s.data.toList → (Value.slice A m c).ownBlock = some w.heap.size → Ext w w' → wpList P ops Q rest (a.put o.dst (.slice A m c)) w') : wpList P ops Q (o :: rest) a w := by
  have hr := Lib.run_convert_string_bytes (P := P) w 9 22 5 s hT.st hT.sl hT.el
  refine wpl_val hgd (v := .slice (some ⟨w.heap.size, 0, none⟩) s.size (grownCap w s.size 0 5)) (w' := Lib.bytesWorld w 5 s) ?_ (h _ _ _ _ ?_ rfl ?_)
  · unfold execOp
    simp only [ho, hx, hr, Sem.run_bind, Sem.run_pure, Result.andThen_ok]
  · refine ⟨_, _, by rw [size_toList], by rw [size_toList]; exact grownCap_ge _ _ _ _, grownCap_le_maxLen _ _ _ _ hn, (fun h => by cases h), fun _ => ⟨_, 0, rfl, fun j hj => ?_⟩⟩
    rw [size_toList] at hj
    rw [Nat.zero_add]
    exact Lib.bytesWorld_cell w 5 s j hj
  · exact ⟨rfl, rfl, rfl, by rw [Lib.bytesWorld_size]; omega, fun k hk => Lib.bytesWorld_at_old w 5 s k hk⟩

theorem ret_box {fn : Func} {R : Ending → World → Prop} {p u : Tmp} {ty : TypeId} {g : Nat} {cs : List Value} {d : TypeDesc} {r : Value} (h : fn.results = #[.cell p ty, .tmp u]) (hd : a.defers = [])
    (hp : a.tmps.getD p undef = .pointer (some ⟨g, 0, none⟩)) (hr : a.tmps.getD u undef = r) (B : BoxF w g cs) (hu : P.underlying ty = some d) (hrow : d.isRow = true) (hi : (P.info? ty).map (·.size) = some cs.length)
    (hR : R (.returned (.tuple #[.agg cs.toArray, r])) w) : bodyPost P fn R .ret a w := by
  refine bodyPost_ret (v := .tuple #[.agg cs.toArray, r]) ?_ hd hR
  rw [results_cell_tmp h, hp, hr]
  simp only [asAddr, Sem.run_pure, Result.andThen_ok, run_loadVar_mid w g 0 ty cs d B.box.range hu hrow hi]
end
end Go.Proofs.YtbodppfpmpmadaaGreat

namespace Go.Proofs.YtbodppfpmpmadaaGreat
open Go.RowKit

def checkC (c : Int) : Int := if bits .and .u32 c 565760 == 565760 then 0 else 5
theorem needed_c (w : World) : Calls Tryz.prog 91 #[] w fun e w' => e = .returned (.int .u32 565760) ∧ w = w' := by
  go_enter Tryz.func91, Tryz.ntmps91
  go_wp2_with fail
  go_ret
  exact ⟨rfl, rfl⟩
theorem capsCheck_c (w : World) (c : Int) : Calls Tryz.prog 56 #[.int .u32 c] w fun e w' => e = .returned (.int .i64 (checkC c)) ∧ w = w' := by
  obtain ⟨m, hm⟩ : ∃ m, bits .and .u32 c 565760 = m := ⟨_, rfl⟩
  unfold checkC
  rw [hm]
  by_cases h : m = 565760
  · subst h
    go_enter Tryz.func56, Tryz.ntmps56
    go_wp2_with (go_at_call 91; refine (needed_c _).mono ?_; rintro e wx ⟨rfl, rfl⟩)
    go_ret
    exact ⟨rfl, rfl⟩
  · have hb : (m == 565760) = false := by simp [h]
    have hn : (m != 565760) = true := by simp [h]
    rw [hb]
    go_enter Tryz.func56, Tryz.ntmps56
    go_wp2_with (go_at_call 91; refine (needed_c _).mono ?_; rintro e wx ⟨rfl, rfl⟩)
    go_ret
    exact ⟨rfl, rfl⟩

def hangsL : List Value := [.int .u32 29294760, .int .u32 512, .int .u32 3145728, .int .u32 524288, .int .u32 65536, .int .u32 131072]
theorem hangs_c (w : World) : Calls Tryz.prog 155 #[] w fun e w' => ∃ g, e = .returned (.slice (some ⟨g, 0, none⟩) 3 3) ∧ Box w' g hangsL ∧ Ext w w' := by
  go_enter Tryz.func155, Tryz.ntmps155
  go_wp2_with fail
  go_ret
  exact ⟨_, rfl, Box.new w hangsL _, (Ext.refl w).alloc _⟩
def dropC (c mask on : Int) : Int := if bits .and .u32 c on == 0 then bits .andNot .u32 c mask else c
def bothK (c : Int) : Nat → Int
  | 0 => c
  | 1 => dropC c 29294760 512
  | 2 => dropC (dropC c 29294760 512) 3145728 524288
  | _ => dropC (dropC (dropC c 29294760 512) 3145728 524288) 65536 131072
def bothC (s c : Int) : Int := bothK (bits .and .u32 s c) 3
set_option maxHeartbeats 1000000 in
theorem both_c (w : World) (s c : Int) : Calls Tryz.prog 100 #[.int .u32 s, .int .u32 c] w fun e w' => e = .returned (.int .u32 (bothC s c)) ∧ Ext w w' := by
  obtain ⟨m, hm⟩ : ∃ m, bits .and .u32 s c = m := ⟨_, rfl⟩
  unfold bothC
  rw [hm]
  go_enter Tryz.func100, Tryz.ntmps100
  go_wp2_with (go_at_call 155; refine (hangs_c _).mono ?_; rintro e w1 ⟨g, rfl, hb1, hx1⟩)
  have HB := Lib.hid hb1
  have HX := Lib.hid hx1
  clear hb1 hx1 hm
  go_loopw [5, 7, 13] (fun v _ i W => ∃ k : Nat, k ≤ 3 ∧ i = .int .i64 k ∧ v = .int .u32 (bothK m k) ∧ Ext w1 W) (fun _ _ i _ => 3 - (intOf i).toNat)
  case atStart => exact ⟨0, by omega, rfl, rfl, Ext.refl _⟩
  case round =>
    obtain ⟨k, hk, rfl, rfl, hx⟩ := hrel
    have B := HB.out.ext hx
    have p0 : wr.cell? ⟨g, 0, none⟩ = some (.int .u32 29294760) := B 0 (by decide)
    have p1 : wr.cell? ⟨g, 1, none⟩ = some (.int .u32 512) := B 1 (by decide)
    have p2 : wr.cell? ⟨g, 2, none⟩ = some (.int .u32 3145728) := B 2 (by decide)
    have p3 : wr.cell? ⟨g, 3, none⟩ = some (.int .u32 524288) := B 3 (by decide)
    have p4 : wr.cell? ⟨g, 4, none⟩ = some (.int .u32 65536) := B 4 (by decide)
    have p5 : wr.cell? ⟨g, 5, none⟩ = some (.int .u32 131072) := B 5 (by decide)
    clear B
    have hc : k = 0 ∨ k = 1 ∨ k = 2 ∨ k = 3 := by omega
    rcases hc with rfl | rfl | rfl | rfl
    · obtain ⟨v0, hv0⟩ : ∃ v0, v0 = bothK m 0 := ⟨_, rfl⟩
      have hs : bothK m 1 = if bits .and .u32 v0 512 == 0 then bits .andNot .u32 v0 29294760 else v0 := by rw [hv0]; rfl
      rw [← hv0]
      obtain ⟨a9, ha9⟩ : ∃ a9, bits .and .u32 v0 512 = a9 := ⟨_, rfl⟩
      rw [ha9] at hs
      have HS := Lib.hid hs
      clear hv0 hs
      by_cases h0 : a9 = 0
      · have hq : (a9 == 0) = true := by simp [h0]
        have e : bothK m 1 = bits .andNot .u32 v0 29294760 := by rw [HS.out, hq]; rfl
        have HE := Lib.hid e
        clear e
        go_wp2_with fail
        go_roundw
        case rel => exact ⟨1, by omega, rfl, by rw [HE.out], (by first | exact hx | exact hx.alloc _)⟩
        case measure => simp [intOf]
      · have hq : (a9 == 0) = false := by simp [h0]
        have e : bothK m 1 = v0 := by rw [HS.out, hq]; rfl
        have HE := Lib.hid e
        clear e
        go_wp2_with fail
        go_roundw
        case rel => exact ⟨1, by omega, rfl, by rw [HE.out], (by first | exact hx | exact hx.alloc _)⟩
        case measure => simp [intOf]
    · obtain ⟨v0, hv0⟩ : ∃ v0, v0 = bothK m 1 := ⟨_, rfl⟩
      have hs : bothK m 2 = if bits .and .u32 v0 524288 == 0 then bits .andNot .u32 v0 3145728 else v0 := by rw [hv0]; rfl
      rw [← hv0]
      obtain ⟨a9, ha9⟩ : ∃ a9, bits .and .u32 v0 524288 = a9 := ⟨_, rfl⟩
      rw [ha9] at hs
      have HS := Lib.hid hs
      clear hv0 hs
      by_cases h0 : a9 = 0
      · have hq : (a9 == 0) = true := by simp [h0]
        have e : bothK m 2 = bits .andNot .u32 v0 3145728 := by rw [HS.out, hq]; rfl
        have HE := Lib.hid e
        clear e
        go_wp2_with fail
        go_roundw
        case rel => exact ⟨2, by omega, rfl, by rw [HE.out], (by first | exact hx | exact hx.alloc _)⟩
        case measure => simp [intOf]
      · have hq : (a9 == 0) = false := by simp [h0]
        have e : bothK m 2 = v0 := by rw [HS.out, hq]; rfl
        have HE := Lib.hid e
        clear e
        go_wp2_with fail
        go_roundw
        case rel => exact ⟨2, by omega, rfl, by rw [HE.out], (by first | exact hx | exact hx.alloc _)⟩
        case measure => simp [intOf]
    · obtain ⟨v0, hv0⟩ : ∃ v0, v0 = bothK m 2 := ⟨_, rfl⟩
      have hs : bothK m 3 = if bits .and .u32 v0 131072 == 0 then bits .andNot .u32 v0 65536 else v0 := by rw [hv0]; rfl
      rw [← hv0]
      obtain ⟨a9, ha9⟩ : ∃ a9, bits .and .u32 v0 131072 = a9 := ⟨_, rfl⟩
      rw [ha9] at hs
      have HS := Lib.hid hs
      clear hv0 hs
      by_cases h0 : a9 = 0
      · have hq : (a9 == 0) = true := by simp [h0]
        have e : bothK m 3 = bits .andNot .u32 v0 65536 := by rw [HS.out, hq]; rfl
        have HE := Lib.hid e
        clear e
        go_wp2_with fail
        go_roundw
        case rel => exact ⟨3, by omega, rfl, by rw [HE.out], (by first | exact hx | exact hx.alloc _)⟩
        case measure => simp [intOf]
      · have hq : (a9 == 0) = false := by simp [h0]
        have e : bothK m 3 = v0 := by rw [HS.out, hq]; rfl
        have HE := Lib.hid e
        clear e
        go_wp2_with fail
        go_roundw
        case rel => exact ⟨3, by omega, rfl, by rw [HE.out], (by first | exact hx | exact hx.alloc _)⟩
        case measure => simp [intOf]
    · go_wp2_with fail
      go_ret
      exact ⟨rfl, HX.out.trans hx⟩
end Go.Proofs.YtbodppfpmpmadaaGreat

namespace Go.Proofs.YtbodppfpmpmadaaGreat
open Go.RowKit

theorem rd_cells {w : World} {A : Option Addr} {n cap : Nat} {l : List UInt8} (h : Rd w (.slice A n cap) l) (hn : 0 < n) : ∃ b o, A = some ⟨b, o, none⟩ ∧ n = l.length ∧ ∀ k, k < n → w.cell? ⟨b, o + k, none⟩ = some (.int .u8 ((l.getD k 0).toNat : Int)) := by
  obtain ⟨A', cap', hv, _, _, _, h4⟩ := h
  injection hv with e1 e2 e3
  subst e1 e2
  obtain ⟨b, o, rfl, hc⟩ := h4 (by intro e; subst e; simp at hn)
  exact ⟨b, o, rfl, rfl, hc⟩
theorem getD_of {l : List UInt8} {k : Nat} (h : k < l.length) : l.getD k 0 = l[k] := by rw [List.getD_eq_getElem?_getD, List.getElem?_eq_getElem h]; rfl
theorem not_contains_of {l : List UInt8} {b : UInt8} (h : ∀ j, j < l.length → l.getD j 0 ≠ b) : l.contains b = false := by
  rw [Bool.eq_false_iff]
  intro hc
  have hm := List.contains_iff_mem.1 hc
  obtain ⟨j, hj, e⟩ := List.getElem_of_mem hm
  exact h j hj (by rw [getD_of hj, e])
theorem contains_of {l : List UInt8} {b : UInt8} {k : Nat} (h : k < l.length) (e : l.getD k 0 = b) : l.contains b = true := by
  rw [List.contains_iff_mem, ← e, getD_of h]
  exact List.getElem_mem _

set_option maxHeartbeats 1000000 in
theorem index_c (w : World) (v : Value) (l : List UInt8) (b : UInt8) (hr : Rd w v l) :
    Calls Tryz.prog 151 #[v, .int .u8 (b.toNat : Int)] w fun e w' => (∃ r : Int, e = .returned (.int .i64 r) ∧ l.contains b = decide (0 ≤ r) ∧ -1 ≤ r ∧ r ≤ 9223372036854775807) ∧ Ext w w' := by
  have HR := Lib.hid hr
  obtain ⟨A, cap, rfl, hle, hm, _⟩ := id hr
  obtain ⟨N, hN⟩ : ∃ N, N = l.length := ⟨_, rfl⟩
  rw [← hN] at hle ⊢
  unfold maxLen at hm
  have HN := Lib.hid hN
  obtain ⟨x, hx0⟩ : ∃ x : Int, x = (b.toNat : Int) := ⟨_, rfl⟩
  rw [← hx0]
  have HX0 := Lib.hid hx0
  clear hr hN hx0
  go_enter Tryz.func151, Tryz.ntmps151
  go_wp2_with fail
  go_loopw [5, 8] (fun _ i W => ∃ k : Nat, k ≤ N ∧ i = .int .i64 k ∧ Hid (∀ j, j < k → l.getD j 0 ≠ b) ∧ Ext w W) (fun _ i _ => N - (intOf i).toNat)
  case atStart => exact ⟨0, Nat.zero_le _, rfl, Lib.hid (fun j hj => absurd hj (by omega)), Ext.refl _⟩
  case round =>
    obtain ⟨k, hk, rfl, HA, hx⟩ := hrel
    by_cases hkN : k < N
    · have hbk : (k : Int) < (N : Int) := by omega
      have hr9 := HR.out.ext hx
      rw [← HN.out] at hr9
      obtain ⟨b0, o0, rfl, hn2, hcs⟩ := rd_cells hr9 (by omega)
      have p0 := hcs k hkN
      obtain ⟨y, hy⟩ : ∃ y : Int, y = ((l.getD k 0).toNat : Int) := ⟨_, rfl⟩
      rw [← hy] at p0
      have HY := Lib.hid hy
      have HK := Lib.hid (show k < l.length by have := HN.out; omega)
      clear hr9 hn2 hcs hy
      by_cases he : x = y
      · have hq : (x == y) = true := by simp [he]
        have hc : l.contains b = true := contains_of HK.out (by have h1 := HX0.out; have h2 := HY.out; apply UInt8.toNat_inj.1; omega)
        have HC := Lib.hid hc
        have HE := Lib.hid he
        clear he hc
        go_wp2_with fail
        go_ret
        exact ⟨⟨_, rfl, by rw [HC.out]; simp, by omega, by omega⟩, hx⟩
      · have hq : (x == y) = false := by simp [he]
        have hne : l.getD k 0 ≠ b := fun e9 => he (by rw [HX0.out, HY.out, e9])
        have HE := Lib.hid hne
        clear he hne
        go_wp2_with fail
        go_roundw
        case rel => exact ⟨k + 1, by omega, by go_num, Lib.hid (fun j hj => by rcases Nat.lt_succ_iff_lt_or_eq.1 hj with h | h; exact HA.out j h; subst h; exact HE.out), hx⟩
        case measure => simp [intOf]; omega
    · obtain rfl : k = N := by omega
      have hc : l.contains b = false := not_contains_of (fun j hj => HA.out j (by have := HN.out; omega))
      have HC := Lib.hid hc
      clear hc
      go_wp2_with fail
      go_ret
      exact ⟨⟨_, rfl, by rw [HC.out]; rfl, by omega, by omega⟩, hx⟩
theorem contains_c (w : World) (v : Value) (l : List UInt8) (b : UInt8) (hr : Rd w v l) :
    Calls Tryz.prog 94 #[v, .int .u8 (b.toNat : Int)] w fun e w' => e = .returned (.bool (l.contains b)) ∧ Ext w w' := by
  have HR := Lib.hid hr
  obtain ⟨A, cap, rfl, _⟩ := hr
  obtain ⟨q, hq⟩ : ∃ q, q = l.contains b := ⟨_, rfl⟩
  rw [← hq]
  have HQ := Lib.hid hq
  clear hq
  go_enter Tryz.func94, Tryz.ntmps94
  go_wp2_with (go_at_call 151; refine (index_c _ _ l b HR.out).mono ?_; rintro e w1 ⟨⟨r, rfl, hr1, _, _⟩, hx1⟩)
  go_ret
  exact ⟨congrArg (fun z => Ending.returned (.bool z)) (by rw [HQ.out, hr1]), hx1⟩
end Go.Proofs.YtbodppfpmpmadaaGreat

namespace Go.Proofs.YtbodppfpmpmadaaGreat
open Go.ChangeShapes Go.WideShapes Go.ChangeAt Go.RowKit

section
variable {H : Type} {enc : TypeId × Value → H} {P : Program} {w : World} {base : Nat} {spare : Nat → Bool} {held : Bool} {r : Reach} {b0 : Nat}

theorem addr_spot {w : World} {x : Addr} {u : Value} (h : w.cell? x = some u) : ∃ b o, x = ⟨b, o, none⟩ := by
  obtain ⟨b, o, sp⟩ := x
  cases sp with
  | none => exact ⟨b, o, rfl⟩
  | some s =>
    unfold World.cell? at h
    split at h <;> simp at h

theorem rd_arg {v : Value} {d : DataW H} {p : List MemPlace} (hT : BT P) (hc : P.cellsOf 5 = 1)
    (hv : Value.okWide P w r b0 22 v) (h : DataW.Trod enc P w 0 (fun _ => true) true 22 v d p) : ∃ l : List UInt8, Rd w v l := by
  obtain ⟨a, len, cap, rfl⟩ := okWide_slice hT.sl hv
  obtain ⟨fuel, hf⟩ := h
  rcases open_ints hT.sl hT.el hc hf with ⟨hcs, _⟩ | ⟨x, l, c, zs, hcs, _, hl, hm, hz, _, hcell, hwz⟩
  · simp [Value.cells] at hcs
    obtain ⟨rfl, rfl, rfl⟩ := hcs
    exact ⟨[], Rd.nil w⟩
  · simp [Value.cells] at hcs
    obtain ⟨rfl, rfl, rfl⟩ := hcs
    obtain ⟨l, hl, _⟩ := rd_of (w := w) (a := some x) (len := len) (cap := cap) (zs := zs) (.inr ⟨x, rfl, hl, hm, by simpa using hz, hcell, hwz⟩)
    exact ⟨l, hl⟩
end
end Go.Proofs.YtbodppfpmpmadaaGreat

namespace Go.Proofs.YtbodppfpmpmadaaGreat
open Go.ChangeShapes Go.WideShapes Go.ChangeAt Go.RowKit

section
variable {H : Type} {enc : TypeId × Value → H} {P : Program} {w : World} {base : Nat} {spare : Nat → Bool} {held : Bool} {r : Reach} {b0 : Nat}

theorem field_at {t : TypeId} {fs : Array Field} {fuel : Nat} {cs : List Value} {x : DataW H × List MemPlace} (ht : P.underlying t = some (.struct fs)) (h : DataW.trod enc P w base spare held fuel t cs = some x)
    (i : Nat) (f : Field) (hf : fs[i]? = some f) (n : Nat) (hn : P.cellsOf f.type = n) : ∃ m y, DataW.trod enc P w base spare held m f.type ((cs.drop f.offset).take n) = some y := by
  obtain ⟨xs, m, _, _, _, hlen, hg⟩ := DataW.trod_struct ht h
  obtain ⟨hi, _⟩ := Array.getElem?_eq_some_iff.1 hf
  have h1 := hg i f hf
  rw [hn, List.getElem?_eq_getElem (by omega)] at h1
  exact ⟨m, _, h1⟩

theorem leaf_rd (hT : BT P) (hc : P.cellsOf 5 = 1) {fuel : Nat} {cs : List Value} {x : DataW H × List MemPlace} (h : DataW.trod enc P w 0 (fun _ => true) true fuel 22 cs = some x) :
    ∃ v l, cs = [v] ∧ Rd w v l := by
  rcases open_ints hT.sl hT.el hc h with ⟨hcs, _⟩ | ⟨x, l, c, zs, hcs, _, hl, hm, hz, _, hcell, hwz⟩
  · exact ⟨_, [], hcs, Rd.nil w⟩
  · obtain ⟨l', hl', _⟩ := rd_of (w := w) (a := some x) (len := l) (cap := c) (zs := zs) (.inr ⟨x, rfl, hl, hm, by simpa using hz, hcell, hwz⟩)
    exact ⟨_, l', hcs, hl'⟩
theorem leaf_str {t : TypeId} (ht : P.underlying t = some .string) {fuel : Nat} {cs : List Value} {x : DataW H × List MemPlace} (h : DataW.trod enc P w base spare held fuel t cs = some x) : ∃ s : ByteArray, cs = [.string s] ∧ s.size ≤ maxLen := by
  obtain ⟨s, h1, _, h2⟩ := DataW.trod_string ht h
  exact ⟨s, h1, h2⟩
theorem leaf_bool {t : TypeId} (ht : P.underlying t = some .bool) {fuel : Nat} {cs : List Value} {x : DataW H × List MemPlace} (h : DataW.trod enc P w base spare held fuel t cs = some x) : ∃ b, cs = [.bool b] := by
  obtain ⟨s, h1, _⟩ := DataW.trod_bool ht h
  exact ⟨s, h1⟩
theorem leaf_int {t : TypeId} {k : IntKind} (ht : P.underlying t = some (.int k)) {fuel : Nat} {cs : List Value} {x : DataW H × List MemPlace} (h : DataW.trod enc P w base spare held fuel t cs = some x) : ∃ n, cs = [.int k n] ∧ (Lit.int k n).wf = true := by
  obtain ⟨s, h1, _, h2⟩ := DataW.trod_int ht h
  exact ⟨s, h1, h2⟩
end
end Go.Proofs.YtbodppfpmpmadaaGreat

namespace Go.Proofs.YtbodppfpmpmadaaGreat
open Go.RowKit

theorem cloneS_c (w : World) (v : Value) (l : List UInt8) (hr : Rd w v l) (hl : l.length ≤ 100000000) : Calls Tryz.prog 43 #[v] w (RetB w l) := by
  have H := Lib.hid hr
  obtain ⟨A, cap, rfl, hle, hm, hA, hc⟩ := hr
  rcases A with _ | ad
  · have hl0 : l = [] := by
      rcases l with _ | ⟨x, l⟩
      · rfl
      · obtain ⟨b, o, h, _⟩ := hc (by simp)
        cases h
    subst hl0
    clear hc hA
    have hn := fun wx => Lib.run_eql_slice_nil (P := Tryz.prog) wx 22 5 none 0 cap 0 0 Tryz.underlying22
    go_enter Tryz.func43, Tryz.ntmps43
    go_wp2_with fail
    go_ret
    exact ⟨_, rfl, Own.nil _ _, Ext.refl _⟩
  · clear hc hA
    have hn := fun wx => Lib.run_eql_slice_nil (P := Tryz.prog) wx 22 5 (some ad) l.length cap 0 0 Tryz.underlying22
    go_enter Tryz.func43, Tryz.ntmps43
    go_wp2_with (at_builtin; refine wpl_append_rd bt (base := w.heap.size) (l := []) (own_new w #[] [] rfl 0 rfl (by decide) (Nat.le_refl _)) ((H.out).ext ((Ext.refl w).alloc _)) rfl _ _ rfl rfl rfl (by simp; omega) (by simp) ?_; intro v1 w1 ho hb)
    go_ret
    exact ⟨_, rfl, ho, ((Ext.refl w).alloc _).below hb (Nat.le_refl _)⟩

set_option maxHeartbeats 1000000 in
theorem equalS_c (w : World) (va vb : Value) (l m : List UInt8) (ha : Rd w va l) (hb : Rd w vb m) :
    Calls Tryz.prog 139 #[va, vb] w fun e w' => e = .returned (.bool (l == m)) ∧ Ext w w' := by
  have HA := Lib.hid ha
  have HB := Lib.hid hb
  obtain ⟨A, cA, rfl, hle, hmA, _⟩ := id ha
  obtain ⟨B, cB, rfl, _⟩ := id hb
  obtain ⟨N, hN⟩ : ∃ N, N = l.length := ⟨_, rfl⟩
  obtain ⟨M, hM⟩ : ∃ M, M = m.length := ⟨_, rfl⟩
  obtain ⟨q, hq⟩ : ∃ q, q = (l == m) := ⟨_, rfl⟩
  rw [← hN, ← hM, ← hq]
  rw [← hN] at hle
  unfold maxLen at hmA
  have HN := Lib.hid hN
  have HM := Lib.hid hM
  have HQ := Lib.hid hq
  clear ha hb hN hM hq
  by_cases hNM : N = M
  · subst hNM
    go_enter Tryz.func139, Tryz.ntmps139
    go_wp2_with fail
    go_loopw [5, 13] (fun _ i W => ∃ k : Nat, k ≤ N ∧ i = .int .i64 k ∧ Hid (∀ j, j < k → l.getD j 0 = m.getD j 0) ∧ Ext w W) (fun _ i _ => N - (intOf i).toNat)
    case atStart => exact ⟨0, Nat.zero_le _, rfl, Lib.hid (fun j hj => absurd hj (by omega)), Ext.refl _⟩
    case round =>
      obtain ⟨k, hk, rfl, HK, hx⟩ := hrel
      by_cases hkN : k < N
      · have hbk : (k : Int) < (N : Int) := by omega
        have hr9 := HA.out.ext hx
        rw [← HN.out] at hr9
        obtain ⟨b0, o0, rfl, _, hcs⟩ := rd_cells hr9 (by omega)
        have hs9 := HB.out.ext hx
        rw [← HM.out] at hs9
        obtain ⟨b1, o1, rfl, _, hds⟩ := rd_cells hs9 (by omega)
        have p0 := hcs k hkN
        have q0 := hds k hkN
        obtain ⟨x, hx1⟩ : ∃ x : Int, x = ((l.getD k 0).toNat : Int) := ⟨_, rfl⟩
        obtain ⟨y, hy1⟩ : ∃ y : Int, y = ((m.getD k 0).toNat : Int) := ⟨_, rfl⟩
        rw [← hx1] at p0
        rw [← hy1] at q0
        have HX := Lib.hid hx1
        have HY := Lib.hid hy1
        clear hr9 hs9 hcs hds hx1 hy1
        by_cases he : x = y
        · have hqn : (x != y) = false := by simp [he]
          have hne : l.getD k 0 = m.getD k 0 := by apply UInt8.toNat_inj.1; have h1 := HX.out; have h2 := HY.out; omega
          have HE := Lib.hid hne
          clear he hne
          go_wp2_with fail
          (try dsimp only [Act.put])
          go_quiet (fail)
          go_wp2_with fail
          go_roundw
          case rel => exact ⟨k + 1, by omega, by go_num, Lib.hid (fun j hj => by rcases Nat.lt_succ_iff_lt_or_eq.1 hj with h | h; exact HK.out j h; subst h; exact HE.out), hx.drewN _⟩
          case measure => simp [intOf]; omega
        · have hqn : (x != y) = true := by simp [he]
          have hf : q = false := by
            rw [HQ.out, beq_eq_false_iff_ne]
            intro e9
            rw [e9] at HX
            exact he (by rw [HX.out, HY.out])
          subst hf
          clear he
          go_wp2_with fail
          (try dsimp only [Act.put])
          go_quiet (fail)
          go_wp2_with fail
          go_ret
          exact ⟨rfl, hx.drewN _⟩
      · obtain rfl : k = N := by omega
        have ht : q = true := by
          rw [HQ.out, beq_iff_eq]
          refine List.ext_getElem (by rw [← HN.out, ← HM.out]) (fun j h1 h2 => ?_)
          rw [← getD_of h1, ← getD_of h2]
          exact HK.out j (by have := HN.out; omega)
        subst ht
        go_wp2_with fail
        go_ret
        exact ⟨rfl, hx⟩
  · have hne : ((N : Int) != (M : Int)) = true := by simp; omega
    have hf : q = false := by
      rw [HQ.out, beq_eq_false_iff_ne]
      intro e9
      exact hNM (by rw [HN.out, HM.out, e9])
    subst hf
    go_enter Tryz.func139, Tryz.ntmps139
    go_wp2_with fail
    go_ret
    exact ⟨rfl, Ext.refl _⟩

section
variable {P : Program} {ops : Array Oper} {rest : List Oper} {o : Oper} {a : Act} {w : World} {Q : Exit → Act → World → Prop}
theorem wpl_bytes_g (hT : BT P) (s : ByteArray) (hn : s.size ≤ maxLen) {j : Nat} {b c : Bool} (hg : o.guard = some (j, b)) (hy : yielded ops a.tmps j = some c) (hc : c = b) (x : Operand) (ho : o.op = .convert 9 22 x) (hx : a.eval x = .string s)
    (h : ∀ A m c w', Rd w' (.slice A m c) s.data.toList → Ext w w' → wpList P ops Q rest (a.put o.dst (.slice A m c)) w') : wpList P ops Q (o :: rest) a w :=
  wpList_step fun K hK => by
    have hw : Region.wanted o (yielded ops a.tmps) = true := by
      subst hc
      simp [Region.wanted, hg, hy]
    rw [if_pos hw]
    have hr := Lib.run_convert_string_bytes (P := P) w 9 22 5 s hT.st hT.sl hT.el
    unfold Oper.wp execOp
    simp only [ho, hx, hr, Sem.run_bind, Sem.run_pure, Result.andThen_ok]
    refine hK _ _ (h _ _ _ _ ?_ ?_)
    · refine ⟨_, _, by rw [size_toList], by rw [size_toList]; exact grownCap_ge _ _ _ _, grownCap_le_maxLen _ _ _ _ hn, (fun h => by cases h), fun _ => ⟨_, 0, rfl, fun j hj => ?_⟩⟩
      rw [size_toList] at hj
      rw [Nat.zero_add]
      exact Lib.bytesWorld_cell w 5 s j hj
    · exact ⟨rfl, rfl, rfl, by rw [Lib.bytesWorld_size]; omega, fun k hk => Lib.bytesWorld_at_old w 5 s k hk⟩
end
def plainU (l : List UInt8) : Bool := decide (l.length ≤ 64) && !l.contains 0
set_option maxHeartbeats 1000000 in
theorem plainU_c (w : World) (l : List UInt8) : Calls Tryz.prog 53 #[.string (strL l)] w fun e w' => e = .returned (.bool (plainU l)) ∧ Ext w w' := by
  obtain ⟨t, ht⟩ : ∃ t, t = strL l := ⟨_, rfl⟩
  obtain ⟨q, hq⟩ : ∃ q, q = plainU l := ⟨_, rfl⟩
  have hsz : t.size = l.length := by rw [ht, strL_size]
  rw [← ht, ← hq]
  unfold plainU at hq
  have HT := Lib.hid ht
  by_cases h64 : l.length ≤ 64
  · have hb : (t.size : Int) ≤ 64 := by omega
    have hq2 : q = !l.contains 0 := by rw [hq]; simp [h64]
    have HQ := Lib.hid hq2
    have HS := Lib.hid (show t.size ≤ maxLen by unfold maxLen; omega)
    clear hq hq2 hsz h64 ht
    go_enter Tryz.func53, Tryz.ntmps53
    go_wp2_with (first
      | ((with_reducible show AtS 8); refine wpl_bytes_g bt t HS.out (j := 3) rfl rfl rfl _ rfl rfl ?_; intro A m c w1 hr1 hx1; rw [HT.out, strL_toList] at hr1)
      | (go_at_call 94; refine (contains_c _ _ l 0 hr1).mono ?_; rintro e w2 ⟨rfl, hx2⟩)
      | fail)
    go_ret
    exact ⟨congrArg (fun z => Ending.returned (.bool z)) (by rw [HQ.out]; simp), hx1.trans hx2⟩
  · have hb : ¬ (t.size : Int) ≤ 64 := by omega
    have hf : q = false := by rw [hq]; simp [h64]
    subst hf
    clear hq hsz h64 ht
    go_enter Tryz.func53, Tryz.ntmps53
    go_wp2_with fail
    go_ret
    exact ⟨rfl, Ext.refl _⟩
end Go.Proofs.YtbodppfpmpmadaaGreat

namespace Go.Proofs.YtbodppfpmpmadaaGreat
open Go.RowKit

def rolS (x : Int) (n : Nat) : Int := bits .or .u32 (IntKind.u32.wrap (x * 2 ^ n)) (x / 2 ^ (32 - n))

set_option maxRecDepth 100000 in
theorem rotl_1 (w : World) (x : Int) :
    Calls Tryz.prog 218 #[.int .u32 x, .int .i64 (1)] w fun e w' => e = .returned (.int .u32 (rolS x 1)) ∧ w = w' := by
  have hb : bits .and .u64 1 31 = 1 := by decide
  go_enter Tryz.func218, Tryz.ntmps218
  go_wp2_with fail
  go_ret
  exact ⟨rfl, rfl⟩
theorem rol_1 (w : World) (x : Int) :
    Calls Tryz.prog 213 #[.int .u32 x, .int .u64 1] w fun e w' => e = .returned (.int .u32 (rolS x 1)) ∧ w = w' := by
  go_enter Tryz.func213, Tryz.ntmps213
  go_wp2_with fail
  go_ret
  exact ⟨rfl, rfl⟩

set_option maxRecDepth 100000 in
theorem rotl_5 (w : World) (x : Int) :
    Calls Tryz.prog 218 #[.int .u32 x, .int .i64 (5)] w fun e w' => e = .returned (.int .u32 (rolS x 5)) ∧ w = w' := by
  have hb : bits .and .u64 5 31 = 5 := by decide
  go_enter Tryz.func218, Tryz.ntmps218
  go_wp2_with fail
  go_ret
  exact ⟨rfl, rfl⟩
theorem rol_5 (w : World) (x : Int) :
    Calls Tryz.prog 213 #[.int .u32 x, .int .u64 5] w fun e w' => e = .returned (.int .u32 (rolS x 5)) ∧ w = w' := by
  go_enter Tryz.func213, Tryz.ntmps213
  go_wp2_with fail
  go_ret
  exact ⟨rfl, rfl⟩

set_option maxRecDepth 100000 in
theorem rotl_30 (w : World) (x : Int) :
    Calls Tryz.prog 218 #[.int .u32 x, .int .i64 (30)] w fun e w' => e = .returned (.int .u32 (rolS x 30)) ∧ w = w' := by
  have hb : bits .and .u64 30 31 = 30 := by decide
  go_enter Tryz.func218, Tryz.ntmps218
  go_wp2_with fail
  go_ret
  exact ⟨rfl, rfl⟩
theorem rol_30 (w : World) (x : Int) :
    Calls Tryz.prog 213 #[.int .u32 x, .int .u64 30] w fun e w' => e = .returned (.int .u32 (rolS x 30)) ∧ w = w' := by
  go_enter Tryz.func213, Tryz.ntmps213
  go_wp2_with fail
  go_ret
  exact ⟨rfl, rfl⟩

set_option maxRecDepth 100000 in
theorem rotlm_25 (w : World) (x : Int) :
    Calls Tryz.prog 218 #[.int .u32 x, .int .i64 (-7)] w fun e w' => e = .returned (.int .u32 (rolS x 25)) ∧ w = w' := by
  have hb : bits .and .u64 18446744073709551609 31 = 25 := by decide
  have hw : IntKind.u64.wrap ((-7)) = 18446744073709551609 := by decide
  go_enter Tryz.func218, Tryz.ntmps218
  go_wp2_with fail
  go_ret
  exact ⟨rfl, rfl⟩
theorem ror_25 (w : World) (x : Int) :
    Calls Tryz.prog 219 #[.int .u32 x, .int .i64 7] w fun e w' => e = .returned (.int .u32 (rolS x 25)) ∧ w = w' := by
  go_enter Tryz.func219, Tryz.ntmps219
  go_wp2_with (go_at_call 218; refine (rotlm_25 _ _).mono ?_; rintro e w1 ⟨rfl, rfl⟩)
  go_ret
  exact ⟨rfl, rfl⟩
theorem rol_25 (w : World) (x : Int) :
    Calls Tryz.prog 213 #[.int .u32 x, .int .u64 25] w fun e w' => e = .returned (.int .u32 (rolS x 25)) ∧ w = w' := by
  go_enter Tryz.func213, Tryz.ntmps213
  go_wp2_with fail
  go_ret
  exact ⟨rfl, rfl⟩

set_option maxRecDepth 100000 in
theorem rotlm_14 (w : World) (x : Int) :
    Calls Tryz.prog 218 #[.int .u32 x, .int .i64 (-18)] w fun e w' => e = .returned (.int .u32 (rolS x 14)) ∧ w = w' := by
  have hb : bits .and .u64 18446744073709551598 31 = 14 := by decide
  have hw : IntKind.u64.wrap ((-18)) = 18446744073709551598 := by decide
  go_enter Tryz.func218, Tryz.ntmps218
  go_wp2_with fail
  go_ret
  exact ⟨rfl, rfl⟩
theorem ror_14 (w : World) (x : Int) :
    Calls Tryz.prog 219 #[.int .u32 x, .int .i64 18] w fun e w' => e = .returned (.int .u32 (rolS x 14)) ∧ w = w' := by
  go_enter Tryz.func219, Tryz.ntmps219
  go_wp2_with (go_at_call 218; refine (rotlm_14 _ _).mono ?_; rintro e w1 ⟨rfl, rfl⟩)
  go_ret
  exact ⟨rfl, rfl⟩
theorem rol_14 (w : World) (x : Int) :
    Calls Tryz.prog 213 #[.int .u32 x, .int .u64 14] w fun e w' => e = .returned (.int .u32 (rolS x 14)) ∧ w = w' := by
  go_enter Tryz.func213, Tryz.ntmps213
  go_wp2_with fail
  go_ret
  exact ⟨rfl, rfl⟩

set_option maxRecDepth 100000 in
theorem rotlm_15 (w : World) (x : Int) :
    Calls Tryz.prog 218 #[.int .u32 x, .int .i64 (-17)] w fun e w' => e = .returned (.int .u32 (rolS x 15)) ∧ w = w' := by
  have hb : bits .and .u64 18446744073709551599 31 = 15 := by decide
  have hw : IntKind.u64.wrap ((-17)) = 18446744073709551599 := by decide
  go_enter Tryz.func218, Tryz.ntmps218
  go_wp2_with fail
  go_ret
  exact ⟨rfl, rfl⟩
theorem ror_15 (w : World) (x : Int) :
    Calls Tryz.prog 219 #[.int .u32 x, .int .i64 17] w fun e w' => e = .returned (.int .u32 (rolS x 15)) ∧ w = w' := by
  go_enter Tryz.func219, Tryz.ntmps219
  go_wp2_with (go_at_call 218; refine (rotlm_15 _ _).mono ?_; rintro e w1 ⟨rfl, rfl⟩)
  go_ret
  exact ⟨rfl, rfl⟩
theorem rol_15 (w : World) (x : Int) :
    Calls Tryz.prog 213 #[.int .u32 x, .int .u64 15] w fun e w' => e = .returned (.int .u32 (rolS x 15)) ∧ w = w' := by
  go_enter Tryz.func213, Tryz.ntmps213
  go_wp2_with fail
  go_ret
  exact ⟨rfl, rfl⟩

set_option maxRecDepth 100000 in
theorem rotlm_13 (w : World) (x : Int) :
    Calls Tryz.prog 218 #[.int .u32 x, .int .i64 (-19)] w fun e w' => e = .returned (.int .u32 (rolS x 13)) ∧ w = w' := by
  have hb : bits .and .u64 18446744073709551597 31 = 13 := by decide
  have hw : IntKind.u64.wrap ((-19)) = 18446744073709551597 := by decide
  go_enter Tryz.func218, Tryz.ntmps218
  go_wp2_with fail
  go_ret
  exact ⟨rfl, rfl⟩
theorem ror_13 (w : World) (x : Int) :
    Calls Tryz.prog 219 #[.int .u32 x, .int .i64 19] w fun e w' => e = .returned (.int .u32 (rolS x 13)) ∧ w = w' := by
  go_enter Tryz.func219, Tryz.ntmps219
  go_wp2_with (go_at_call 218; refine (rotlm_13 _ _).mono ?_; rintro e w1 ⟨rfl, rfl⟩)
  go_ret
  exact ⟨rfl, rfl⟩
theorem rol_13 (w : World) (x : Int) :
    Calls Tryz.prog 213 #[.int .u32 x, .int .u64 13] w fun e w' => e = .returned (.int .u32 (rolS x 13)) ∧ w = w' := by
  go_enter Tryz.func213, Tryz.ntmps213
  go_wp2_with fail
  go_ret
  exact ⟨rfl, rfl⟩

set_option maxRecDepth 100000 in
theorem rotlm_26 (w : World) (x : Int) :
    Calls Tryz.prog 218 #[.int .u32 x, .int .i64 (-6)] w fun e w' => e = .returned (.int .u32 (rolS x 26)) ∧ w = w' := by
  have hb : bits .and .u64 18446744073709551610 31 = 26 := by decide
  have hw : IntKind.u64.wrap ((-6)) = 18446744073709551610 := by decide
  go_enter Tryz.func218, Tryz.ntmps218
  go_wp2_with fail
  go_ret
  exact ⟨rfl, rfl⟩
theorem ror_26 (w : World) (x : Int) :
    Calls Tryz.prog 219 #[.int .u32 x, .int .i64 6] w fun e w' => e = .returned (.int .u32 (rolS x 26)) ∧ w = w' := by
  go_enter Tryz.func219, Tryz.ntmps219
  go_wp2_with (go_at_call 218; refine (rotlm_26 _ _).mono ?_; rintro e w1 ⟨rfl, rfl⟩)
  go_ret
  exact ⟨rfl, rfl⟩
theorem rol_26 (w : World) (x : Int) :
    Calls Tryz.prog 213 #[.int .u32 x, .int .u64 26] w fun e w' => e = .returned (.int .u32 (rolS x 26)) ∧ w = w' := by
  go_enter Tryz.func213, Tryz.ntmps213
  go_wp2_with fail
  go_ret
  exact ⟨rfl, rfl⟩

set_option maxRecDepth 100000 in
theorem rotlm_21 (w : World) (x : Int) :
    Calls Tryz.prog 218 #[.int .u32 x, .int .i64 (-11)] w fun e w' => e = .returned (.int .u32 (rolS x 21)) ∧ w = w' := by
  have hb : bits .and .u64 18446744073709551605 31 = 21 := by decide
  have hw : IntKind.u64.wrap ((-11)) = 18446744073709551605 := by decide
  go_enter Tryz.func218, Tryz.ntmps218
  go_wp2_with fail
  go_ret
  exact ⟨rfl, rfl⟩
theorem ror_21 (w : World) (x : Int) :
    Calls Tryz.prog 219 #[.int .u32 x, .int .i64 11] w fun e w' => e = .returned (.int .u32 (rolS x 21)) ∧ w = w' := by
  go_enter Tryz.func219, Tryz.ntmps219
  go_wp2_with (go_at_call 218; refine (rotlm_21 _ _).mono ?_; rintro e w1 ⟨rfl, rfl⟩)
  go_ret
  exact ⟨rfl, rfl⟩
theorem rol_21 (w : World) (x : Int) :
    Calls Tryz.prog 213 #[.int .u32 x, .int .u64 21] w fun e w' => e = .returned (.int .u32 (rolS x 21)) ∧ w = w' := by
  go_enter Tryz.func213, Tryz.ntmps213
  go_wp2_with fail
  go_ret
  exact ⟨rfl, rfl⟩

set_option maxRecDepth 100000 in
theorem rotlm_7 (w : World) (x : Int) :
    Calls Tryz.prog 218 #[.int .u32 x, .int .i64 (-25)] w fun e w' => e = .returned (.int .u32 (rolS x 7)) ∧ w = w' := by
  have hb : bits .and .u64 18446744073709551591 31 = 7 := by decide
  have hw : IntKind.u64.wrap ((-25)) = 18446744073709551591 := by decide
  go_enter Tryz.func218, Tryz.ntmps218
  go_wp2_with fail
  go_ret
  exact ⟨rfl, rfl⟩
theorem ror_7 (w : World) (x : Int) :
    Calls Tryz.prog 219 #[.int .u32 x, .int .i64 25] w fun e w' => e = .returned (.int .u32 (rolS x 7)) ∧ w = w' := by
  go_enter Tryz.func219, Tryz.ntmps219
  go_wp2_with (go_at_call 218; refine (rotlm_7 _ _).mono ?_; rintro e w1 ⟨rfl, rfl⟩)
  go_ret
  exact ⟨rfl, rfl⟩
theorem rol_7 (w : World) (x : Int) :
    Calls Tryz.prog 213 #[.int .u32 x, .int .u64 7] w fun e w' => e = .returned (.int .u32 (rolS x 7)) ∧ w = w' := by
  go_enter Tryz.func213, Tryz.ntmps213
  go_wp2_with fail
  go_ret
  exact ⟨rfl, rfl⟩

set_option maxRecDepth 100000 in
theorem rotlm_30 (w : World) (x : Int) :
    Calls Tryz.prog 218 #[.int .u32 x, .int .i64 (-2)] w fun e w' => e = .returned (.int .u32 (rolS x 30)) ∧ w = w' := by
  have hb : bits .and .u64 18446744073709551614 31 = 30 := by decide
  have hw : IntKind.u64.wrap ((-2)) = 18446744073709551614 := by decide
  go_enter Tryz.func218, Tryz.ntmps218
  go_wp2_with fail
  go_ret
  exact ⟨rfl, rfl⟩
theorem ror_30 (w : World) (x : Int) :
    Calls Tryz.prog 219 #[.int .u32 x, .int .i64 2] w fun e w' => e = .returned (.int .u32 (rolS x 30)) ∧ w = w' := by
  go_enter Tryz.func219, Tryz.ntmps219
  go_wp2_with (go_at_call 218; refine (rotlm_30 _ _).mono ?_; rintro e w1 ⟨rfl, rfl⟩)
  go_ret
  exact ⟨rfl, rfl⟩
set_option maxRecDepth 100000 in
theorem rotlm_19 (w : World) (x : Int) :
    Calls Tryz.prog 218 #[.int .u32 x, .int .i64 (-13)] w fun e w' => e = .returned (.int .u32 (rolS x 19)) ∧ w = w' := by
  have hb : bits .and .u64 18446744073709551603 31 = 19 := by decide
  have hw : IntKind.u64.wrap ((-13)) = 18446744073709551603 := by decide
  go_enter Tryz.func218, Tryz.ntmps218
  go_wp2_with fail
  go_ret
  exact ⟨rfl, rfl⟩
theorem ror_19 (w : World) (x : Int) :
    Calls Tryz.prog 219 #[.int .u32 x, .int .i64 13] w fun e w' => e = .returned (.int .u32 (rolS x 19)) ∧ w = w' := by
  go_enter Tryz.func219, Tryz.ntmps219
  go_wp2_with (go_at_call 218; refine (rotlm_19 _ _).mono ?_; rintro e w1 ⟨rfl, rfl⟩)
  go_ret
  exact ⟨rfl, rfl⟩
theorem rol_19 (w : World) (x : Int) :
    Calls Tryz.prog 213 #[.int .u32 x, .int .u64 19] w fun e w' => e = .returned (.int .u32 (rolS x 19)) ∧ w = w' := by
  go_enter Tryz.func213, Tryz.ntmps213
  go_wp2_with fail
  go_ret
  exact ⟨rfl, rfl⟩

set_option maxRecDepth 100000 in
theorem rotlm_10 (w : World) (x : Int) :
    Calls Tryz.prog 218 #[.int .u32 x, .int .i64 (-22)] w fun e w' => e = .returned (.int .u32 (rolS x 10)) ∧ w = w' := by
  have hb : bits .and .u64 18446744073709551594 31 = 10 := by decide
  have hw : IntKind.u64.wrap ((-22)) = 18446744073709551594 := by decide
  go_enter Tryz.func218, Tryz.ntmps218
  go_wp2_with fail
  go_ret
  exact ⟨rfl, rfl⟩
theorem ror_10 (w : World) (x : Int) :
    Calls Tryz.prog 219 #[.int .u32 x, .int .i64 22] w fun e w' => e = .returned (.int .u32 (rolS x 10)) ∧ w = w' := by
  go_enter Tryz.func219, Tryz.ntmps219
  go_wp2_with (go_at_call 218; refine (rotlm_10 _ _).mono ?_; rintro e w1 ⟨rfl, rfl⟩)
  go_ret
  exact ⟨rfl, rfl⟩
theorem rol_10 (w : World) (x : Int) :
    Calls Tryz.prog 213 #[.int .u32 x, .int .u64 10] w fun e w' => e = .returned (.int .u32 (rolS x 10)) ∧ w = w' := by
  go_enter Tryz.func213, Tryz.ntmps213
  go_wp2_with fail
  go_ret
  exact ⟨rfl, rfl⟩

end Go.Proofs.YtbodppfpmpmadaaGreat

