import Derived.Test.YtbodppfpmpmadaaGreatL1C
import Derived.Laws.ResultCell
import Derived.Deep.QuietTactic
import Derived.BigQuiet
import Derived.ProofKit
import Derived.SliceStrings
import Derived.Deep.CutRange
import Derived.Lib.BytesEntry
namespace Go.Proofs.YtbodppfpmpmadaaGreat
open Go.RowKit

structure BoxF (W : World) (g : Nat) (cs : List Value) : Prop where
  box : Box W g cs
  free : ∀ j, j < cs.length → W.frozen? ⟨g, j, none⟩ = false
  lt : g < W.heap.size

theorem BoxF.new (w : World) (cs : List Value) (t : TypeId) : BoxF (w.alloc (.cells cs.toArray t)) w.heap.size cs := ⟨Box.new w cs t, fun j _ => World.frozen?_alloc_new _ _ _ _, by simp⟩
theorem BoxF.ext {W W' : World} {g : Nat} {cs : List Value} (h : BoxF W g cs) (k : Ext W W') : BoxF W' g cs :=
  ⟨h.box.ext k, fun j hj => (k.frozen h.lt).trans (h.free j hj), Nat.lt_of_lt_of_le h.lt (Ext.size k)⟩
theorem BoxF.on {W W' : World} {g b : Nat} {cs : List Value} (h : BoxF W g cs) (k : On b W W') (hne : g ≠ b) : BoxF W' g cs :=
  ⟨h.box.on k hne, fun j hj => k.frozen (h.free j hj) h.lt hne, Nat.lt_of_lt_of_le h.lt k.size⟩
theorem BoxF.there {W : World} {g : Nat} {cs : List Value} (h : BoxF W g cs) : W.there g 0 cs.length := fun j hj => by
  rw [Nat.zero_add]
  exact ⟨by rw [h.box j hj]; rfl, h.free j hj⟩
theorem On.sets {g : Nat} (W : World) (o : Nat) (vs : List Value) : On g W (W.setCells g o vs) := by
  induction vs generalizing o W with
  | nil => exact On.refl g W
  | cons v r ih => exact ((On.refl g W).set o v).trans (ih _ _)
theorem BoxF.sets {W : World} {g : Nat} {cs ds : List Value} (h : BoxF W g cs) (hl : cs.length = ds.length) : BoxF (W.setCells g 0 ds) g ds := by
  refine ⟨fun j hj => ?_, fun j hj => ?_, Nat.lt_of_lt_of_le h.lt (On.sets W 0 ds).size⟩
  · have := World.cell?_setCells_in g ds 0 W (fun j hj => (h.there j (by omega)).1) j hj
    rw [Nat.zero_add] at this
    rw [this, List.getD_eq_getElem?_getD, List.getElem?_eq_getElem hj]
    rfl
  · rw [World.frozen?_setCells]
    exact h.free j (by omega)
theorem BoxF.set {W : World} {g : Nat} {cs : List Value} (h : BoxF W g cs) (j : Nat) (u : Value) : BoxF (W.setCell ⟨g, j, none⟩ u) g (cs.set j u) := by
  refine ⟨fun i hi => ?_, fun i hi => ?_, by simpa [World.setCell] using h.lt⟩
  · rw [List.length_set] at hi
    by_cases e : j = i
    · subst e
      rw [World.cell?_setCell_same _ _ _ (h.box j hi), List.getD_eq_getElem?_getD, List.getElem?_set_self hi]
      rfl
    · rw [World.cell?_setCell_other _ _ _ _ (by simp), h.box i hi, List.getD_eq_getElem?_getD, List.getD_eq_getElem?_getD, List.getElem?_set_ne e]
  · rw [World.frozen?_setCell]
    rw [List.length_set] at hi
    exact h.free i hi
theorem BoxF.at {W : World} {g j : Nat} {cs : List Value} {v : Value} (h : BoxF W g cs) (hv : cs[j]? = some v) : W.cell? ⟨g, j, none⟩ = some v := by
  obtain ⟨hj, hv'⟩ := List.getElem?_eq_some_iff.1 hv
  rw [h.box j hj, List.getD_eq_getElem?_getD, hv]
  rfl

section
variable {P : Program} {ops : Array Oper} {rest : List Oper} {o : Oper} {a : Act} {w : World} {Q : Exit → Act → World → Prop} {K : Act → World → Prop} {E : Prop}

theorem wpl_store_box (hgd : o.guard = none) (ty : TypeId) (x y : Operand) (ho : o.op = .store ty x y) (g : Nat) (ds : List Value) (hx : a.eval x = .pointer (some ⟨g, 0, none⟩)) (hy : a.eval y = .agg ds.toArray)
    {cs : List Value} (B : BoxF w g cs) (hl : cs.length = ds.length) (hi : (P.info? ty).map (·.size) = some ds.length) (h1 : ds.all (·.oneCell') = true)
    (h : ∀ w', BoxF w' g ds → On g w w' → wpList P ops Q rest (a.put o.dst undef) w') : wpList P ops Q (o :: rest) a w :=
  wpList_store_mid hgd ty x y ho g 0 ds.toArray hx hy (by have := B.there; rwa [hl] at this) (by simpa using hi) (by simpa using h1) (h _ (by simpa using B.sets hl) (On.sets w 0 _))

theorem run_store_cell (ty : TypeId) (g j : Nat) (v : Value) (hv : v.cells = #[v]) (h1 : v.oneCell' = true) (hi : (P.info? ty).map (·.size) = some 1) {cs : List Value} (B : BoxF w g cs) (hj : j < cs.length) :
    (storeVar ty ⟨g, j, none⟩ v).run P w = .ok () (w.setCell ⟨g, j, none⟩ v) := by
  have := run_storeCells_cells (P := P) g j [v] 0 w (fun i hi => by simp at hi; subst hi; show (w.cell? ⟨g, j, none⟩).isSome = true; rw [B.box j hj]; rfl)
    (fun i hi => by simp at hi; subst hi; exact B.free j hj) (fun u hu => by simp at hu; subst hu; exact h1)
  cases hq : P.info? ty with
  | none => simp [hq] at hi
  | some i =>
    have hs : i.size = 1 := by simpa [hq] using hi
    simp only [Nat.add_zero] at this
    simp [storeVar, sizeOf, typeInfo, hq, hs, hv, this, World.setCells]

theorem wpl_store_cell (hgd : o.guard = none) (ty : TypeId) (x y : Operand) (ho : o.op = .store ty x y) (g j : Nat) (v : Value) (hx : a.eval x = .pointer (some ⟨g, j, none⟩)) (hy : a.eval y = v)
    (hv : v.cells = #[v]) (h1 : v.oneCell' = true) (hi : (P.info? ty).map (·.size) = some 1) {cs : List Value} (B : BoxF w g cs) (hj : j < cs.length)
    (h : ∀ w', BoxF w' g (cs.set j v) → On g w w' → wpList P ops Q rest (a.put o.dst undef) w') : wpList P ops Q (o :: rest) a w := by
  refine wpList_plain hgd fun K hK => ?_
  unfold Oper.wp execOp
  simp only [ho, hx, hy, Instr.storeAt, Instr.sureAddr, Sem.run_bind, Sem.run_pure, Result.andThen_ok, run_store_cell ty g j v hv h1 hi B hj]
  exact hK _ _ (h _ (B.set j v) ((On.refl g w).set j v))

theorem wpl_load_box (hgd : o.guard = none) (ty : TypeId) (x : Operand) (ho : o.op = .load ty x) (g : Nat) (hx : a.eval x = .pointer (some ⟨g, 0, none⟩)) {cs : List Value} {d : TypeDesc} (B : BoxF w g cs)
    (hu : P.underlying ty = some d) (hd : d.isRow = true) (hi : (P.info? ty).map (·.size) = some cs.length)
    (h : wpList P ops Q rest (a.put o.dst (.agg cs.toArray)) w) : wpList P ops Q (o :: rest) a w :=
  wpList_load_mid hgd ty x ho g 0 hx cs d B.box.range hu hd hi h

theorem wpl_bytes (hT : BT P) (s : ByteArray) (hn : s.size ≤ maxLen) (hgd : o.guard = none) (x : Operand) (ho : o.op = .convert 9 22 x) (hx : a.eval x = .string s)
    (h : ∀ A m c w', Rd w' (.slice A m c) s.data.toList → (Value.slice A m c).ownBlock = some w.heap.size → Ext w w' → wpList P ops Q rest (a.put o.dst (.slice A m c)) w') : wpList P ops Q (o :: rest) a w := by
  have hr := Lib.run_convert_string_bytes (P := P) w 9 22 5 s hT.st hT.sl hT.el
  refine wpl_val hgd (v := .slice (some ⟨w.heap.size, 0, none⟩) s.size (grownCap w s.size 0 5)) (w' := Lib.bytesWorld w 5 s) ?_ (h _ _ _ _ ?_ rfl ?_)
  · unfold execOp
    simp only [ho, hx, hr, Sem.run_bind, Sem.run_pure, Result.andThen_ok]
  · refine ⟨_, _, by rw [size_toList], by rw [size_toList]; exact grownCap_ge _ _ _ _, grownCap_le_maxLen _ _ _ _ hn, (fun h => by cases h), fun _ => ⟨_, 0, rfl, fun j hj => ?_⟩⟩
    rw [size_toList] at hj
    rw [Nat.zero_add]
    exact Lib.bytesWorld_cell w 5 s j hj
  · exact ⟨rfl, rfl, rfl, by rw [Lib.bytesWorld_size]; omega, fun k hk => Lib.bytesWorld_at_old w 5 s k hk⟩

theorem ret_box {fn : Func} {R : Ending → World → Prop} {p u : Tmp} {ty : TypeId} {g : Nat} {cs : List Value} {d : TypeDesc} {r : Value} (h : fn.results = #[.cell p ty, .tmp u]) (hd : a.defers = [])
    (hp : a.tmps.getD p undef = .pointer (some ⟨g, 0, none⟩)) (hr : a.tmps.getD u undef = r) (B : BoxF w g cs) (hu : P.underlying ty = some d) (hrow : d.isRow = true) (hi : (P.info? ty).map (·.size) = some cs.length)
    (hR : R (.returned (.tuple #[.agg cs.toArray, r])) w) : bodyPost P fn R .ret a w := by
  refine bodyPost_ret (v := .tuple #[.agg cs.toArray, r]) ?_ hd hR
  rw [results_cell_tmp h, hp, hr]
  simp only [asAddr, Sem.run_pure, Result.andThen_ok, run_loadVar_mid w g 0 ty cs d B.box.range hu hrow hi]
end
end Go.Proofs.YtbodppfpmpmadaaGreat

namespace Go.Proofs.YtbodppfpmpmadaaGreat
open Go.RowKit

def checkC (c : Int) : Int := if bits .and .u32 c 565760 == 565760 then 0 else 5
theorem needed_c (w : World) : Calls Tryz.prog 91 #[] w fun e w' => e = .returned (.int .u32 565760) ∧ w = w' := by
  go_enter Tryz.func91, Tryz.ntmps91
  go_wp2_with fail
  go_ret
  exact ⟨rfl, rfl⟩
theorem capsCheck_c (w : World) (c : Int) : Calls Tryz.prog 56 #[.int .u32 c] w fun e w' => e = .returned (.int .i64 (checkC c)) ∧ w = w' := by
  obtain ⟨m, hm⟩ : ∃ m, bits .and .u32 c 565760 = m := ⟨_, rfl⟩
  unfold checkC
  rw [hm]
  by_cases h : m = 565760
  · subst h
    go_enter Tryz.func56, Tryz.ntmps56
    go_wp2_with (go_at_call 91; refine (needed_c _).mono ?_; rintro e wx ⟨rfl, rfl⟩)
    go_ret
    exact ⟨rfl, rfl⟩
  · have hb : (m == 565760) = false := by simp [h]
    have hn : (m != 565760) = true := by simp [h]
    rw [hb]
    go_enter Tryz.func56, Tryz.ntmps56
    go_wp2_with (go_at_call 91; refine (needed_c _).mono ?_; rintro e wx ⟨rfl, rfl⟩)
    go_ret
    exact ⟨rfl, rfl⟩

def hangsL : List Value := [.int .u32 29294760, .int .u32 512, .int .u32 3145728, .int .u32 524288, .int .u32 65536, .int .u32 131072]
theorem hangs_c (w : World) : Calls Tryz.prog 155 #[] w fun e w' => ∃ g, e = .returned (.slice (some ⟨g, 0, none⟩) 3 3) ∧ Box w' g hangsL ∧ Ext w w' := by
  go_enter Tryz.func155, Tryz.ntmps155
  go_wp2_with fail
  go_ret
  exact ⟨_, rfl, Box.new w hangsL _, (Ext.refl w).alloc _⟩
def dropC (c mask on : Int) : Int := if bits .and .u32 c on == 0 then bits .andNot .u32 c mask else c
def bothK (c : Int) : Nat → Int
  | 0 => c
  | 1 => dropC c 29294760 512
  | 2 => dropC (dropC c 29294760 512) 3145728 524288
  | _ => dropC (dropC (dropC c 29294760 512) 3145728 524288) 65536 131072
def bothC (s c : Int) : Int := bothK (bits .and .u32 s c) 3
set_option maxHeartbeats 1000000 in
theorem both_c (w : World) (s c : Int) : Calls Tryz.prog 100 #[.int .u32 s, .int .u32 c] w fun e w' => e = .returned (.int .u32 (bothC s c)) ∧ Ext w w' := by
  obtain ⟨m, hm⟩ : ∃ m, bits .and .u32 s c = m := ⟨_, rfl⟩
  unfold bothC
  rw [hm]
  go_enter Tryz.func100, Tryz.ntmps100
  go_wp2_with (go_at_call 155; refine (hangs_c _).mono ?_; rintro e w1 ⟨g, rfl, hb1, hx1⟩)
  have HB := Lib.hid hb1
  have HX := Lib.hid hx1
  clear hb1 hx1 hm
  go_loopw [5, 7, 13] (fun v _ i W => ∃ k : Nat, k ≤ 3 ∧ i = .int .i64 k ∧ v = .int .u32 (bothK m k) ∧ Ext w1 W) (fun _ _ i _ => 3 - (intOf i).toNat)
  case atStart => exact ⟨0, by omega, rfl, rfl, Ext.refl _⟩
  case round =>
    obtain ⟨k, hk, rfl, rfl, hx⟩ := hrel
    have B := HB.out.ext hx
    have p0 : wr.cell? ⟨g, 0, none⟩ = some (.int .u32 29294760) := B 0 (by decide)
    have p1 : wr.cell? ⟨g, 1, none⟩ = some (.int .u32 512) := B 1 (by decide)
    have p2 : wr.cell? ⟨g, 2, none⟩ = some (.int .u32 3145728) := B 2 (by decide)
    have p3 : wr.cell? ⟨g, 3, none⟩ = some (.int .u32 524288) := B 3 (by decide)
    have p4 : wr.cell? ⟨g, 4, none⟩ = some (.int .u32 65536) := B 4 (by decide)
    have p5 : wr.cell? ⟨g, 5, none⟩ = some (.int .u32 131072) := B 5 (by decide)
    clear B
    have hc : k = 0 ∨ k = 1 ∨ k = 2 ∨ k = 3 := by omega
    rcases hc with rfl | rfl | rfl | rfl
    · obtain ⟨v0, hv0⟩ : ∃ v0, v0 = bothK m 0 := ⟨_, rfl⟩
      have hs : bothK m 1 = if bits .and .u32 v0 512 == 0 then bits .andNot .u32 v0 29294760 else v0 := by rw [hv0]; rfl
      rw [← hv0]
      obtain ⟨a9, ha9⟩ : ∃ a9, bits .and .u32 v0 512 = a9 := ⟨_, rfl⟩
      rw [ha9] at hs
      have HS := Lib.hid hs
      clear hv0 hs
      by_cases h0 : a9 = 0
      · have hq : (a9 == 0) = true := by simp [h0]
        have e : bothK m 1 = bits .andNot .u32 v0 29294760 := by rw [HS.out, hq]; rfl
        have HE := Lib.hid e
        clear e
        go_wp2_with fail
        go_roundw
        case rel => exact ⟨1, by omega, rfl, by rw [HE.out], (by first | exact hx | exact hx.alloc _)⟩
        case measure => simp [intOf]
      · have hq : (a9 == 0) = false := by simp [h0]
        have e : bothK m 1 = v0 := by rw [HS.out, hq]; rfl
        have HE := Lib.hid e
        clear e
        go_wp2_with fail
        go_roundw
        case rel => exact ⟨1, by omega, rfl, by rw [HE.out], (by first | exact hx | exact hx.alloc _)⟩
        case measure => simp [intOf]
    · obtain ⟨v0, hv0⟩ : ∃ v0, v0 = bothK m 1 := ⟨_, rfl⟩
      have hs : bothK m 2 = if bits .and .u32 v0 524288 == 0 then bits .andNot .u32 v0 3145728 else v0 := by rw [hv0]; rfl
      rw [← hv0]
      obtain ⟨a9, ha9⟩ : ∃ a9, bits .and .u32 v0 524288 = a9 := ⟨_, rfl⟩
      rw [ha9] at hs
      have HS := Lib.hid hs
      clear hv0 hs
      by_cases h0 : a9 = 0
      · have hq : (a9 == 0) = true := by simp [h0]
        have e : bothK m 2 = bits .andNot .u32 v0 3145728 := by rw [HS.out, hq]; rfl
        have HE := Lib.hid e
        clear e
        go_wp2_with fail
        go_roundw
        case rel => exact ⟨2, by omega, rfl, by rw [HE.out], (by first | exact hx | exact hx.alloc _)⟩
        case measure => simp [intOf]
      · have hq : (a9 == 0) = false := by simp [h0]
        have e : bothK m 2 = v0 := by rw [HS.out, hq]; rfl
        have HE := Lib.hid e
        clear e
        go_wp2_with fail
        go_roundw
        case rel => exact ⟨2, by omega, rfl, by rw [HE.out], (by first | exact hx | exact hx.alloc _)⟩
        case measure => simp [intOf]
    · obtain ⟨v0, hv0⟩ : ∃ v0, v0 = bothK m 2 := ⟨_, rfl⟩
      have hs : bothK m 3 = if bits .and .u32 v0 131072 == 0 then bits .andNot .u32 v0 65536 else v0 := by rw [hv0]; rfl
      rw [← hv0]
      obtain ⟨a9, ha9⟩ : ∃ a9, bits .and .u32 v0 131072 = a9 := ⟨_, rfl⟩
      rw [ha9] at hs
      have HS := Lib.hid hs
      clear hv0 hs
      by_cases h0 : a9 = 0
      · have hq : (a9 == 0) = true := by simp [h0]
        have e : bothK m 3 = bits .andNot .u32 v0 65536 := by rw [HS.out, hq]; rfl
        have HE := Lib.hid e
        clear e
        go_wp2_with fail
        go_roundw
        case rel => exact ⟨3, by omega, rfl, by rw [HE.out], (by first | exact hx | exact hx.alloc _)⟩
        case measure => simp [intOf]
      · have hq : (a9 == 0) = false := by simp [h0]
        have e : bothK m 3 = v0 := by rw [HS.out, hq]; rfl
        have HE := Lib.hid e
        clear e
        go_wp2_with fail
        go_roundw
        case rel => exact ⟨3, by omega, rfl, by rw [HE.out], (by first | exact hx | exact hx.alloc _)⟩
        case measure => simp [intOf]
    · go_wp2_with fail
      go_ret
      exact ⟨rfl, HX.out.trans hx⟩
end Go.Proofs.YtbodppfpmpmadaaGreat

namespace Go.Proofs.YtbodppfpmpmadaaGreat
open Go.RowKit

theorem rd_cells {w : World} {A : Option Addr} {n cap : Nat} {l : List UInt8} (h : Rd w (.slice A n cap) l) (hn : 0 < n) : ∃ b o, A = some ⟨b, o, none⟩ ∧ n = l.length ∧ ∀ k, k < n → w.cell? ⟨b, o + k, none⟩ = some (.int .u8 ((l.getD k 0).toNat : Int)) := by
  obtain ⟨A', cap', hv, _, _, _, h4⟩ := h
  injection hv with e1 e2 e3
  subst e1 e2
  obtain ⟨b, o, rfl, hc⟩ := h4 (by intro e; subst e; simp at hn)
  exact ⟨b, o, rfl, rfl, hc⟩
theorem getD_of {l : List UInt8} {k : Nat} (h : k < l.length) : l.getD k 0 = l[k] := by rw [List.getD_eq_getElem?_getD, List.getElem?_eq_getElem h]; rfl
theorem not_contains_of {l : List UInt8} {b : UInt8} (h : ∀ j, j < l.length → l.getD j 0 ≠ b) : l.contains b = false := by
  rw [Bool.eq_false_iff]
  intro hc
  have hm := List.contains_iff_mem.1 hc
  obtain ⟨j, hj, e⟩ := List.getElem_of_mem hm
  exact h j hj (by rw [getD_of hj, e])
theorem contains_of {l : List UInt8} {b : UInt8} {k : Nat} (h : k < l.length) (e : l.getD k 0 = b) : l.contains b = true := by
  rw [List.contains_iff_mem, ← e, getD_of h]
  exact List.getElem_mem _

set_option maxHeartbeats 1000000 in
theorem index_c (w : World) (v : Value) (l : List UInt8) (b : UInt8) (hr : Rd w v l) :
    Calls Tryz.prog 151 #[v, .int .u8 (b.toNat : Int)] w fun e w' => (∃ r : Int, e = .returned (.int .i64 r) ∧ l.contains b = decide (0 ≤ r) ∧ -1 ≤ r ∧ r ≤ 9223372036854775807) ∧ Ext w w' := by
  have HR := Lib.hid hr
  obtain ⟨A, cap, rfl, hle, hm, _⟩ := id hr
  obtain ⟨N, hN⟩ : ∃ N, N = l.length := ⟨_, rfl⟩
  rw [← hN] at hle ⊢
  unfold maxLen at hm
  have HN := Lib.hid hN
  obtain ⟨x, hx0⟩ : ∃ x : Int, x = (b.toNat : Int) := ⟨_, rfl⟩
  rw [← hx0]
  have HX0 := Lib.hid hx0
  clear hr hN hx0
  go_enter Tryz.func151, Tryz.ntmps151
  go_wp2_with fail
  go_loopw [5, 8] (fun _ i W => ∃ k : Nat, k ≤ N ∧ i = .int .i64 k ∧ Hid (∀ j, j < k → l.getD j 0 ≠ b) ∧ Ext w W) (fun _ i _ => N - (intOf i).toNat)
  case atStart => exact ⟨0, Nat.zero_le _, rfl, Lib.hid (fun j hj => absurd hj (by omega)), Ext.refl _⟩
  case round =>
    obtain ⟨k, hk, rfl, HA, hx⟩ := hrel
    by_cases hkN : k < N
    · have hbk : (k : Int) < (N : Int) := by omega
      have hr9 := HR.out.ext hx
      rw [← HN.out] at hr9
      obtain ⟨b0, o0, rfl, hn2, hcs⟩ := rd_cells hr9 (by omega)
      have p0 := hcs k hkN
      obtain ⟨y, hy⟩ : ∃ y : Int, y = ((l.getD k 0).toNat : Int) := ⟨_, rfl⟩
      rw [← hy] at p0
      have HY := Lib.hid hy
      have HK := Lib.hid (show k < l.length by have := HN.out; omega)
      clear hr9 hn2 hcs hy
      by_cases he : x = y
      · have hq : (x == y) = true := by simp [he]
        have hc : l.contains b = true := contains_of HK.out (by have h1 := HX0.out; have h2 := HY.out; apply UInt8.toNat_inj.1; omega)
        have HC := Lib.hid hc
        have HE := Lib.hid he
        clear he hc
        go_wp2_with fail
        go_ret
        exact ⟨⟨_, rfl, by rw [HC.out]; simp, by omega, by omega⟩, hx⟩
      · have hq : (x == y) = false := by simp [he]
        have hne : l.getD k 0 ≠ b := fun e9 => he (by rw [HX0.out, HY.out, e9])
        have HE := Lib.hid hne
        clear he hne
        go_wp2_with fail
        go_roundw
        case rel => exact ⟨k + 1, by omega, by go_num, Lib.hid (fun j hj => by rcases Nat.lt_succ_iff_lt_or_eq.1 hj with h | h; exact HA.out j h; subst h; exact HE.out), hx⟩
        case measure => simp [intOf]; omega
    · obtain rfl : k = N := by omega
      have hc : l.contains b = false := not_contains_of (fun j hj => HA.out j (by have := HN.out; omega))
      have HC := Lib.hid hc
      clear hc
      go_wp2_with fail
      go_ret
      exact ⟨⟨_, rfl, by rw [HC.out]; rfl, by omega, by omega⟩, hx⟩
theorem contains_c (w : World) (v : Value) (l : List UInt8) (b : UInt8) (hr : Rd w v l) :
    Calls Tryz.prog 94 #[v, .int .u8 (b.toNat : Int)] w fun e w' => e = .returned (.bool (l.contains b)) ∧ Ext w w' := by
  have HR := Lib.hid hr
  obtain ⟨A, cap, rfl, _⟩ := hr
  obtain ⟨q, hq⟩ : ∃ q, q = l.contains b := ⟨_, rfl⟩
  rw [← hq]
  have HQ := Lib.hid hq
  clear hq
  go_enter Tryz.func94, Tryz.ntmps94
  go_wp2_with (go_at_call 151; refine (index_c _ _ l b HR.out).mono ?_; rintro e w1 ⟨⟨r, rfl, hr1, _, _⟩, hx1⟩)
  go_ret
  exact ⟨congrArg (fun z => Ending.returned (.bool z)) (by rw [HQ.out, hr1]), hx1⟩
end Go.Proofs.YtbodppfpmpmadaaGreat

namespace Go.Proofs.YtbodppfpmpmadaaGreat
open Go.ChangeShapes Go.WideShapes Go.ChangeAt Go.RowKit

section
variable {H : Type} {enc : TypeId × Value → H} {P : Program} {w : World} {base : Nat} {spare : Nat → Bool} {held : Bool} {r : Reach} {b0 : Nat}

theorem addr_spot {w : World} {x : Addr} {u : Value} (h : w.cell? x = some u) : ∃ b o, x = ⟨b, o, none⟩ := by
  obtain ⟨b, o, sp⟩ := x
  cases sp with
  | none => exact ⟨b, o, rfl⟩
  | some s =>
    unfold World.cell? at h
    split at h <;> simp at h

end
end Go.Proofs.YtbodppfpmpmadaaGreat

namespace Go.Proofs.YtbodppfpmpmadaaGreat
open Go.RowKit

theorem cloneS_c (w : World) (v : Value) (l : List UInt8) (hr : Rd w v l) (hl : l.length ≤ 100000000) : Calls Tryz.prog 43 #[v] w (RetB w l) := by
  have H := Lib.hid hr
  obtain ⟨A, cap, rfl, hle, hm, hA, hc⟩ := hr
  rcases A with _ | ad
  · have hl0 : l = [] := by
      rcases l with _ | ⟨x, l⟩
      · rfl
      · obtain ⟨b, o, h, _⟩ := hc (by simp)
        cases h
    subst hl0
    clear hc hA
    have hn := fun wx => Lib.run_eql_slice_nil (P := Tryz.prog) wx 22 5 none 0 cap 0 0 Tryz.underlying22
    go_enter Tryz.func43, Tryz.ntmps43
    go_wp2_with fail
    go_ret
    exact ⟨_, rfl, Own.nil _ _, Ext.refl _⟩
  · clear hc hA
    have hn := fun wx => Lib.run_eql_slice_nil (P := Tryz.prog) wx 22 5 (some ad) l.length cap 0 0 Tryz.underlying22
    go_enter Tryz.func43, Tryz.ntmps43
    go_wp2_with (at_builtin; refine wpl_append_rd bt (base := w.heap.size) (l := []) (own_new w #[] [] rfl 0 rfl (by decide) (Nat.le_refl _)) ((H.out).ext ((Ext.refl w).alloc _)) rfl _ _ rfl rfl rfl (by simp; omega) (by simp) ?_; intro v1 w1 ho hb)
    go_ret
    exact ⟨_, rfl, ho, ((Ext.refl w).alloc _).below hb (Nat.le_refl _)⟩

set_option maxHeartbeats 1000000 in
theorem equalS_c (w : World) (va vb : Value) (l m : List UInt8) (ha : Rd w va l) (hb : Rd w vb m) :
    Calls Tryz.prog 139 #[va, vb] w fun e w' => e = .returned (.bool (l == m)) ∧ Ext w w' := by
  have HA := Lib.hid ha
  have HB := Lib.hid hb
  obtain ⟨A, cA, rfl, hle, hmA, _⟩ := id ha
  obtain ⟨B, cB, rfl, _⟩ := id hb
  obtain ⟨N, hN⟩ : ∃ N, N = l.length := ⟨_, rfl⟩
  obtain ⟨M, hM⟩ : ∃ M, M = m.length := ⟨_, rfl⟩
  obtain ⟨q, hq⟩ : ∃ q, q = (l == m) := ⟨_, rfl⟩
  rw [← hN, ← hM, ← hq]
  rw [← hN] at hle
  unfold maxLen at hmA
  have HN := Lib.hid hN
  have HM := Lib.hid hM
  have HQ := Lib.hid hq
  clear ha hb hN hM hq
  by_cases hNM : N = M
  · subst hNM
    go_enter Tryz.func139, Tryz.ntmps139
    go_wp2_with fail
    go_loopw [5, 13] (fun _ i W => ∃ k : Nat, k ≤ N ∧ i = .int .i64 k ∧ Hid (∀ j, j < k → l.getD j 0 = m.getD j 0) ∧ Ext w W) (fun _ i _ => N - (intOf i).toNat)
    case atStart => exact ⟨0, Nat.zero_le _, rfl, Lib.hid (fun j hj => absurd hj (by omega)), Ext.refl _⟩
    case round =>
      obtain ⟨k, hk, rfl, HK, hx⟩ := hrel
      by_cases hkN : k < N
      · have hbk : (k : Int) < (N : Int) := by omega
        have hr9 := HA.out.ext hx
        rw [← HN.out] at hr9
        obtain ⟨b0, o0, rfl, _, hcs⟩ := rd_cells hr9 (by omega)
        have hs9 := HB.out.ext hx
        rw [← HM.out] at hs9
        obtain ⟨b1, o1, rfl, _, hds⟩ := rd_cells hs9 (by omega)
        have p0 := hcs k hkN
        have q0 := hds k hkN
        obtain ⟨x, hx1⟩ : ∃ x : Int, x = ((l.getD k 0).toNat : Int) := ⟨_, rfl⟩
        obtain ⟨y, hy1⟩ : ∃ y : Int, y = ((m.getD k 0).toNat : Int) := ⟨_, rfl⟩
        rw [← hx1] at p0
        rw [← hy1] at q0
        have HX := Lib.hid hx1
        have HY := Lib.hid hy1
        clear hr9 hs9 hcs hds hx1 hy1
        by_cases he : x = y
        · have hqn : (x != y) = false := by simp [he]
          have hne : l.getD k 0 = m.getD k 0 := by apply UInt8.toNat_inj.1; have h1 := HX.out; have h2 := HY.out; omega
          have HE := Lib.hid hne
          clear he hne
          go_wp2_with fail
          (try dsimp only [Act.put])
          go_quiet (fail)
          go_wp2_with fail
          go_roundw
          case rel => exact ⟨k + 1, by omega, by go_num, Lib.hid (fun j hj => by rcases Nat.lt_succ_iff_lt_or_eq.1 hj with h | h; exact HK.out j h; subst h; exact HE.out), hx.drewN _⟩
          case measure => simp [intOf]; omega
        · have hqn : (x != y) = true := by simp [he]
          have hf : q = false := by
            rw [HQ.out, beq_eq_false_iff_ne]
            intro e9
            rw [e9] at HX
            exact he (by rw [HX.out, HY.out])
          subst hf
          clear he
          go_wp2_with fail
          (try dsimp only [Act.put])
          go_quiet (fail)
          go_wp2_with fail
          go_ret
          exact ⟨rfl, hx.drewN _⟩
      · obtain rfl : k = N := by omega
        have ht : q = true := by
          rw [HQ.out, beq_iff_eq]
          refine List.ext_getElem (by rw [← HN.out, ← HM.out]) (fun j h1 h2 => ?_)
          rw [← getD_of h1, ← getD_of h2]
          exact HK.out j (by have := HN.out; omega)
        subst ht
        go_wp2_with fail
        go_ret
        exact ⟨rfl, hx⟩
  · have hne : ((N : Int) != (M : Int)) = true := by simp; omega
    have hf : q = false := by
      rw [HQ.out, beq_eq_false_iff_ne]
      intro e9
      exact hNM (by rw [HN.out, HM.out, e9])
    subst hf
    go_enter Tryz.func139, Tryz.ntmps139
    go_wp2_with fail
    go_ret
    exact ⟨rfl, Ext.refl _⟩

section
variable {P : Program} {ops : Array Oper} {rest : List Oper} {o : Oper} {a : Act} {w : World} {Q : Exit → Act → World → Prop}
theorem wpl_bytes_g (hT : BT P) (s : ByteArray) (hn : s.size ≤ maxLen) {j : Nat} {b c : Bool} (hg : o.guard = some (j, b)) (hy : yielded ops a.tmps j = some c) (hc : c = b) (x : Operand) (ho : o.op = .convert 9 22 x) (hx : a.eval x = .string s)
    (h : ∀ A m c w', Rd w' (.slice A m c) s.data.toList → Ext w w' → wpList P ops Q rest (a.put o.dst (.slice A m c)) w') : wpList P ops Q (o :: rest) a w :=
  wpList_step fun K hK => by
    have hw : Region.wanted o (yielded ops a.tmps) = true := by
      subst hc
      simp [Region.wanted, hg, hy]
    rw [if_pos hw]
    have hr := Lib.run_convert_string_bytes (P := P) w 9 22 5 s hT.st hT.sl hT.el
    unfold Oper.wp execOp
    simp only [ho, hx, hr, Sem.run_bind, Sem.run_pure, Result.andThen_ok]
    refine hK _ _ (h _ _ _ _ ?_ ?_)
    · refine ⟨_, _, by rw [size_toList], by rw [size_toList]; exact grownCap_ge _ _ _ _, grownCap_le_maxLen _ _ _ _ hn, (fun h => by cases h), fun _ => ⟨_, 0, rfl, fun j hj => ?_⟩⟩
      rw [size_toList] at hj
      rw [Nat.zero_add]
      exact Lib.bytesWorld_cell w 5 s j hj
    · exact ⟨rfl, rfl, rfl, by rw [Lib.bytesWorld_size]; omega, fun k hk => Lib.bytesWorld_at_old w 5 s k hk⟩
end
def plainU (l : List UInt8) : Bool := decide (l.length ≤ 64) && !l.contains 0
set_option maxHeartbeats 1000000 in
theorem plainU_c (w : World) (l : List UInt8) : Calls Tryz.prog 53 #[.string (strL l)] w fun e w' => e = .returned (.bool (plainU l)) ∧ Ext w w' := by
  obtain ⟨t, ht⟩ : ∃ t, t = strL l := ⟨_, rfl⟩
  obtain ⟨q, hq⟩ : ∃ q, q = plainU l := ⟨_, rfl⟩
  have hsz : t.size = l.length := by rw [ht, strL_size]
  rw [← ht, ← hq]
  unfold plainU at hq
  have HT := Lib.hid ht
  by_cases h64 : l.length ≤ 64
  · have hb : (t.size : Int) ≤ 64 := by omega
    have hq2 : q = !l.contains 0 := by rw [hq]; simp [h64]
    have HQ := Lib.hid hq2
    have HS := Lib.hid (show t.size ≤ maxLen by unfold maxLen; omega)
    clear hq hq2 hsz h64 ht
    go_enter Tryz.func53, Tryz.ntmps53
    go_wp2_with (first
      | ((with_reducible show AtS 8); refine wpl_bytes_g bt t HS.out (j := 3) rfl rfl rfl _ rfl rfl ?_; intro A m c w1 hr1 hx1; rw [HT.out, strL_toList] at hr1)
      | (go_at_call 94; refine (contains_c _ _ l 0 hr1).mono ?_; rintro e w2 ⟨rfl, hx2⟩)
      | fail)
    go_ret
    exact ⟨congrArg (fun z => Ending.returned (.bool z)) (by rw [HQ.out]; simp), hx1.trans hx2⟩
  · have hb : ¬ (t.size : Int) ≤ 64 := by omega
    have hf : q = false := by rw [hq]; simp [h64]
    subst hf
    clear hq hsz h64 ht
    go_enter Tryz.func53, Tryz.ntmps53
    go_wp2_with fail
    go_ret
    exact ⟨rfl, Ext.refl _⟩
end Go.Proofs.YtbodppfpmpmadaaGreat

namespace Go.Proofs.YtbodppfpmpmadaaGreat
open Go.RowKit

def natL : List UInt8 := [109, 121, 115, 113, 108, 95, 110, 97, 116, 105, 118, 101, 95, 112, 97, 115, 115, 119, 111, 114, 100]
def fastL : List UInt8 := [99, 97, 99, 104, 105, 110, 103, 95, 115, 104, 97, 50, 95, 112, 97, 115, 115, 119, 111, 114, 100]
structure UserV where
  name : List UInt8
  pw : List UInt8
  pl : List UInt8
  sc : List UInt8
  adm : Bool
def userC (u : UserV) : List Value := [.string (strL u.name), .string (strL u.pw), .string (strL u.pl), .string (strL u.sc), .bool u.adm]
def oursP (pl : List UInt8) : Bool := pl == natL || pl == fastL
def okU (u : UserV) : Bool := !u.name.isEmpty && (plainU u.name && (plainU u.pw && (plainU u.sc && oursP u.pl)))
def checkU (u : UserV) : Int := if okU u then 0 else 2
set_option maxHeartbeats 4000000 in
theorem checkU_c (w : World) (name pw pl sc : List UInt8) (adm : Bool) : Calls Tryz.prog 19 #[.agg #[.string (strL name), .string (strL pw), .string (strL pl), .string (strL sc), .bool adm]] w fun e w' => e = .returned (.int .i64 (checkU ⟨name, pw, pl, sc, adm⟩)) ∧ Ext w w' := by
  obtain ⟨q0, e0⟩ : ∃ q, (strL name).toList.isEmpty = q := ⟨_, rfl⟩
  obtain ⟨q1, e1⟩ : ∃ q, plainU name = q := ⟨_, rfl⟩
  obtain ⟨q2, e2⟩ : ∃ q, plainU pw = q := ⟨_, rfl⟩
  obtain ⟨q3, e3⟩ : ∃ q, plainU sc = q := ⟨_, rfl⟩
  have hr : checkU ⟨name, pw, pl, sc, adm⟩ = if (!q0 && (q1 && (q2 && (q3 && oursP pl)))) then 0 else 2 := by
    unfold checkU okU
    rw [e1, e2, e3]
    rw [strL_tl] at e0
    rw [e0]
  rw [hr]
  clear hr
  have H1 := Lib.hid e1
  have H2 := Lib.hid e2
  have H3 := Lib.hid e3
  clear e1 e2 e3
  cases q0 with
  | true =>
    go_enter Tryz.func19, Tryz.ntmps19
    go_wp2_with fail
    go_ret
    exact ⟨rfl, (Ext.refl _).alloc _⟩
  | false =>
    obtain ⟨q4, e4⟩ : ∃ q, q = (pl == natL) := ⟨_, rfl⟩
    obtain ⟨q5, e5⟩ : ∃ q, q = (pl == fastL) := ⟨_, rfl⟩
    have ho : oursP pl = (q4 || q5) := by unfold oursP; rw [← e4, ← e5]
    rw [ho]
    have g4 : ((strL pl).toList == [109, 121, 115, 113, 108, 95, 110, 97, 116, 105, 118, 101, 95, 112, 97, 115, 115, 119, 111, 114, 100]) = q4 := by rw [strL_tl]; exact e4.symm
    have g5 : ((strL pl).toList == [99, 97, 99, 104, 105, 110, 103, 95, 115, 104, 97, 50, 95, 112, 97, 115, 115, 119, 111, 114, 100]) = q5 := by rw [strL_tl]; exact e5.symm
    clear ho e4 e5
    cases q1 <;> cases q2 <;> cases q3 <;> cases q4 <;> cases q5
    all_goals
      have tok1 : True := trivial
      go_enter Tryz.func19, Tryz.ntmps19
      go_upto_region 1 with fail
      generalize hW0 : w.alloc _ = wS
      have HB := Lib.hid (show BoxF wS w.heap.size [.string (strL name), .string (strL pw), .string (strL pl), .string (strL sc), .bool adm] by rw [← hW0]; exact BoxF.new w _ _)
      have HX0 := Lib.hid (show Ext w wS by rw [← hW0]; exact (Ext.refl w).alloc _)
      clear hW0
      have c0 := HB.out.at (j := 0) rfl
      go_wp2_with (first
      | ((with_reducible show Calls _ _ #[Value.string (strL name)] _ _); have _t := tok1; go_at_call 53; refine (plainU_c _ name).mono ?_; rintro e w1 ⟨rfl, hx1⟩; rw [H1.out]; clear tok1; have tok2 : True := trivial; have hE := hx1; have B1 := HB.out.ext hE; have c1 := B1.at (j := 1) rfl; have c2 := B1.at (j := 2) rfl; have c3 := B1.at (j := 3) rfl; clear B1)
      | ((with_reducible show Calls _ _ #[Value.string (strL pw)] _ _); have _t := tok2; go_at_call 53; refine (plainU_c _ pw).mono ?_; rintro e w2 ⟨rfl, hx2⟩; rw [H2.out]; clear tok2 c1 c2 c3; have tok3 : True := trivial; replace hE := hE.trans hx2; have B1 := HB.out.ext hE; have c2 := B1.at (j := 2) rfl; have c3 := B1.at (j := 3) rfl; clear B1)
      | ((with_reducible show Calls _ _ #[Value.string (strL sc)] _ _); have _t := tok3; go_at_call 53; refine (plainU_c _ sc).mono ?_; rintro e w3 ⟨rfl, hx3⟩; rw [H3.out]; clear tok3 c2 c3; replace hE := hE.trans hx3; have B1 := HB.out.ext hE; have c2 := B1.at (j := 2) rfl; clear B1)
      | fail)
      go_ret
      exact ⟨rfl, HX0.out.trans hE⟩
end Go.Proofs.YtbodppfpmpmadaaGreat

namespace Go.Proofs.YtbodppfpmpmadaaGreat
open Go.RowKit

theorem dnone_c (w : World) (g : Nat) (st : Int) (c9 : w.cell? ⟨g, 9, none⟩ = some (.int .i64 st)) :
    Calls Tryz.prog 38 #[.pointer (some ⟨g, 0, none⟩)] w fun e w' => e = .returned (.bool (st == 0)) ∧ w = w' := by
  go_enter Tryz.func38, Tryz.ntmps38
  go_wp2_with fail
  go_ret
  exact ⟨rfl, rfl⟩
theorem dstate_c (w : World) (g : Nat) (st : Int) (c9 : w.cell? ⟨g, 9, none⟩ = some (.int .i64 st)) :
    Calls Tryz.prog 10 #[.pointer (some ⟨g, 0, none⟩)] w fun e w' => e = .returned (.int .i64 st) ∧ w = w' := by
  obtain ⟨q, hq⟩ : ∃ q, (st == 0) = q := ⟨_, rfl⟩
  have HQ := Lib.hid hq
  cases q with
  | true =>
    have hz : st = 0 := by simpa using hq
    subst hz
    clear hq HQ
    go_enter Tryz.func10, Tryz.ntmps10
    go_wp2_with (go_at_call 38; refine (dnone_c _ g 0 c9).mono ?_; rintro e wx ⟨rfl, rfl⟩)
    go_ret
    exact ⟨rfl, rfl⟩
  | false =>
    clear hq
    go_enter Tryz.func10, Tryz.ntmps10
    go_wp2_with (go_at_call 38; refine (dnone_c _ g st c9).mono ?_; rintro e wx ⟨rfl, rfl⟩; rw [HQ.out])
    go_ret
    exact ⟨rfl, rfl⟩
theorem ddone_c (w : World) (g : Nat) (st : Int) (c9 : w.cell? ⟨g, 9, none⟩ = some (.int .i64 st)) :
    Calls Tryz.prog 47 #[.pointer (some ⟨g, 0, none⟩)] w fun e w' => e = .returned (.bool (st == 2)) ∧ w = w' := by
  obtain ⟨q, hq⟩ : ∃ q, (st == 0) = q := ⟨_, rfl⟩
  have HQ := Lib.hid hq
  cases q with
  | true =>
    have hz : st = 0 := by simpa using hq
    subst hz
    clear hq HQ
    go_enter Tryz.func47, Tryz.ntmps47
    go_wp2_with (go_at_call 38; refine (dnone_c _ g 0 c9).mono ?_; rintro e wx ⟨rfl, rfl⟩)
    go_ret
    exact ⟨rfl, rfl⟩
  | false =>
    clear hq
    go_enter Tryz.func47, Tryz.ntmps47
    go_wp2_with (go_at_call 38; refine (dnone_c _ g st c9).mono ?_; rintro e wx ⟨rfl, rfl⟩; rw [HQ.out])
    go_ret
    exact ⟨rfl, rfl⟩
theorem dschema_c (w : World) (g : Nat) (st : Int) (t : ByteArray) (c9 : w.cell? ⟨g, 9, none⟩ = some (.int .i64 st)) (c18 : w.cell? ⟨g, 18, none⟩ = some (.string t)) :
    Calls Tryz.prog 13 #[.pointer (some ⟨g, 0, none⟩)] w fun e w' => e = .returned (.string (if st = 2 then t else ByteArray.empty)) ∧ w = w' := by
  by_cases hq : st = 2
  · subst hq
    rw [if_pos rfl]
    go_enter Tryz.func13, Tryz.ntmps13
    go_wp2_with (go_at_call 47; refine (ddone_c _ g 2 c9).mono ?_; rintro e wx ⟨rfl, rfl⟩)
    go_ret
    exact ⟨rfl, rfl⟩
  · rw [if_neg hq]
    have HQ := Lib.hid (show (st == 2) = false by simp [hq])
    clear hq
    go_enter Tryz.func13, Tryz.ntmps13
    go_wp2_with (go_at_call 47; refine (ddone_c _ g st c9).mono ?_; rintro e wx ⟨rfl, rfl⟩; rw [HQ.out])
    go_ret
    exact ⟨rfl, rfl⟩
theorem dfail_c (w : World) (g : Nat) (cs : List Value) (v : Value) (B : BoxF w g cs) (hl : cs.length = 19) :
    Calls Tryz.prog 41 #[.pointer (some ⟨g, 0, none⟩), v] w fun e w' => e = .returned v ∧ BoxF w' g (cs.set 9 (.int .i64 3)) ∧ On g w w' := by
  have HB := Lib.hid B
  have HL := Lib.hid hl
  clear B hl
  go_enter Tryz.func41, Tryz.ntmps41
  go_wp2_with ((with_reducible show wpList _ _ _ (⟨none, Op.store _ _ _, _, _, _, _⟩ :: _) _ _); refine wpl_store_cell rfl _ _ _ rfl g 9 (.int .i64 3) rfl rfl rfl rfl (by kernel_rfl) HB.out (by have := HL.out; omega) ?_; intro w1 B1 O1)
  go_ret
  exact ⟨rfl, B1, O1⟩
end Go.Proofs.YtbodppfpmpmadaaGreat

namespace Go.Proofs.YtbodppfpmpmadaaGreat

theorem readI_cases (l : List UInt8) : (l = [] ∧ readI l = (0, 0, 4)) ∨
    (∃ c t, l = c :: t ∧ ((c.toNat ≤ 250 ∧ readI l = ((c.toNat : Int), 1, 0)) ∨ (c = 251 ∧ readI l = (0, 0, 5)) ∨ (c = 255 ∧ readI l = (0, 0, 5)) ∨
      ∃ n, ((c = 252 ∧ n = 2) ∨ (c = 253 ∧ n = 3) ∨ (c = 254 ∧ n = 8)) ∧ ((t.length < n ∧ readI l = (0, 0, 4)) ∨ (n ≤ t.length ∧ readI l = ((leN (t.take n) : Int), n + 1, 0))))) := by
  rcases l with _ | ⟨c, t⟩
  · exact .inl ⟨rfl, rfl⟩
  · refine .inr ⟨c, t, rfl, ?_⟩
    have hc := c.toNat_lt
    by_cases h1 : c.toNat ≤ 250
    · exact .inl ⟨h1, by simp [readI, h1]⟩
    · have hcase : c = 251 ∨ c = 252 ∨ c = 253 ∨ c = 254 ∨ c = 255 := by
        have : c.toNat = 251 ∨ c.toNat = 252 ∨ c.toNat = 253 ∨ c.toNat = 254 ∨ c.toNat = 255 := by omega
        rcases this with h | h | h | h | h
        · exact .inl (UInt8.toNat.inj h)
        · exact .inr (.inl (UInt8.toNat.inj h))
        · exact .inr (.inr (.inl (UInt8.toNat.inj h)))
        · exact .inr (.inr (.inr (.inl (UInt8.toNat.inj h))))
        · exact .inr (.inr (.inr (.inr (UInt8.toNat.inj h))))
      rcases hcase with rfl | rfl | rfl | rfl | rfl
      · exact .inr (.inl ⟨rfl, by simp [readI]⟩)
      · refine .inr (.inr (.inr ⟨2, .inl ⟨rfl, rfl⟩, ?_⟩))
        by_cases h : t.length < 2
        · exact .inl ⟨h, by simp [readI, wide, h]⟩
        · exact .inr ⟨by omega, by simp [readI, wide, h]⟩
      · refine .inr (.inr (.inr ⟨3, .inr (.inl ⟨rfl, rfl⟩), ?_⟩))
        by_cases h : t.length < 3
        · exact .inl ⟨h, by simp [readI, wide, h]⟩
        · exact .inr ⟨by omega, by simp [readI, wide, h]⟩
      · refine .inr (.inr (.inr ⟨8, .inr (.inr ⟨rfl, rfl⟩), ?_⟩))
        by_cases h : t.length < 8
        · exact .inl ⟨h, by simp [readI, wide, h]⟩
        · exact .inr ⟨by omega, by simp [readI, wide, h]⟩
      · exact .inr (.inr (.inl ⟨rfl, by simp [readI]⟩))

theorem readI_ok {l : List UInt8} {x : Int} {n : Nat} (h : readI l = (x, n, 0)) : 1 ≤ n ∧ n ≤ l.length ∧ 0 ≤ x := by
  rcases readI_cases l with ⟨_, he⟩ | ⟨c, t, rfl, ⟨_, he⟩ | ⟨_, he⟩ | ⟨_, he⟩ | ⟨m, _, ⟨_, he⟩ | ⟨hm, he⟩⟩⟩
  all_goals
    rw [he] at h
    injection h with h1 h2
    injection h2 with h2 h3
  · omega
  · subst h1 h2
    simp
  · omega
  · omega
  · omega
  · subst h1 h2
    rw [List.length_cons]
    omega

theorem readI_err {l : List UInt8} {x : Int} {n : Nat} {e : Int} (h : readI l = (x, n, e)) : e = 0 ∨ (x = 0 ∧ n = 0 ∧ (e = 4 ∨ e = 5)) := by
  rcases readI_cases l with ⟨_, he⟩ | ⟨c, t, rfl, ⟨_, he⟩ | ⟨_, he⟩ | ⟨_, he⟩ | ⟨m, _, ⟨_, he⟩ | ⟨hm, he⟩⟩⟩
  all_goals
    rw [he] at h
    injection h with h1 h2
    injection h2 with h2 h3
    omega

def textB (s : List UInt8) : List UInt8 := intB (s.length : Int) ++ s

def readT (l : List UInt8) : List UInt8 × Nat × Int :=
  if (readI l).2.2 = 0 then
    if ((l.length : Int) - (readI l).2.1) < (readI l).1 then ([], 0, 4)
    else ((l.take ((readI l).2.1 + (readI l).1.toNat)).drop (readI l).2.1, (readI l).2.1 + (readI l).1.toNat, 0)
  else ([], 0, (readI l).2.2)

def upZ (l : List UInt8) : List UInt8 := l.takeWhile (· != 0)

def readZ (l : List UInt8) : List UInt8 × Nat × Int := if l.contains 0 then (upZ l, (upZ l).length + 1, 0) else ([], 0, 4)

theorem upZ_take (l : List UInt8) : l.take (upZ l).length = upZ l := by
  unfold upZ
  induction l with
  | nil => rfl
  | cons a t ih =>
    rw [List.takeWhile_cons]
    split
    · rw [List.length_cons, List.take_succ_cons, ih]
    · rfl

theorem upZ_lt : ∀ (l : List UInt8), l.contains 0 = true → (upZ l).length < l.length
  | [], h => by simp at h
  | a :: t, h => by
    by_cases ha : a = 0
    · subst ha
      simp [upZ]
    · have h2 : upZ (a :: t) = a :: upZ t := by simp [upZ, ha]
      have h3 : t.contains 0 = true := by
        rw [List.contains_cons] at h
        have : ((0 : UInt8) == a) = false := by simpa using Ne.symm ha
        rwa [this, Bool.false_or] at h
      have := upZ_lt t h3
      rw [h2, List.length_cons, List.length_cons]
      omega

theorem upZ_at : ∀ (l : List UInt8) (k : Nat), k < l.length → l.getD k 0 = 0 → (∀ j, j < k → l.getD j 0 ≠ 0) → (upZ l).length = k ∧ l.contains 0 = true
  | [], k, h, _, _ => by simp at h
  | a :: t, 0, _, h0, _ => by
    have : a = 0 := by simpa using h0
    subst this
    exact ⟨by simp [upZ], by simp⟩
  | a :: t, k + 1, h, h0, hj => by
    have ha : a ≠ 0 := by simpa using hj 0 (by omega)
    obtain ⟨h1, h2⟩ := upZ_at t k (by simpa using h) (by simpa using h0) (fun j hk => by simpa using hj (j + 1) (by omega))
    refine ⟨?_, ?_⟩
    · have : upZ (a :: t) = a :: upZ t := by simp [upZ, ha]
      rw [this, List.length_cons, h1]
    · simp only [List.contains_cons, h2, Bool.or_true]

theorem upZ_none (l : List UInt8) (h : ∀ j, j < l.length → l.getD j 0 ≠ 0) : l.contains 0 = false := by
  rw [Bool.eq_false_iff]
  intro hc
  have hm : (0 : UInt8) ∈ l := by simpa using hc
  obtain ⟨j, hj, e⟩ := List.getElem_of_mem hm
  exact h j hj (by rw [List.getD_eq_getElem?_getD, List.getElem?_eq_getElem hj]; exact e)
end Go.Proofs.YtbodppfpmpmadaaGreat

namespace Go.Proofs.YtbodppfpmpmadaaGreat
open Go.RowKit

theorem bytesOf_map (l : List UInt8) : Lib.bytesOf (l.map fun c => (c.toNat : Int)) = l := by
  unfold Lib.bytesOf
  rw [List.map_map]
  conv => rhs; rw [← List.map_id l]
  refine List.map_congr_left fun c _ => ?_
  simp

theorem idx_zero : ∀ l : List UInt8, Lib.indexByte l 0 = if l.contains 0 then ((upZ l).length : Int) else -1
  | [] => rfl
  | a :: t => by
    unfold Lib.indexByte
    by_cases ha : a = 0
    · subst ha
      simp [upZ]
    · have h1 : (a == 0) = false := by simpa using ha
      have h2 : upZ (a :: t) = a :: upZ t := by simp [upZ, ha]
      have h3 : (a :: t).contains 0 = t.contains 0 := by
        rw [List.contains_cons]
        have : ((0 : UInt8) == a) = false := by simpa using Ne.symm ha
        rw [this, Bool.false_or]
      rw [h1, h2, h3, idx_zero t]
      by_cases hc : t.contains 0 = true
      · rw [if_pos hc, if_pos hc]
        have : ((((upZ t).length : Nat) : Int) == -1) = false := by
          rw [beq_eq_false_iff_ne]
          omega
        simp [this]
      · rw [if_neg hc, if_neg hc]
        simp

theorem run_idx {P : Program} (w : World) (v : Value) (l : List UInt8) (c : Int) (hr : Rd w v l) :
    (Extern.BytealgIndexByte.indexByte #[v, .int .u8 c]).run P w = .ok (.int .i64 (Lib.indexByte l c.toNat.toUInt8)) w := by
  obtain ⟨A, cap, rfl, hle, hm, hA, hc⟩ := hr
  by_cases hl : l = []
  · subst hl
    rcases A with _ | ad
    · exact Lib.run_indexByteNil w _ _ c
    · have hl := Lib.run_loadBytesX (P := P) w [] ad .empty (fun j x hj => by simp at hj)
      have hs := Lib.run_indexByteString (P := P) .empty c w
      have he : (⟨ByteArray.empty.data ++ (Lib.bytesOf []).toArray⟩ : ByteArray) = .empty := by
        apply ByteArray.ext
        simp [Lib.bytesOf]
      rw [he] at hl
      change Sem.run P (do
        let b ← Extern.Bytes.bytesOf (.slice (some ad) 0 cap)
        let c ← Extern.Bytes.asByte (.int .u8 c)
        match (List.range b.size).find? fun i => b[i]! == c with
        | some i => pure (goInt i)
        | none => pure (goInt (-1))) w = _
      change Sem.run P (do
        let b ← Extern.Bytes.bytesOf (.string .empty)
        let c ← Extern.Bytes.asByte (.int .u8 c)
        match (List.range b.size).find? fun i => b[i]! == c with
        | some i => pure (goInt i)
        | none => pure (goInt (-1))) w = _ at hs
      simp only [Extern.Bytes.bytesOf, Sem.run_bind, Sem.run_pure, List.length_nil] at hl hs ⊢
      rw [hl]
      exact hs
  · obtain ⟨b, o, rfl, hc2⟩ := hc hl
    rw [Lib.run_indexByteSlice w b o l.length cap (l.map fun c => (c.toNat : Int)) (by simp) (fun i hi => by
      rw [hc2 i hi]
      simp [List.getD, List.getElem?_eq_getElem hi]) c, bytesOf_map]

set_option maxRecDepth 100000 in
theorem idx_b (w : World) (v : Value) (l : List UInt8) (c : Int) (hr : Rd w v l) :
    Calls Tryz.prog 78 #[v, .int .u8 c] w fun e w' => e = .returned (.int .i64 (Lib.indexByte l c.toNat.toUInt8)) ∧ w = w' := by
  go_enter Tryz.func78, Tryz.ntmps78
  go_wp2
  rw [run_callFunc_extern Tryz.func133 (by kernel_rfl) (by kernel_rfl) (by kernel_rfl) (e := Extern.BytealgIndexByte.indexByte) (by kernel_rfl), run_idx w v l c hr]
  simp only [Result.andThen]
  rw [Oper.upon_value]
  go_wp2
  go_ret
  exact ⟨rfl, rfl⟩

set_option maxRecDepth 100000 in
theorem idx_s (w : World) (s : ByteArray) (c : Int) :
    Calls Tryz.prog 178 #[.string s, .int .u8 c] w fun e w' => e = .returned (.int .i64 (Lib.indexByte s.data.toList c.toNat.toUInt8)) ∧ w = w' := by
  go_enter Tryz.func178, Tryz.ntmps178
  go_wp2
  rw [run_callFunc_extern Tryz.func208 (by kernel_rfl) (by kernel_rfl) (by kernel_rfl) (e := Extern.BytealgIndexByte.indexByte) (by kernel_rfl), Lib.run_indexByteString s c w]
  simp only [Result.andThen]
  rw [Oper.upon_value]
  go_wp2
  go_ret
  exact ⟨rfl, rfl⟩
end Go.Proofs.YtbodppfpmpmadaaGreat

