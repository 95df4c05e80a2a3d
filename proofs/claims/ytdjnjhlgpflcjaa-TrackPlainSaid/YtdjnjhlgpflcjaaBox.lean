/- Objects of many cells that a walk makes, fills, loads and gives back: one step each, the world behind it a letter. -/
import Derived.Test.YtdjnjhlgpflcjaaOn
import Derived.Laws.ResultCell
namespace Go.Proofs.Ytdjnjhlgpflcjaa
open Go.RowKit

/-- The object in block g has these cells, and may be written. -/
structure BoxF (W : World) (g : Nat) (cs : List Value) : Prop where
  box : Box W g cs
  free : ∀ j, j < cs.length → W.frozen? ⟨g, j, none⟩ = false
  lt : g < W.heap.size

theorem BoxF.new (w : World) (cs : List Value) (t : TypeId) : BoxF (w.alloc (.cells cs.toArray t)) w.heap.size cs := ⟨Box.new w cs t, fun j _ => World.frozen?_alloc_new _ _ _ _, by simp⟩
theorem BoxF.ext {W W' : World} {g : Nat} {cs : List Value} (h : BoxF W g cs) (k : Ext W W') : BoxF W' g cs :=
  ⟨h.box.ext k, fun j hj => (k.frozen h.lt).trans (h.free j hj), Nat.lt_of_lt_of_le h.lt (Ext.size k)⟩
theorem BoxF.on {W W' : World} {g b : Nat} {cs : List Value} (h : BoxF W g cs) (k : On b W W') (hne : g ≠ b) : BoxF W' g cs :=
  ⟨h.box.on k hne, fun j hj => k.frozen (h.free j hj) h.lt hne, Nat.lt_of_lt_of_le h.lt k.size⟩
theorem BoxF.there {W : World} {g : Nat} {cs : List Value} (h : BoxF W g cs) : W.there g 0 cs.length := fun j hj => by
  rw [Nat.zero_add]
  exact ⟨by rw [h.box j hj]; rfl, h.free j hj⟩
theorem On.sets {g : Nat} (W : World) (o : Nat) (vs : List Value) : On g W (W.setCells g o vs) := by
  induction vs generalizing o W with
  | nil => exact On.refl g W
  | cons v r ih => exact ((On.refl g W).set o v).trans (ih _ _)
theorem BoxF.sets {W : World} {g : Nat} {cs ds : List Value} (h : BoxF W g cs) (hl : cs.length = ds.length) : BoxF (W.setCells g 0 ds) g ds := by
  refine ⟨fun j hj => ?_, fun j hj => ?_, Nat.lt_of_lt_of_le h.lt (On.sets W 0 ds).size⟩
  · have := World.cell?_setCells_in g ds 0 W (fun j hj => (h.there j (by omega)).1) j hj
    rw [Nat.zero_add] at this
    rw [this, List.getD_eq_getElem?_getD, List.getElem?_eq_getElem hj]
    rfl
  · rw [World.frozen?_setCells]
    exact h.free j (by omega)
theorem BoxF.set {W : World} {g : Nat} {cs : List Value} (h : BoxF W g cs) (j : Nat) (u : Value) : BoxF (W.setCell ⟨g, j, none⟩ u) g (cs.set j u) := by
  refine ⟨fun i hi => ?_, fun i hi => ?_, by simpa [World.setCell] using h.lt⟩
  · rw [List.length_set] at hi
    by_cases e : j = i
    · subst e
      rw [World.cell?_setCell_same _ _ _ (h.box j hi), List.getD_eq_getElem?_getD, List.getElem?_set_self hi]
      rfl
    · rw [World.cell?_setCell_other _ _ _ _ (by simp), h.box i hi, List.getD_eq_getElem?_getD, List.getD_eq_getElem?_getD, List.getElem?_set_ne e]
  · rw [World.frozen?_setCell]
    rw [List.length_set] at hi
    exact h.free i hi
theorem BoxF.at {W : World} {g j : Nat} {cs : List Value} {v : Value} (h : BoxF W g cs) (hv : cs[j]? = some v) : W.cell? ⟨g, j, none⟩ = some v := by
  obtain ⟨hj, hv'⟩ := List.getElem?_eq_some_iff.1 hv
  rw [h.box j hj, List.getD_eq_getElem?_getD, hv]
  rfl

section
variable {P : Program} {ops : Array Oper} {rest : List Oper} {o : Oper} {a : Act} {w : World} {Q : Exit → Act → World → Prop} {K : Act → World → Prop} {E : Prop}

/-- A struct is laid over an object. -/
theorem wpl_store_box (hgd : o.guard = none) (ty : TypeId) (x y : Operand) (ho : o.op = .store ty x y) (g : Nat) (ds : List Value) (hx : a.eval x = .pointer (some ⟨g, 0, none⟩)) (hy : a.eval y = .agg ds.toArray)
    {cs : List Value} (B : BoxF w g cs) (hl : cs.length = ds.length) (hi : (P.info? ty).map (·.size) = some ds.length) (h1 : ds.all (·.oneCell') = true)
    (h : ∀ w', BoxF w' g ds → On g w w' → wpList P ops Q rest (a.put o.dst undef) w') : wpList P ops Q (o :: rest) a w :=
  wpList_store_mid hgd ty x y ho g 0 ds.toArray hx hy (by have := B.there; rwa [hl] at this) (by simpa using hi) (by simpa using h1) (h _ (by simpa using B.sets hl) (On.sets w 0 _))

theorem step_store_box (hgd : o.guard = none) (ty : TypeId) (x y : Operand) (ho : o.op = .store ty x y) (g : Nat) (ds : List Value) (hx : a.eval x = .pointer (some ⟨g, 0, none⟩)) (hy : a.eval y = .agg ds.toArray)
    {cs : List Value} (B : BoxF w g cs) (hl : cs.length = ds.length) (hi : (P.info? ty).map (·.size) = some ds.length) (h1 : ds.all (·.oneCell') = true)
    (h : ∀ w', BoxF w' g ds → On g w w' → K (a.put o.dst undef) w') : if Region.wanted o (yielded ops a.tmps) = true then Oper.wp P o a w K Q else E := by
  have hw : Region.wanted o (yielded ops a.tmps) = true := by simp [Region.wanted, hgd]
  rw [if_pos hw]
  exact wp_store_mid ty x y ho g 0 ds.toArray hx hy (by have := B.there; rwa [hl] at this) (by simpa using hi) (by simpa using h1) (h _ (by simpa using B.sets hl) (On.sets w 0 _))

theorem run_store_cell (ty : TypeId) (g j : Nat) (v : Value) (hv : v.cells = #[v]) (h1 : v.oneCell' = true) (hi : (P.info? ty).map (·.size) = some 1) {cs : List Value} (B : BoxF w g cs) (hj : j < cs.length) :
    (storeVar ty ⟨g, j, none⟩ v).run P w = .ok () (w.setCell ⟨g, j, none⟩ v) := by
  have := run_storeCells_cells (P := P) g j [v] 0 w (fun i hi => by simp at hi; subst hi; show (w.cell? ⟨g, j, none⟩).isSome = true; rw [B.box j hj]; rfl)
    (fun i hi => by simp at hi; subst hi; exact B.free j hj) (fun u hu => by simp at hu; subst hu; exact h1)
  cases hq : P.info? ty with
  | none => simp [hq] at hi
  | some i =>
    have hs : i.size = 1 := by simpa [hq] using hi
    simp only [Nat.add_zero] at this
    simp [storeVar, sizeOf, typeInfo, hq, hs, hv, this, World.setCells]

/-- One field of an object is set. -/
theorem wpl_store_cell (hgd : o.guard = none) (ty : TypeId) (x y : Operand) (ho : o.op = .store ty x y) (g j : Nat) (v : Value) (hx : a.eval x = .pointer (some ⟨g, j, none⟩)) (hy : a.eval y = v)
    (hv : v.cells = #[v]) (h1 : v.oneCell' = true) (hi : (P.info? ty).map (·.size) = some 1) {cs : List Value} (B : BoxF w g cs) (hj : j < cs.length)
    (h : ∀ w', BoxF w' g (cs.set j v) → On g w w' → wpList P ops Q rest (a.put o.dst undef) w') : wpList P ops Q (o :: rest) a w := by
  refine wpList_plain hgd fun K hK => ?_
  unfold Oper.wp execOp
  simp only [ho, hx, hy, Instr.storeAt, Instr.sureAddr, Sem.run_bind, Sem.run_pure, Result.andThen_ok, run_store_cell ty g j v hv h1 hi B hj]
  exact hK _ _ (h _ (B.set j v) ((On.refl g w).set j v))

theorem step_store_cell (hgd : o.guard = none) (ty : TypeId) (x y : Operand) (ho : o.op = .store ty x y) (g j : Nat) (v : Value) (hx : a.eval x = .pointer (some ⟨g, j, none⟩)) (hy : a.eval y = v)
    (hv : v.cells = #[v]) (h1 : v.oneCell' = true) (hi : (P.info? ty).map (·.size) = some 1) {cs : List Value} (B : BoxF w g cs) (hj : j < cs.length)
    (h : ∀ w', BoxF w' g (cs.set j v) → On g w w' → K (a.put o.dst undef) w') : if Region.wanted o (yielded ops a.tmps) = true then Oper.wp P o a w K Q else E := by
  have hw : Region.wanted o (yielded ops a.tmps) = true := by simp [Region.wanted, hgd]
  rw [if_pos hw]
  unfold Oper.wp execOp
  simp only [ho, hx, hy, Instr.storeAt, Instr.sureAddr, Sem.run_bind, Sem.run_pure, Result.andThen_ok, run_store_cell ty g j v hv h1 hi B hj]
  exact h _ (B.set j v) ((On.refl g w).set j v)

/-- A struct is read whole. -/
theorem wpl_load_box (hgd : o.guard = none) (ty : TypeId) (x : Operand) (ho : o.op = .load ty x) (g : Nat) (hx : a.eval x = .pointer (some ⟨g, 0, none⟩)) {cs : List Value} {d : TypeDesc} (B : BoxF w g cs)
    (hu : P.underlying ty = some d) (hd : d.isRow = true) (hi : (P.info? ty).map (·.size) = some cs.length)
    (h : wpList P ops Q rest (a.put o.dst (.agg cs.toArray)) w) : wpList P ops Q (o :: rest) a w :=
  wpList_load_mid hgd ty x ho g 0 hx cs d B.box.range hu hd hi h

/-- '[]byte(s)'. -/
theorem wpl_bytes (hT : BT P) (s : ByteArray) (hn : s.size ≤ maxLen) (hgd : o.guard = none) (x : Operand) (ho : o.op = .convert 9 23 x) (hx : a.eval x = .string s)
    (h : ∀ A m c w', Rd w' (.slice A m c) s.data.toList → (Value.slice A m c).ownBlock = some w.heap.size → Ext w w' → wpList P ops Q rest (a.put o.dst (.slice A m c)) w') : wpList P ops Q (o :: rest) a w := by
  have hr := Lib.run_convert_string_bytes (P := P) w 9 23 5 s hT.st hT.sl hT.el
  refine wpl_val hgd (v := .slice (some ⟨w.heap.size, 0, none⟩) s.size (grownCap w s.size 0 5)) (w' := Lib.bytesWorld w 5 s) ?_ (h _ _ _ _ ?_ rfl ?_)
  · unfold execOp
    simp only [ho, hx, hr, Sem.run_bind, Sem.run_pure, Result.andThen_ok]
  · refine ⟨_, _, by rw [size_toList], by rw [size_toList]; exact grownCap_ge _ _ _ _, grownCap_le_maxLen _ _ _ _ hn, (fun h => by cases h), fun _ => ⟨_, 0, rfl, fun j hj => ?_⟩⟩
    rw [size_toList] at hj
    rw [Nat.zero_add]
    exact Lib.bytesWorld_cell w 5 s j hj
  · exact ⟨rfl, rfl, rfl, by rw [Lib.bytesWorld_size]; omega, fun k hk => Lib.bytesWorld_at_old w 5 s k hk⟩

/-- The end of a function that gives an object and an error. -/
theorem ret_box {fn : Func} {R : Ending → World → Prop} {p u : Tmp} {ty : TypeId} {g : Nat} {cs : List Value} {d : TypeDesc} {r : Value} (h : fn.results = #[.cell p ty, .tmp u]) (hd : a.defers = [])
    (hp : a.tmps.getD p undef = .pointer (some ⟨g, 0, none⟩)) (hr : a.tmps.getD u undef = r) (B : BoxF w g cs) (hu : P.underlying ty = some d) (hrow : d.isRow = true) (hi : (P.info? ty).map (·.size) = some cs.length)
    (hR : R (.returned (.tuple #[.agg cs.toArray, r])) w) : bodyPost P fn R .ret a w := by
  refine bodyPost_ret (v := .tuple #[.agg cs.toArray, r]) ?_ hd hR
  rw [results_cell_tmp h, hp, hr]
  simp only [asAddr, Sem.run_pure, Result.andThen_ok, run_loadVar_mid w g 0 ty cs d B.box.range hu hrow hi]
end
end Go.Proofs.Ytdjnjhlgpflcjaa
