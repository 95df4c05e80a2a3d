import Derived.Test.YtbodppfpmpmadaaGreatL2C
import Derived.Test.YtbodppfpmpmadaaGreatL1C
/- The object of a hash; arrays of words; the schedule. -/
namespace Go.Proofs.YtbodppfpmpmadaaGreat
open Go.RowKit

/-- The cells of a hash. -/
def hashC (kind : Int) (ws : List Int) (rest : List UInt8) (n all : Int) : List Value := .int .i64 kind :: (ws.map (Value.int .u32) ++ (bc rest ++ [.int .i64 n, .int .i64 all]))
theorem hashC_length (kind : Int) (ws : List Int) (rest : List UInt8) (n all : Int) : (hashC kind ws rest n all).length = ws.length + rest.length + 3 := by simp [hashC, bc_length]; omega
/-- The cells of an array of words that is filled from its head. -/
def arrC (p : List Int) (N : Nat) : List Value := (p ++ List.replicate (N - p.length) 0).map (Value.int .u32)

theorem arrC_length (p : List Int) (N : Nat) (h : p.length ≤ N) : (arrC p N).length = N := by simp [arrC]; omega
theorem arrC_get (p : List Int) (N j : Nat) (h : j < p.length) : (arrC p N)[j]? = some (.int .u32 (p.getD j 0)) := by
  rw [arrC, List.getElem?_map, List.getElem?_append_left h, List.getD_eq_getElem?_getD, List.getElem?_eq_getElem h]
  rfl
theorem arrC_set (p : List Int) (N : Nat) (x : Int) (h : p.length < N) : (arrC p N).set p.length (.int .u32 x) = arrC (p ++ [x]) N := by
  obtain ⟨m, hm⟩ : ∃ m, N - p.length = m + 1 := ⟨N - p.length - 1, by omega⟩
  have h2 : N - (p ++ [x]).length = m := by simp; omega
  rw [arrC, arrC, hm, h2, List.replicate_succ, List.map_append, List.map_cons, List.map_append, List.map_append]
  rw [List.set_append_right _ _ (by simp)]
  simp

/-- The words of a schedule of SHA-1, one behind the other. -/
def sch1 (rest : List UInt8) : Nat → List Int
  | 0 => []
  | t + 1 => sch1 rest t ++ [if t < 16 then wordS (rest.getD (4 * t) 0) (rest.getD (4 * t + 1) 0) (rest.getD (4 * t + 2) 0) (rest.getD (4 * t + 3) 0)
      else rolS (bits .xor .u32 (bits .xor .u32 (bits .xor .u32 ((sch1 rest t).getD (t - 3) 0) ((sch1 rest t).getD (t - 8) 0)) ((sch1 rest t).getD (t - 14) 0)) ((sch1 rest t).getD (t - 16) 0)) 1]
theorem sch1_length (rest : List UInt8) : ∀ t, (sch1 rest t).length = t
  | 0 => rfl
  | t + 1 => by rw [sch1, List.length_append, sch1_length rest t]; rfl

/-- A sum of words. -/
def add32 (x y : Int) : Int := IntKind.u32.wrap (x + y)
/-- f and k of SHA-1. -/
def f1 (t : Nat) (b c d : Int) : Int :=
  if t < 20 then bits .xor .u32 (bits .and .u32 b c) (bits .and .u32 (bits .xor .u32 IntKind.u32.max b) d)
  else if t < 40 then bits .xor .u32 (bits .xor .u32 b c) d
  else if t < 60 then bits .xor .u32 (bits .xor .u32 (bits .and .u32 b c) (bits .and .u32 b d)) (bits .and .u32 c d)
  else bits .xor .u32 (bits .xor .u32 b c) d
def k1 (t : Nat) : Int := if t < 20 then 1518500249 else if t < 40 then 1859775393 else if t < 60 then 2400959708 else 3395469782
/-- A round of SHA-1; so many rounds. -/
def rnd1 (p : List Int) (s : Int × Int × Int × Int × Int) (t : Nat) : Int × Int × Int × Int × Int :=
  (add32 (add32 (add32 (add32 (rolS s.1 5) (f1 t s.2.1 s.2.2.1 s.2.2.2.1)) s.2.2.2.2) (k1 t)) (p.getD t 0), s.1, rolS s.2.1 30, s.2.2.1, s.2.2.2.1)
def rnds1 (p : List Int) (s : Int × Int × Int × Int × Int) : Nat → Int × Int × Int × Int × Int
  | 0 => s
  | t + 1 => rnd1 p (rnds1 p s t) t
theorem f1_a (t : Nat) (b c d : Int) (h : t < 20) : f1 t b c d = bits .xor .u32 (bits .and .u32 b c) (bits .and .u32 (bits .xor .u32 IntKind.u32.max b) d) ∧ k1 t = 1518500249 := by simp [f1, k1, h]
theorem f1_b (t : Nat) (b c d : Int) (h : ¬ t < 20) (h2 : t < 40) : f1 t b c d = bits .xor .u32 (bits .xor .u32 b c) d ∧ k1 t = 1859775393 := by simp [f1, k1, h, h2]
theorem f1_c (t : Nat) (b c d : Int) (h : ¬ t < 20) (h2 : ¬ t < 40) (h3 : t < 60) : f1 t b c d = bits .xor .u32 (bits .xor .u32 (bits .and .u32 b c) (bits .and .u32 b d)) (bits .and .u32 c d) ∧ k1 t = 2400959708 := by simp [f1, k1, h, h2, h3]
theorem f1_d (t : Nat) (b c d : Int) (h : ¬ t < 20) (h2 : ¬ t < 40) (h3 : ¬ t < 60) : f1 t b c d = bits .xor .u32 (bits .xor .u32 b c) d ∧ k1 t = 3395469782 := by simp [f1, k1, h, h2, h3]
theorem rnds1_succ {p : List Int} {s : Int × Int × Int × Int × Int} {t : Nat} {a b c d e f k : Int} (h : rnds1 p s t = (a, b, c, d, e)) (hf : f1 t b c d = f ∧ k1 t = k) :
    rnds1 p s (t + 1) = (add32 (add32 (add32 (add32 (rolS a 5) f) e) k) (p.getD t 0), a, rolS b 30, c, d) := by
  rw [rnds1, h, rnd1]
  dsimp only
  rw [hf.1, hf.2]

/-- The first words, each with a number added. -/
def addW (ws vs : List Int) (j : Nat) : List Int := (List.zipWith add32 ws vs).take j ++ ws.drop j
/-- SHA-1 works on a block. -/
def comp1 (ws : List Int) (rest : List UInt8) : List Int :=
  let r := rnds1 (sch1 rest 80) (ws.getD 0 0, ws.getD 1 0, ws.getD 2 0, ws.getD 3 0, ws.getD 4 0) 80
  addW ws [r.1, r.2.1, r.2.2.1, r.2.2.2.1, r.2.2.2.2] 5

/-- What is not yet worked on, from a place on. -/
theorem hash_rest {W : World} {g : Nat} {kind : Int} {ws : List Int} {rest : List UInt8} {n all : Int} (h : BoxF W g (hashC kind ws rest n all)) (hw : ws.length = 8) (hr : rest.length = 64) (j m : Nat) (hj : j < 64) (hm : m = 64 - j) :
    Rd W (.slice (some ⟨g, 9 + j, none⟩) m m) (rest.drop j) := by
  refine ⟨_, m, by rw [List.length_drop, hr, hm], by rw [List.length_drop]; omega, by unfold maxLen; omega, (fun h => by cases h), fun _ => ⟨g, 9 + j, rfl, fun i hi => ?_⟩⟩
  rw [List.length_drop, hr] at hi
  have hc := bc_get rest (j + i) (by omega)
  refine (h.at (j := 9 + j + i) ?_)
  rw [hashC, show 9 + j + i = (8 + (j + i)) + 1 by omega, List.getElem?_cons_succ, List.getElem?_append_right (by simp [hw]), List.length_map, hw, show 8 + (j + i) - 8 = j + i by omega, List.getElem?_append_left (by rw [bc_length]; omega), hc]
  simp [List.getD_eq_getElem?_getD, List.getElem?_drop]

section
variable {P : Program} {ops : Array Oper} {rest : List Oper} {o : Oper} {a : Act} {w : World} {Q : Exit → Act → World → Prop}
/-- A new variable. -/
theorem wpl_alloc (hgd : o.guard = none) (ty : TypeId) (ho : o.op = .alloc ty) (cs : List Value) (hz : (P.info? ty).map (·.zero) = some (some (.agg cs.toArray)))
    (h : ∀ w', BoxF w' w.heap.size cs → Ext w w' → wpList P ops Q rest (a.put o.dst (.pointer (some ⟨w.heap.size, 0, none⟩))) w') : wpList P ops Q (o :: rest) a w := by
  refine wpl_val hgd (v := .pointer (some ⟨w.heap.size, 0, none⟩)) (w' := w.alloc (.cells cs.toArray ty)) ?_ (h _ (BoxF.new w cs ty) ((Ext.refl w).alloc _))
  cases hq : P.info? ty with
  | none => simp [hq] at hz
  | some i =>
    have hs : i.zero = some (.agg cs.toArray) := by simpa [hq] using hz
    unfold execOp
    simp [ho, Instr.alloc, newVar, newRow, zeroValue, typeInfo, hq, hs, Value.cells]
/-- An array's bytes from a place on. -/
theorem wpl_slice_arr (hgd : o.guard = none) (t e : TypeId) (N : Nat) (ht : P.underlying t = some (.array N e)) (hs : ∀ w, (sizeOf e).run P w = .ok 1 w) (x lo : Operand) (k : IntKind) (ho : o.op = .slice t x (some lo) none none)
    (g b j : Nat) (hx : a.eval x = .pointer (some ⟨g, b, none⟩)) (I : Int) (hlo : a.eval lo = .int k I) (hI : I = (j : Int)) (hj : j < N)
    (h : wpList P ops Q rest (a.put o.dst (.slice (some ⟨g, b + j, none⟩) (N - j) (N - j))) w) : wpList P ops Q (o :: rest) a w := by
  subst hI
  refine wpl_val hgd (v := .slice (some ⟨g, b + j, none⟩) (N - j) (N - j)) (w' := w) ?_ h
  have hl : P.arrayLen t = N := by unfold Program.arrayLen; rw [ht]
  have he : P.elem t = e := by unfold Program.elem; rw [ht]
  have hr := run_sliceAt_array_l (P := P) w t ⟨g, b, none⟩ (by rw [hl, he]; exact ht) k (j : Int) (by omega) (by rw [hl]; omega)
  rw [hl, he, hs w] at hr
  unfold execOp
  simp only [ho, hx, hlo, Option.map_some, Option.map_none, hr, Sem.run_bind, Sem.run_pure, Result.andThen_ok, slicedAt, Int.toNat_natCast, Nat.mul_one]
  rw [if_neg (by omega)]
  simp [Addr.add]
end
end Go.Proofs.YtbodppfpmpmadaaGreat
/- SHA-1 works on a block. -/
namespace Go.Proofs.YtbodppfpmpmadaaGreat
open Go.RowKit

theorem drop4 {l : List UInt8} {j : Nat} (h : j + 3 < l.length) : l.drop j = l.getD j 0 :: l.getD (j + 1) 0 :: l.getD (j + 2) 0 :: l.getD (j + 3) 0 :: l.drop (j + 4) := by
  have g : ∀ i (hi : i < l.length), l.getD i 0 = l[i] := fun i hi => by rw [List.getD_eq_getElem?_getD, List.getElem?_eq_getElem hi]; rfl
  rw [g j (by omega), g (j + 1) (by omega), g (j + 2) (by omega), g (j + 3) (by omega)]
  rw [List.drop_eq_getElem_cons (by omega), List.drop_eq_getElem_cons (i := j + 1) (by omega), List.drop_eq_getElem_cons (i := j + 1 + 1) (by omega), List.drop_eq_getElem_cons (i := j + 1 + 1 + 1) (by omega)]

set_option maxRecDepth 100000 in
set_option maxHeartbeats 2000000 in
theorem block1_c (w : World) (h : Nat) (kind : Int) (ws : List Int) (rest : List UInt8) (n all : Int) (H : BoxF w h (hashC kind ws rest n all)) (hw : ws.length = 8) (hr : rest.length = 64) :
    Calls Tryz.prog 209 #[.pointer (some ⟨h, 0, none⟩)] w fun e w' => e = .returned (.tuple #[]) ∧ On h w w' ∧ BoxF w' h (hashC kind (comp1 ws rest) rest n all) := by
  obtain ⟨y0, y1, y2, y3, y4, y5, y6, y7, rfl⟩ : ∃ a b c d e f g i, ws = [a, b, c, d, e, f, g, i] := by
    match ws, hw with
    | [a, b, c, d, e, f, g, i], _ => exact ⟨a, b, c, d, e, f, g, i, rfl⟩
  have H0 := Lib.hid H
  clear H
  go_enter Tryz.func209, Tryz.ntmps209
  go_wp2_with ((with_reducible show wpList _ _ _ (⟨some 2, Op.alloc _, _, _, _, _⟩ :: _) _ _); refine wpl_alloc rfl _ rfl (arrC [] 80) (by kernel_rfl) ?_; intro w1 B1 hx1)
  go_loopw [3, 15] (fun _ i W => ∃ t : Nat, t ≤ 80 ∧ i = .int .i64 t ∧ BoxF W w.heap.size (arrC (sch1 rest t) 80) ∧ Ext w W) (fun _ i _ => 80 - (intOf i).toNat)
  case atStart => exact ⟨0, Nat.zero_le _, rfl, B1, hx1⟩
  case round =>
    obtain ⟨t, ht, rfl, B, hx⟩ := hrel
    have HB := Lib.hid B
    by_cases h16 : t < 16
    · have m0 : IntKind.i64.wrap (4 * (t : Int)) = ((4 * t : Nat) : Int) := by rw [IntKind.wrap_i64]; omega
      have hlen := sch1_length rest t
      have hd := drop4 (l := rest) (j := 4 * t) (by omega)
      have hR := hash_rest (H0.out.ext hx) hw hr (4 * t) (64 - 4 * t) (by omega) rfl
      rw [hd] at hR
      go_wp2_with (first
        | ((with_reducible show wpList _ _ _ (⟨some 26, _, _, _, _, _⟩ :: _) _ _); refine wpl_slice_arr rfl _ _ 64 Tryz.underlying185 (sizeOf_u8 bt) _ _ _ rfl h 9 (4 * t) rfl _ rfl (by omega) (by omega) ?_)
        | (go_at_call 217; refine (word_c _ _ _ _ _ _ _ hR).mono ?_; rintro e w2 ⟨rfl, hx2⟩; have B2 := B.ext hx2)
        | ((with_reducible show wpList _ _ _ (⟨none, Op.store _ _ _, _, _, _, _⟩ :: _) _ _); refine wpl_store_cell rfl _ _ _ rfl _ t (.int .u32 (wordS (rest.getD (4 * t) 0) (rest.getD (4 * t + 1) 0) (rest.getD (4 * t + 2) 0) (rest.getD (4 * t + 3) 0))) rfl rfl rfl rfl (by kernel_rfl) B2 (by rw [arrC_length _ _ (by omega)]; omega) ?_; intro w3 B3 O3)
        | fail)
      have e := arrC_set (sch1 rest t) 80 (wordS (rest.getD (4 * t) 0) (rest.getD (4 * t + 1) 0) (rest.getD (4 * t + 2) 0) (rest.getD (4 * t + 3) 0)) (by omega)
      rw [hlen] at e
      rw [e] at B3
      have e2 : sch1 rest (t + 1) = sch1 rest t ++ [wordS (rest.getD (4 * t) 0) (rest.getD (4 * t + 1) 0) (rest.getD (4 * t + 2) 0) (rest.getD (4 * t + 3) 0)] := by rw [sch1, if_pos h16]
      go_roundw
      case rel => exact ⟨t + 1, by omega, by go_num, by rw [e2]; exact B3, (hx.trans hx2).on O3 (Nat.le_refl _)⟩
      case measure => simp [intOf]; omega
    · by_cases h80 : t < 80
      · have hlen := sch1_length rest t
        obtain ⟨a3, ha3⟩ : ∃ a3, a3 = t - 3 := ⟨_, rfl⟩
        obtain ⟨a8, ha8⟩ : ∃ a8, a8 = t - 8 := ⟨_, rfl⟩
        obtain ⟨a14, ha14⟩ : ∃ a14, a14 = t - 14 := ⟨_, rfl⟩
        obtain ⟨a16, ha16⟩ : ∃ a16, a16 = t - 16 := ⟨_, rfl⟩
        have m3 : IntKind.i64.wrap ((t : Int) - 3) = (a3 : Int) := by rw [IntKind.wrap_i64]; omega
        have m8 : IntKind.i64.wrap ((t : Int) - 8) = (a8 : Int) := by rw [IntKind.wrap_i64]; omega
        have m14 : IntKind.i64.wrap ((t : Int) - 14) = (a14 : Int) := by rw [IntKind.wrap_i64]; omega
        have m16 : IntKind.i64.wrap ((t : Int) - 16) = (a16 : Int) := by rw [IntKind.wrap_i64]; omega
        have b3 : (a3 : Int) < 80 := by omega
        have b8 : (a8 : Int) < 80 := by omega
        have b14 : (a14 : Int) < 80 := by omega
        have b16 : (a16 : Int) < 80 := by omega
        have n3 : a3 < 80 := by omega
        have n8 : a8 < 80 := by omega
        have n14 : a14 < 80 := by omega
        have n16 : a16 < 80 := by omega
        have e2 : sch1 rest (t + 1) = sch1 rest t ++ [rolS (bits .xor .u32 (bits .xor .u32 (bits .xor .u32 ((sch1 rest t).getD a3 0) ((sch1 rest t).getD a8 0)) ((sch1 rest t).getD a14 0)) ((sch1 rest t).getD a16 0)) 1] := by
          rw [sch1, if_neg h16, ha3, ha8, ha14, ha16]
        have c3 := B.at (arrC_get (sch1 rest t) 80 a3 (by omega))
        have c8 := B.at (arrC_get (sch1 rest t) 80 a8 (by omega))
        have c14 := B.at (arrC_get (sch1 rest t) 80 a14 (by omega))
        have c16 := B.at (arrC_get (sch1 rest t) 80 a16 (by omega))
        generalize (sch1 rest t).getD a3 0 = x3 at c3 e2
        generalize (sch1 rest t).getD a8 0 = x8 at c8 e2
        generalize (sch1 rest t).getD a14 0 = x14 at c14 e2
        generalize (sch1 rest t).getD a16 0 = x16 at c16 e2
        have hz : wr.cell? ⟨w.heap.size, t, none⟩ = some (.int .u32 0) := by
          refine B.at ?_
          rw [arrC, List.getElem?_map, List.getElem?_append_right (by omega), hlen, Nat.sub_self]
          obtain ⟨q, hq⟩ : ∃ q, 80 - t = q + 1 := ⟨80 - t - 1, by omega⟩
          rw [hq]
          rfl
        have hf := B.free t (by rw [arrC_length _ _ (by omega)]; omega)
        obtain ⟨X, hX⟩ : ∃ X, X = rolS (bits .xor .u32 (bits .xor .u32 (bits .xor .u32 x3 x8) x14) x16) 1 := ⟨_, rfl⟩
        have d3 : (World.drew wr).cell? ⟨w.heap.size, a3, none⟩ = some (.int .u32 x3) := c3
        have d8 : (World.drew wr).cell? ⟨w.heap.size, a8, none⟩ = some (.int .u32 x8) := c8
        have d14 : (World.drew wr).cell? ⟨w.heap.size, a14, none⟩ = some (.int .u32 x14) := c14
        have d16 : (World.drew wr).cell? ⟨w.heap.size, a16, none⟩ = some (.int .u32 x16) := c16
        have f3 : (World.drew (wr.setCell ⟨w.heap.size, t, none⟩ (.int .u32 X))).cell? ⟨w.heap.size, a3, none⟩ = some (.int .u32 x3) := (World.cell?_setCell_other _ _ _ _ (by simp <;> omega)).trans c3
        have f8 : (World.drew (wr.setCell ⟨w.heap.size, t, none⟩ (.int .u32 X))).cell? ⟨w.heap.size, a8, none⟩ = some (.int .u32 x8) := (World.cell?_setCell_other _ _ _ _ (by simp <;> omega)).trans c8
        have f14 : (World.drew (wr.setCell ⟨w.heap.size, t, none⟩ (.int .u32 X))).cell? ⟨w.heap.size, a14, none⟩ = some (.int .u32 x14) := (World.cell?_setCell_other _ _ _ _ (by simp <;> omega)).trans c14
        have f16 : (World.drew (wr.setCell ⟨w.heap.size, t, none⟩ (.int .u32 X))).cell? ⟨w.heap.size, a16, none⟩ = some (.int .u32 x16) := (World.cell?_setCell_other _ _ _ _ (by simp <;> omega)).trans c16
        clear ha3 ha8 ha14 ha16
        have HX := Lib.hid hX
        clear hX
        go_wp2_with fail
        go_region_held3 (fun W' => W'.cell? ⟨w.heap.size, a3, none⟩ = some (.int .u32 x3) ∧ W'.cell? ⟨w.heap.size, a8, none⟩ = some (.int .u32 x8) ∧ W'.cell? ⟨w.heap.size, a14, none⟩ = some (.int .u32 x14) ∧ W'.cell? ⟨w.heap.size, a16, none⟩ = some (.int .u32 x16))
          ((first | (with_reducible exact ⟨d3, d8, d14, d16⟩) | (with_reducible exact ⟨f3, f8, f14, f16⟩) | fail))
          (first | (go_at_call 218; refine (rotl_1 _ _).mono ?_; rintro e w2 ⟨rfl, rfl⟩; rw [← HX.out]) | fail)
        go_wp2_with fail
        have B3 := (B.set t (.int .u32 X)).ext (Ext.refl _).drew
        have e := arrC_set (sch1 rest t) 80 X (by omega)
        rw [hlen] at e
        rw [e] at B3
        rw [← HX.out] at e2
        go_roundw
        case rel => exact ⟨t + 1, by omega, by go_num, by rw [e2]; exact B3, (hx.on ((On.refl _ wr).set t (.int .u32 X)) (Nat.le_refl _)).drew⟩
        case measure => simp [intOf]; omega
      · obtain rfl : t = 80 := by omega
        simp only [Int.cast_ofNat_Int]
        have HW := Lib.hid (H0.out.ext hx)
        have q1 : wr.cell? ⟨h, 1, none⟩ = some (.int .u32 y0) := HW.out.at (j := 1) rfl
        have q2 : wr.cell? ⟨h, 2, none⟩ = some (.int .u32 y1) := HW.out.at (j := 2) rfl
        have q3 : wr.cell? ⟨h, 3, none⟩ = some (.int .u32 y2) := HW.out.at (j := 3) rfl
        have q4 : wr.cell? ⟨h, 4, none⟩ = some (.int .u32 y3) := HW.out.at (j := 4) rfl
        have q5 : wr.cell? ⟨h, 5, none⟩ = some (.int .u32 y4) := HW.out.at (j := 5) rfl
        have qd : (World.drew wr).cell? ⟨h, 1, none⟩ = some (.int .u32 y0) ∧ (World.drew wr).cell? ⟨h, 2, none⟩ = some (.int .u32 y1) ∧ (World.drew wr).cell? ⟨h, 3, none⟩ = some (.int .u32 y2) ∧ (World.drew wr).cell? ⟨h, 4, none⟩ = some (.int .u32 y3) ∧ (World.drew wr).cell? ⟨h, 5, none⟩ = some (.int .u32 y4) := ⟨q1, q2, q3, q4, q5⟩
        go_wp2_with fail
        go_region_held3 (fun W' => W'.cell? ⟨h, 1, none⟩ = some (.int .u32 y0) ∧ W'.cell? ⟨h, 2, none⟩ = some (.int .u32 y1) ∧ W'.cell? ⟨h, 3, none⟩ = some (.int .u32 y2) ∧ W'.cell? ⟨h, 4, none⟩ = some (.int .u32 y3) ∧ W'.cell? ⟨h, 5, none⟩ = some (.int .u32 y4)) ((first | (with_reducible exact qd) | fail)) (fail)
        clear q1 q2 q3 q4 q5 qd HB
        go_wp2_with fail
        have hlp0 := sch1_length rest 80
        obtain ⟨p, hpe⟩ : ∃ p, p = sch1 rest 80 := ⟨_, rfl⟩
        rw [← hpe] at B hlp0
        have HPE := Lib.hid hpe
        clear hpe
        have HLP := Lib.hid hlp0
        clear hlp0
        generalize hwd : World.drew wr = wd
        have Bd := B.ext (Ext.refl _).drew
        have hxd := hx.drew
        rw [hwd] at Bd hxd
        go_loopw [4, 5, 6, 7, 8, 9, 10, 11, 12, 77] (fun a b c d e _ _ _ _ i W => ∃ t : Nat, ∃ A B' C D E : Int, t ≤ 80 ∧ i = .int .i64 t ∧ a = .int .u32 A ∧ b = .int .u32 B' ∧ c = .int .u32 C ∧ d = .int .u32 D ∧ e = .int .u32 E ∧ BoxF W w.heap.size (arrC p 80) ∧ Ext w W ∧ rnds1 p (y0, y1, y2, y3, y4) t = (A, B', C, D, E)) (fun _ _ _ _ _ _ _ _ _ i _ => 80 - (intOf i).toNat)
        case atStart => exact ⟨0, _, _, _, _, _, Nat.zero_le _, rfl, rfl, rfl, rfl, rfl, rfl, Bd, hxd, rfl⟩
        case round =>
          obtain ⟨t, xa, xb, xc, xd, xe, ht2, rfl, rfl, rfl, rfl, rfl, rfl, B2, hx2, hs⟩ := hrel
          have HS := Lib.hid hs
          clear hs
          by_cases h20 : t < 20
          · have j0 : (t : Int).tdiv 20 = 0 := by rw [Int.tdiv_eq_ediv_of_nonneg (by omega)]; omega
            have hlp : p.length = 80 := HLP.out
            have ct := B2.at (arrC_get p 80 t (by omega))
            have ctd : (World.drew wr).cell? ⟨w.heap.size, t, none⟩ = some (.int .u32 (p.getD t 0)) := ct
            have tb : (t : Int) < 80 := by omega
            have tn : t < 80 := by omega
            clear hlp
            go_wp2_with fail
            go_region_held3 (fun W' => W'.cell? ⟨w.heap.size, t, none⟩ = some (.int .u32 (p.getD t 0))) ((first | (with_reducible exact ctd) | fail))
              (first | (go_at_call 218; refine (rotl_5 _ _).mono ?_; rintro e w2 ⟨rfl, rfl⟩) | fail)
            go_wp2_with (first | (go_at_call 218; refine (rotl_30 _ _).mono ?_; rintro e w2 ⟨rfl, rfl⟩) | fail)
            go_roundw
            case rel => exact ⟨t + 1, _, _, _, _, _, by omega, by go_num, rfl, rfl, rfl, rfl, rfl, B2.ext (Ext.refl _).drew, hx2.drew, rnds1_succ HS.out (f1_a t _ _ _ h20)⟩
            case measure => simp [intOf]; omega
          by_cases h40 : t < 40
          · have j0 : (t : Int).tdiv 20 = 1 := by rw [Int.tdiv_eq_ediv_of_nonneg (by omega)]; omega
            have hlp : p.length = 80 := HLP.out
            have ct := B2.at (arrC_get p 80 t (by omega))
            have ctd : (World.drew wr).cell? ⟨w.heap.size, t, none⟩ = some (.int .u32 (p.getD t 0)) := ct
            have tb : (t : Int) < 80 := by omega
            have tn : t < 80 := by omega
            clear hlp
            go_wp2_with fail
            go_region_held3 (fun W' => W'.cell? ⟨w.heap.size, t, none⟩ = some (.int .u32 (p.getD t 0))) ((first | (with_reducible exact ctd) | fail))
              (first | (go_at_call 218; refine (rotl_5 _ _).mono ?_; rintro e w2 ⟨rfl, rfl⟩) | fail)
            go_wp2_with (first | (go_at_call 218; refine (rotl_30 _ _).mono ?_; rintro e w2 ⟨rfl, rfl⟩) | fail)
            go_roundw
            case rel => exact ⟨t + 1, _, _, _, _, _, by omega, by go_num, rfl, rfl, rfl, rfl, rfl, B2.ext (Ext.refl _).drew, hx2.drew, rnds1_succ HS.out (f1_b t _ _ _ h20 h40)⟩
            case measure => simp [intOf]; omega
          by_cases h60 : t < 60
          · have j0 : (t : Int).tdiv 20 = 2 := by rw [Int.tdiv_eq_ediv_of_nonneg (by omega)]; omega
            have hlp : p.length = 80 := HLP.out
            have ct := B2.at (arrC_get p 80 t (by omega))
            have ctd : (World.drew wr).cell? ⟨w.heap.size, t, none⟩ = some (.int .u32 (p.getD t 0)) := ct
            have tb : (t : Int) < 80 := by omega
            have tn : t < 80 := by omega
            clear hlp
            go_wp2_with fail
            go_region_held3 (fun W' => W'.cell? ⟨w.heap.size, t, none⟩ = some (.int .u32 (p.getD t 0))) ((first | (with_reducible exact ctd) | fail))
              (first | (go_at_call 218; refine (rotl_5 _ _).mono ?_; rintro e w2 ⟨rfl, rfl⟩) | fail)
            go_wp2_with (first | (go_at_call 218; refine (rotl_30 _ _).mono ?_; rintro e w2 ⟨rfl, rfl⟩) | fail)
            go_roundw
            case rel => exact ⟨t + 1, _, _, _, _, _, by omega, by go_num, rfl, rfl, rfl, rfl, rfl, B2.ext (Ext.refl _).drew, hx2.drew, rnds1_succ HS.out (f1_c t _ _ _ h20 h40 h60)⟩
            case measure => simp [intOf]; omega
          by_cases h80 : t < 80
          · have j0 : (t : Int).tdiv 20 = 3 := by rw [Int.tdiv_eq_ediv_of_nonneg (by omega)]; omega
            have hlp : p.length = 80 := HLP.out
            have ct := B2.at (arrC_get p 80 t (by omega))
            have ctd : (World.drew wr).cell? ⟨w.heap.size, t, none⟩ = some (.int .u32 (p.getD t 0)) := ct
            have tb : (t : Int) < 80 := by omega
            have tn : t < 80 := by omega
            clear hlp
            go_wp2_with fail
            go_region_held3 (fun W' => W'.cell? ⟨w.heap.size, t, none⟩ = some (.int .u32 (p.getD t 0))) ((first | (with_reducible exact ctd) | fail))
              (first | (go_at_call 218; refine (rotl_5 _ _).mono ?_; rintro e w2 ⟨rfl, rfl⟩) | fail)
            go_wp2_with (first | (go_at_call 218; refine (rotl_30 _ _).mono ?_; rintro e w2 ⟨rfl, rfl⟩) | fail)
            go_roundw
            case rel => exact ⟨t + 1, _, _, _, _, _, by omega, by go_num, rfl, rfl, rfl, rfl, rfl, B2.ext (Ext.refl _).drew, hx2.drew, rnds1_succ HS.out (f1_d t _ _ _ h20 h40 h60)⟩
            case measure => simp [intOf]; omega
          obtain rfl : t = 80 := by omega
          simp only [Int.cast_ofNat_Int]
          go_wp2_with fail
          have BH0 : BoxF wr h (hashC kind (addW [y0, y1, y2, y3, y4, y5, y6, y7] [xa, xb, xc, xd, xe] 0) rest n all) := H0.out.ext hx2
          have O40 := On.of (g := h) hx2
          go_loopw [13, 14, 142] (fun _ _ i W => ∃ j : Nat, j ≤ 5 ∧ i = .int .i64 j ∧ BoxF W h (hashC kind (addW [y0, y1, y2, y3, y4, y5, y6, y7] [xa, xb, xc, xd, xe] j) rest n all) ∧ On h w W) (fun _ _ i _ => 5 - (intOf i).toNat)
          case atStart => exact ⟨0, Nat.zero_le _, rfl, BH0, O40⟩
          case round =>
            clear BH0 O40
            obtain ⟨j, hj, rfl, BH, O4⟩ := hrel
            have i0 : ∀ w : World, (Instr.index 202 (.agg #[.int .u32 xa, .int .u32 xb, .int .u32 xc, .int .u32 xd, .int .u32 xe]) (.int .i64 0)).run Tryz.prog w = .ok (.int .u32 xa) w := fun _ => by kernel_rfl
            have i1 : ∀ w : World, (Instr.index 202 (.agg #[.int .u32 xa, .int .u32 xb, .int .u32 xc, .int .u32 xd, .int .u32 xe]) (.int .i64 1)).run Tryz.prog w = .ok (.int .u32 xb) w := fun _ => by kernel_rfl
            have i2 : ∀ w : World, (Instr.index 202 (.agg #[.int .u32 xa, .int .u32 xb, .int .u32 xc, .int .u32 xd, .int .u32 xe]) (.int .i64 2)).run Tryz.prog w = .ok (.int .u32 xc) w := fun _ => by kernel_rfl
            have i3 : ∀ w : World, (Instr.index 202 (.agg #[.int .u32 xa, .int .u32 xb, .int .u32 xc, .int .u32 xd, .int .u32 xe]) (.int .i64 3)).run Tryz.prog w = .ok (.int .u32 xd) w := fun _ => by kernel_rfl
            have i4 : ∀ w : World, (Instr.index 202 (.agg #[.int .u32 xa, .int .u32 xb, .int .u32 xc, .int .u32 xd, .int .u32 xe]) (.int .i64 4)).run Tryz.prog w = .ok (.int .u32 xe) w := fun _ => by kernel_rfl
            have hj5 : j = 0 ∨ j = 1 ∨ j = 2 ∨ j = 3 ∨ j = 4 ∨ j = 5 := by omega
            rcases hj5 with rfl | rfl | rfl | rfl | rfl | rfl
            all_goals simp only [Int.cast_ofNat_Int]
            · have p := BH.at (j := 1) (v := .int .u32 y0) rfl
              have f := BH.free 1 (by rw [hashC_length, hr]; omega)
              go_wp2_with fail
              go_region
              all_goals
                go_wp2_with fail
                go_roundw
                case rel => exact ⟨1, by omega, rfl, (BH.set 1 (.int .u32 (add32 y0 xa))).ext (Ext.refl _).drew, (O4.set 1 _).ext (Ext.refl _).drew⟩
                case measure => simp [intOf]
            · have p := BH.at (j := 2) (v := .int .u32 y1) rfl
              have f := BH.free 2 (by rw [hashC_length, hr]; omega)
              go_wp2_with fail
              go_region
              all_goals
                go_wp2_with fail
                go_roundw
                case rel => exact ⟨2, by omega, rfl, (BH.set 2 (.int .u32 (add32 y1 xb))).ext (Ext.refl _).drew, (O4.set 2 _).ext (Ext.refl _).drew⟩
                case measure => simp [intOf]
            · have p := BH.at (j := 3) (v := .int .u32 y2) rfl
              have f := BH.free 3 (by rw [hashC_length, hr]; omega)
              go_wp2_with fail
              go_region
              all_goals
                go_wp2_with fail
                go_roundw
                case rel => exact ⟨3, by omega, rfl, (BH.set 3 (.int .u32 (add32 y2 xc))).ext (Ext.refl _).drew, (O4.set 3 _).ext (Ext.refl _).drew⟩
                case measure => simp [intOf]
            · have p := BH.at (j := 4) (v := .int .u32 y3) rfl
              have f := BH.free 4 (by rw [hashC_length, hr]; omega)
              go_wp2_with fail
              go_region
              all_goals
                go_wp2_with fail
                go_roundw
                case rel => exact ⟨4, by omega, rfl, (BH.set 4 (.int .u32 (add32 y3 xd))).ext (Ext.refl _).drew, (O4.set 4 _).ext (Ext.refl _).drew⟩
                case measure => simp [intOf]
            · have p := BH.at (j := 5) (v := .int .u32 y4) rfl
              have f := BH.free 5 (by rw [hashC_length, hr]; omega)
              go_wp2_with fail
              go_region
              all_goals
                go_wp2_with fail
                go_roundw
                case rel => exact ⟨5, by omega, rfl, (BH.set 5 (.int .u32 (add32 y4 xe))).ext (Ext.refl _).drew, (O4.set 5 _).ext (Ext.refl _).drew⟩
                case measure => simp [intOf]
            · go_wp2_with fail
              refine bodyPost_end (results_none rfl _ _ _) rfl ?_
              refine ⟨rfl, O4, ?_⟩
              have e : comp1 [y0, y1, y2, y3, y4, y5, y6, y7] rest = addW [y0, y1, y2, y3, y4, y5, y6, y7] [xa, xb, xc, xd, xe] 5 := by
                have hs := HS.out
                rw [HPE.out] at hs
                have hs' : rnds1 (sch1 rest 80) (List.getD [y0, y1, y2, y3, y4, y5, y6, y7] 0 0, List.getD [y0, y1, y2, y3, y4, y5, y6, y7] 1 0, List.getD [y0, y1, y2, y3, y4, y5, y6, y7] 2 0, List.getD [y0, y1, y2, y3, y4, y5, y6, y7] 3 0, List.getD [y0, y1, y2, y3, y4, y5, y6, y7] 4 0) 80 = (xa, xb, xc, xd, xe) := hs
                unfold comp1
                rw [hs']
              rw [e]
              exact BH
end Go.Proofs.YtbodppfpmpmadaaGreat
/- SHA-256 works on a block. (Printed by gen_shaE.py.) -/
namespace Go.Proofs.YtbodppfpmpmadaaGreat
open Go.RowKit

def K2 : List Int := [1116352408, 1899447441, 3049323471, 3921009573, 961987163, 1508970993, 2453635748, 2870763221, 3624381080, 310598401, 607225278, 1426881987, 1925078388, 2162078206, 2614888103, 3248222580, 3835390401, 4022224774, 264347078, 604807628, 770255983, 1249150122, 1555081692, 1996064986, 2554220882, 2821834349, 2952996808, 3210313671, 3336571891, 3584528711, 113926993, 338241895, 666307205, 773529912, 1294757372, 1396182291, 1695183700, 1986661051, 2177026350, 2456956037, 2730485921, 2820302411, 3259730800, 3345764771, 3516065817, 3600352804, 4094571909, 275423344, 430227734, 506948616, 659060556, 883997877, 958139571, 1322822218, 1537002063, 1747873779, 1955562222, 2024104815, 2227730452, 2361852424, 2428436474, 2756734187, 3204031479, 3329325298]
def sg0 (x : Int) : Int := bits .xor .u32 (bits .xor .u32 (rolS x 25) (rolS x 14)) (x / 8)
def sg1 (x : Int) : Int := bits .xor .u32 (bits .xor .u32 (rolS x 15) (rolS x 13)) (x / 1024)
/-- The words of a schedule of SHA-256, one behind the other. -/
def sch2 (rest : List UInt8) : Nat → List Int
  | 0 => []
  | t + 1 => sch2 rest t ++ [if t < 16 then wordS (rest.getD (4 * t) 0) (rest.getD (4 * t + 1) 0) (rest.getD (4 * t + 2) 0) (rest.getD (4 * t + 3) 0)
      else add32 (add32 (add32 (sg1 ((sch2 rest t).getD (t - 2) 0)) ((sch2 rest t).getD (t - 7) 0)) (sg0 ((sch2 rest t).getD (t - 15) 0))) ((sch2 rest t).getD (t - 16) 0)]
theorem sch2_length (rest : List UInt8) : ∀ t, (sch2 rest t).length = t
  | 0 => rfl
  | t + 1 => by rw [sch2, List.length_append, sch2_length rest t]; rfl
def bs1 (e : Int) : Int := bits .xor .u32 (bits .xor .u32 (rolS e 26) (rolS e 21)) (rolS e 7)
def bs0 (a : Int) : Int := bits .xor .u32 (bits .xor .u32 (rolS a 30) (rolS a 19)) (rolS a 10)
def ch2 (e f g : Int) : Int := bits .xor .u32 (bits .and .u32 e f) (bits .and .u32 (bits .xor .u32 IntKind.u32.max e) g)
def mj2 (a b c : Int) : Int := bits .xor .u32 (bits .xor .u32 (bits .and .u32 a b) (bits .and .u32 a c)) (bits .and .u32 b c)
def xx2 (e f g i k p : Int) : Int := add32 (add32 (add32 (add32 i (bs1 e)) (ch2 e f g)) k) p
def yy2 (a b c : Int) : Int := add32 (bs0 a) (mj2 a b c)
/-- A round of SHA-256; so many rounds. -/
def rnd2 (p s : List Int) (t : Nat) : List Int :=
  let X := xx2 (s.getD 4 0) (s.getD 5 0) (s.getD 6 0) (s.getD 7 0) (K2.getD t 0) (p.getD t 0)
  [add32 X (yy2 (s.getD 0 0) (s.getD 1 0) (s.getD 2 0)), s.getD 0 0, s.getD 1 0, s.getD 2 0, add32 (s.getD 3 0) X, s.getD 4 0, s.getD 5 0, s.getD 6 0]
def rnds2 (p s : List Int) : Nat → List Int
  | 0 => s
  | t + 1 => rnd2 p (rnds2 p s t) t
theorem add32_4 (a b c d : Int) : (a + b + c + d) % 4294967296 = add32 (add32 (add32 a b) c) d := by
  have h : ∀ x, IntKind.u32.wrap x = x % 4294967296 := fun _ => rfl
  unfold add32
  rw [h, h, h]
  omega
theorem add32_7 (i b c k p s m : Int) : (i + b + c + k + p + (s + m)) % 4294967296 = add32 (add32 (add32 (add32 (add32 i b) c) k) p) (add32 s m) := by
  have h : ∀ x, IntKind.u32.wrap x = x % 4294967296 := fun _ => rfl
  unfold add32
  rw [h, h, h, h, h, h]
  omega
theorem add32_6 (d i b c k p : Int) : (d + (i + b + c + k + p)) % 4294967296 = add32 d (add32 (add32 (add32 (add32 i b) c) k) p) := by
  have h : ∀ x, IntKind.u32.wrap x = x % 4294967296 := fun _ => rfl
  unfold add32
  rw [h, h, h, h, h]
  omega
theorem rnds2_succ {p s : List Int} {t : Nat} {a b c d e f g i : Int} (h : rnds2 p s t = [a, b, c, d, e, f, g, i]) :
    rnds2 p s (t + 1) = [add32 (xx2 e f g i (K2.getD t 0) (p.getD t 0)) (yy2 a b c), a, b, c, add32 d (xx2 e f g i (K2.getD t 0) (p.getD t 0)), e, f, g] := by
  rw [rnds2, h, rnd2]
  rfl
theorem rnds2_length (p s : List Int) (h : s.length = 8) : ∀ t, (rnds2 p s t).length = 8
  | 0 => h
  | _ + 1 => rfl
/-- SHA-256 works on a block. -/
def comp2 (ws : List Int) (rest : List UInt8) : List Int := addW ws (rnds2 (sch2 rest 64) ws 64) 8

/-- The cells of a list of words. -/
def wc (l : List Int) : List Value := l.map (Value.int .u32)
theorem wc_length (l : List Int) : (wc l).length = l.length := by simp [wc]
theorem wc_get (l : List Int) (j : Nat) (h : j < l.length) : (wc l)[j]? = some (.int .u32 (l.getD j 0)) := by
  simp [wc, List.getElem?_eq_getElem h, List.getD]
theorem wc_one (l : List Int) : (wc l).all (·.oneCell') = true := by
  simp only [List.all_eq_true, wc, List.mem_map]
  rintro x ⟨b, _, rfl⟩
  rfl
section
variable {P : Program} {w : World} {a : Act}
/-- The end of a function that gives an object. -/
theorem ret_box1 {fn : Func} {R : Ending → World → Prop} {p : Tmp} {ty : TypeId} {g : Nat} {cs : List Value} {d : TypeDesc} (h : fn.results = #[.cell p ty]) (hd : a.defers = [])
    (hp : a.tmps.getD p undef = .pointer (some ⟨g, 0, none⟩)) (B : BoxF w g cs) (hu : P.underlying ty = some d) (hrow : d.isRow = true) (hi : (P.info? ty).map (·.size) = some cs.length)
    (hR : R (.returned (.agg cs.toArray)) w) : bodyPost P fn R .ret a w := by
  refine bodyPost_ret (v := .agg cs.toArray) ?_ hd hR
  have e : (results fn a.tmps).run P w = ((asAddr (a.tmps.getD p undef)).run P w).andThen fun a w' => (loadVar ty a).run P w' := by
    simp only [results, h]
    simp [Sem.run_bind]
  rw [e, hp]
  simp only [asAddr, Sem.run_pure, Result.andThen_ok, run_loadVar_mid w g 0 ty cs d B.box.range hu hrow hi]
end

set_option maxRecDepth 100000 in
set_option maxHeartbeats 1000000 in
theorem constants_c (w : World) : Calls Tryz.prog 220 #[] w fun e w' => e = .returned (.agg (wc K2).toArray) ∧ Ext w w' := by
  go_enter Tryz.func220, Tryz.ntmps220
  go_wp2_with (first
    | ((with_reducible show wpList _ _ _ (⟨some 0, Op.alloc _, _, _, _, _⟩ :: _) _ _); refine wpl_alloc rfl _ rfl (arrC [] 64) (by kernel_rfl) ?_; intro w1 B1 hx1)
    | ((with_reducible show wpList _ _ _ (⟨none, Op.store _ _ _, _, _, _, _⟩ :: _) _ _); refine wpl_store_box rfl _ _ _ rfl w.heap.size (wc K2) rfl rfl B1 (by kernel_rfl) (by kernel_rfl) (by kernel_rfl) ?_; intro w2 B2 O2)
    | fail)
  exact ret_box1 (p := 0) (ty := 203) rfl rfl rfl B2 Tryz.underlying203 rfl (by kernel_rfl) ⟨rfl, hx1.on O2 (Nat.le_refl _)⟩

set_option maxRecDepth 100000 in
set_option maxHeartbeats 4000000 in
theorem block2_c (w : World) (h : Nat) (kind : Int) (ws : List Int) (rest : List UInt8) (n all : Int) (H : BoxF w h (hashC kind ws rest n all)) (hw : ws.length = 8) (hr : rest.length = 64) :
    Calls Tryz.prog 210 #[.pointer (some ⟨h, 0, none⟩)] w fun e w' => e = .returned (.tuple #[]) ∧ On h w w' ∧ BoxF w' h (hashC kind (comp2 ws rest) rest n all) := by
  obtain ⟨y0, y1, y2, y3, y4, y5, y6, y7, rfl⟩ : ∃ a b c d e f g i, ws = [a, b, c, d, e, f, g, i] := by
    match ws, hw with
    | [a, b, c, d, e, f, g, i], _ => exact ⟨a, b, c, d, e, f, g, i, rfl⟩
  have H0 := Lib.hid H
  clear H
  have hlt : h < w.heap.size := H0.out.lt
  have HLT := Lib.hid hlt
  clear hlt
  go_enter Tryz.func210, Tryz.ntmps210
  go_wp2_with ((with_reducible show wpList _ _ _ (⟨some 2, Op.alloc _, _, _, _, _⟩ :: _) _ _); refine wpl_alloc rfl _ rfl (arrC [] 64) (by kernel_rfl) ?_; intro w1 B1 hx1)
  go_loopw [3, 4, 5, 20] (fun _ _ _ i W => ∃ t : Nat, t ≤ 64 ∧ i = .int .i64 t ∧ BoxF W w.heap.size (arrC (sch2 rest t) 64) ∧ Ext w W) (fun _ _ _ i _ => 64 - (intOf i).toNat)
  case atStart => exact ⟨0, Nat.zero_le _, rfl, B1, hx1⟩
  case round =>
    obtain ⟨t, ht, rfl, B, hx⟩ := hrel
    have HB := Lib.hid B
    by_cases h16 : t < 16
    · have m0 : IntKind.i64.wrap (4 * (t : Int)) = ((4 * t : Nat) : Int) := by rw [IntKind.wrap_i64]; omega
      have hlen := sch2_length rest t
      have hd := drop4 (l := rest) (j := 4 * t) (by omega)
      have hR := hash_rest (H0.out.ext hx) hw hr (4 * t) (64 - 4 * t) (by omega) rfl
      rw [hd] at hR
      go_wp2_with (first
        | ((with_reducible show wpList _ _ _ (⟨some 31, _, _, _, _, _⟩ :: _) _ _); refine wpl_slice_arr rfl _ _ 64 Tryz.underlying185 (sizeOf_u8 bt) _ _ _ rfl h 9 (4 * t) rfl _ rfl (by omega) (by omega) ?_)
        | (go_at_call 217; refine (word_c _ _ _ _ _ _ _ hR).mono ?_; rintro e w2 ⟨rfl, hx2⟩; have B2 := B.ext hx2)
        | ((with_reducible show wpList _ _ _ (⟨none, Op.store _ _ _, _, _, _, _⟩ :: _) _ _); refine wpl_store_cell rfl _ _ _ rfl _ t (.int .u32 (wordS (rest.getD (4 * t) 0) (rest.getD (4 * t + 1) 0) (rest.getD (4 * t + 2) 0) (rest.getD (4 * t + 3) 0))) rfl rfl rfl rfl (by kernel_rfl) B2 (by rw [arrC_length _ _ (by omega)]; omega) ?_; intro w3 B3 O3)
        | fail)
      have e := arrC_set (sch2 rest t) 64 (wordS (rest.getD (4 * t) 0) (rest.getD (4 * t + 1) 0) (rest.getD (4 * t + 2) 0) (rest.getD (4 * t + 3) 0)) (by omega)
      rw [hlen] at e
      rw [e] at B3
      have e2 : sch2 rest (t + 1) = sch2 rest t ++ [wordS (rest.getD (4 * t) 0) (rest.getD (4 * t + 1) 0) (rest.getD (4 * t + 2) 0) (rest.getD (4 * t + 3) 0)] := by rw [sch2, if_pos h16]
      go_roundw
      case rel => exact ⟨t + 1, by omega, by go_num, by rw [e2]; exact B3, (hx.trans hx2).on O3 (Nat.le_refl _)⟩
      case measure => simp [intOf]; omega
    · by_cases h64 : t < 64
      · have hlen := sch2_length rest t
        obtain ⟨a2, ha2⟩ : ∃ a2, a2 = t - 2 := ⟨_, rfl⟩
        obtain ⟨a7, ha7⟩ : ∃ a7, a7 = t - 7 := ⟨_, rfl⟩
        obtain ⟨a15, ha15⟩ : ∃ a15, a15 = t - 15 := ⟨_, rfl⟩
        obtain ⟨a16, ha16⟩ : ∃ a16, a16 = t - 16 := ⟨_, rfl⟩
        have m2 : IntKind.i64.wrap ((t : Int) - 2) = (a2 : Int) := by rw [IntKind.wrap_i64]; omega
        have m7 : IntKind.i64.wrap ((t : Int) - 7) = (a7 : Int) := by rw [IntKind.wrap_i64]; omega
        have m15 : IntKind.i64.wrap ((t : Int) - 15) = (a15 : Int) := by rw [IntKind.wrap_i64]; omega
        have m16 : IntKind.i64.wrap ((t : Int) - 16) = (a16 : Int) := by rw [IntKind.wrap_i64]; omega
        have b2 : (a2 : Int) < 64 := by omega
        have b7 : (a7 : Int) < 64 := by omega
        have b15 : (a15 : Int) < 64 := by omega
        have b16 : (a16 : Int) < 64 := by omega
        have n2 : a2 < 64 := by omega
        have n7 : a7 < 64 := by omega
        have n15 : a15 < 64 := by omega
        have n16 : a16 < 64 := by omega
        have e2 : sch2 rest (t + 1) = sch2 rest t ++ [add32 (add32 (add32 (sg1 ((sch2 rest t).getD a2 0)) ((sch2 rest t).getD a7 0)) (sg0 ((sch2 rest t).getD a15 0))) ((sch2 rest t).getD a16 0)] := by
          rw [sch2, if_neg h16, ha2, ha7, ha15, ha16]
        have c2 := B.at (arrC_get (sch2 rest t) 64 a2 (by omega))
        have c7 := B.at (arrC_get (sch2 rest t) 64 a7 (by omega))
        have c15 := B.at (arrC_get (sch2 rest t) 64 a15 (by omega))
        have c16 := B.at (arrC_get (sch2 rest t) 64 a16 (by omega))
        generalize (sch2 rest t).getD a2 0 = x2 at c2 e2
        generalize (sch2 rest t).getD a7 0 = x7 at c7 e2
        generalize (sch2 rest t).getD a15 0 = x15 at c15 e2
        generalize (sch2 rest t).getD a16 0 = x16 at c16 e2
        have hz : wr.cell? ⟨w.heap.size, t, none⟩ = some (.int .u32 0) := by
          refine B.at ?_
          rw [arrC, List.getElem?_map, List.getElem?_append_right (by omega), hlen, Nat.sub_self]
          obtain ⟨q, hq⟩ : ∃ q, 64 - t = q + 1 := ⟨64 - t - 1, by omega⟩
          rw [hq]
          rfl
        have hf := B.free t (by rw [arrC_length _ _ (by omega)]; omega)
        have d2 : (World.drew wr).cell? ⟨w.heap.size, a2, none⟩ = some (.int .u32 x2) := c2
        have d15 : (World.drew wr).cell? ⟨w.heap.size, a15, none⟩ = some (.int .u32 x15) := c15
        have dd2 : (World.drew (World.drew wr)).cell? ⟨w.heap.size, a2, none⟩ = some (.int .u32 x2) := c2
        clear ha2 ha7 ha15 ha16
        go_wp2_with fail
        go_region_held3 (fun W' => W'.cell? ⟨w.heap.size, a15, none⟩ = some (.int .u32 x15))
          ((first | (with_reducible exact d15) | fail))
          (first | (go_at_call 219; (with_reducible show Calls _ _ #[_, Value.int .i64 7] _ _); refine (ror_25 _ _).mono ?_; rintro e w2 ⟨rfl, rfl⟩) | (go_at_call 219; refine (ror_14 _ _).mono ?_; rintro e w2 ⟨rfl, rfl⟩) | fail)
        go_wp2_with fail
        go_region_held3 (fun W' => W'.cell? ⟨w.heap.size, a2, none⟩ = some (.int .u32 x2))
          ((first | (with_reducible exact dd2) | fail))
          (first | (go_at_call 219; (with_reducible show Calls _ _ #[_, Value.int .i64 17] _ _); refine (ror_15 _ _).mono ?_; rintro e w2 ⟨rfl, rfl⟩) | (go_at_call 219; refine (ror_13 _ _).mono ?_; rintro e w2 ⟨rfl, rfl⟩) | fail)
        go_wp2_with fail
        go_region
        all_goals
          go_wp2_with fail
          have e4 := add32_4 (sg1 x2) x7 (sg0 x15) x16
          have B3 := (B.set t (.int .u32 ((sg1 x2 + x7 + sg0 x15 + x16) % 4294967296))).ext (Ext.refl _).drew.drew.drew
          have e := arrC_set (sch2 rest t) 64 ((sg1 x2 + x7 + sg0 x15 + x16) % 4294967296) (by omega)
          rw [hlen] at e
          rw [e] at B3
          rw [← e4] at e2
          go_roundw
          case rel => exact ⟨t + 1, by omega, by go_num, by rw [e2]; exact B3, (hx.on ((On.refl _ wr).set t (.int .u32 _)) (Nat.le_refl _)).drew.drew.drew⟩
          case measure => simp [intOf]; omega
      · obtain rfl : t = 64 := by omega
        simp only [Int.cast_ofNat_Int]
        have HW := Lib.hid (H0.out.ext hx)
        have q1 : wr.cell? ⟨h, 1, none⟩ = some (.int .u32 y0) := HW.out.at (j := 1) rfl
        have q2 : wr.cell? ⟨h, 2, none⟩ = some (.int .u32 y1) := HW.out.at (j := 2) rfl
        have q3 : wr.cell? ⟨h, 3, none⟩ = some (.int .u32 y2) := HW.out.at (j := 3) rfl
        have q4 : wr.cell? ⟨h, 4, none⟩ = some (.int .u32 y3) := HW.out.at (j := 4) rfl
        have q5 : wr.cell? ⟨h, 5, none⟩ = some (.int .u32 y4) := HW.out.at (j := 5) rfl
        have q6 : wr.cell? ⟨h, 6, none⟩ = some (.int .u32 y5) := HW.out.at (j := 6) rfl
        have q7 : wr.cell? ⟨h, 7, none⟩ = some (.int .u32 y6) := HW.out.at (j := 7) rfl
        have q8 : wr.cell? ⟨h, 8, none⟩ = some (.int .u32 y7) := HW.out.at (j := 8) rfl
        have hsz : w.heap.size < wr.heap.size := B.lt
        have HSZ := Lib.hid hsz
        clear hsz
        go_wp2_with (first
          | ((with_reducible show wpList _ _ _ (⟨some 87, Op.load _ _, _, _, _, _⟩ :: _) _ _); refine wpl_load_p rfl _ _ rfl h 1 rfl (wc [y0, y1, y2, y3, y4, y5, y6, y7]) _ (Box.part (cs := hashC kind [y0, y1, y2, y3, y4, y5, y6, y7] rest n all) HW.out.box 8 rfl) Tryz.underlying183 rfl (by kernel_rfl) ?_)
          | ((with_reducible show wpList _ _ _ (⟨some 6, Op.alloc _, _, _, _, _⟩ :: _) _ _); refine wpl_alloc rfl _ rfl (wc [0, 0, 0, 0, 0, 0, 0, 0]) (by kernel_rfl) ?_; intro w3 Bv3 hx3)
          | ((with_reducible show wpList _ _ _ (⟨none, Op.store 183 _ _, _, _, _, _⟩ :: _) _ _); refine wpl_store_box rfl _ _ _ rfl wr.heap.size (wc [y0, y1, y2, y3, y4, y5, y6, y7]) rfl rfl Bv3 (by kernel_rfl) (by kernel_rfl) (by kernel_rfl) ?_; intro w4 Bv4 O4; have hx4 := hx3.on O4 (Nat.le_refl _))
          | (go_at_call 220; refine (constants_c _).mono ?_; rintro e w5 ⟨rfl, hx5⟩; have Bv5 := Bv4.ext hx5)
          | ((with_reducible show wpList _ _ _ (⟨some 7, Op.alloc _, _, _, _, _⟩ :: _) _ _); refine wpl_alloc rfl _ rfl (arrC [] 64) (by kernel_rfl) ?_; intro w6 Bk6 hx6)
          | ((with_reducible show wpList _ _ _ (⟨none, Op.store 203 _ _, _, _, _, _⟩ :: _) _ _); refine wpl_store_box rfl _ _ _ rfl w5.heap.size (wc K2) rfl rfl Bk6 (by kernel_rfl) (by kernel_rfl) (by kernel_rfl) ?_; intro w7 Bk7 O7; have hx7 := hx6.on O7 (Nat.le_refl _))
          | fail)
        clear q1 q2 q3 q4 q5 q6 q7 q8 HB
        obtain ⟨p, hpe⟩ : ∃ p, p = sch2 rest 64 := ⟨_, rfl⟩
        have hlp0 := sch2_length rest 64
        rw [← hpe] at B hlp0
        have HPE := Lib.hid hpe
        have HLP := Lib.hid hlp0
        clear hpe hlp0
        have Bv7 := Bv5.ext hx7
        have Bw7 := ((B.ext hx4).ext hx5).ext hx7
        have hxw7 := ((hx.trans hx4).trans hx5).trans hx7
        have hsk : wr.heap.size < w5.heap.size := Bv5.lt
        have hsw := HSZ.out
        generalize wr.heap.size = gv at *
        generalize w5.heap.size = gk at *
        generalize hgw : w.heap.size = gw at *
        have HGW := Lib.hid hgw
        have N1 := Lib.hid (show gv ≠ gw ∧ gk ≠ gv ∧ gw ≠ gv ∧ gw ≤ gv by omega)
        clear Bv3 hx3 Bv4 O4 hx4 Bv5 hx5 Bk6 hx6 O7 hx7 hsk hsw HSZ hgw
        go_loopw [8, 9, 10, 11, 12, 13, 14, 15, 16, 17, 89] (fun _ _ _ _ _ _ _ _ _ _ i W => ∃ t : Nat, ∃ xa xb xc xd xe xf xg xi : Int, t ≤ 64 ∧ i = .int .i64 t ∧ BoxF W gv (wc [xa, xb, xc, xd, xe, xf, xg, xi]) ∧ BoxF W gw (arrC p 64) ∧ BoxF W gk (wc K2) ∧ Ext w W ∧ rnds2 p [y0, y1, y2, y3, y4, y5, y6, y7] t = [xa, xb, xc, xd, xe, xf, xg, xi]) (fun _ _ _ _ _ _ _ _ _ _ i _ => 64 - (intOf i).toNat)
        case atStart => exact ⟨0, _, _, _, _, _, _, _, _, Nat.zero_le _, rfl, Bv7, Bw7, Bk7, hxw7, rfl⟩
        case round =>
          clear Bv7 Bw7 Bk7 hxw7 B hx HW
          obtain ⟨t, xa, xb, xc, xd, xe, xf, xg, xi, ht2, rfl, V, Bw, Bk, hx2, hs⟩ := hrel
          have HS := Lib.hid hs
          have HV := Lib.hid V
          have HBw := Lib.hid Bw
          have HBk := Lib.hid Bk
          have HX2 := Lib.hid hx2
          clear hs V Bw Bk hx2
          by_cases h64b : t < 64
          · have tb : (t : Int) < 64 := by omega
            have v0 : (World.drew wr).cell? ⟨gv, 0, none⟩ = some (.int .u32 xa) := HV.out.at (j := 0) rfl
            have v1 : (World.drew wr).cell? ⟨gv, 1, none⟩ = some (.int .u32 xb) := HV.out.at (j := 1) rfl
            have v2 : (World.drew wr).cell? ⟨gv, 2, none⟩ = some (.int .u32 xc) := HV.out.at (j := 2) rfl
            have v3 : (World.drew wr).cell? ⟨gv, 3, none⟩ = some (.int .u32 xd) := HV.out.at (j := 3) rfl
            have v4 : (World.drew wr).cell? ⟨gv, 4, none⟩ = some (.int .u32 xe) := HV.out.at (j := 4) rfl
            have v5 : (World.drew wr).cell? ⟨gv, 5, none⟩ = some (.int .u32 xf) := HV.out.at (j := 5) rfl
            have v6 : (World.drew wr).cell? ⟨gv, 6, none⟩ = some (.int .u32 xg) := HV.out.at (j := 6) rfl
            have v7 : (World.drew (World.drew wr)).cell? ⟨gv, 7, none⟩ = some (.int .u32 xi) := HV.out.at (j := 7) rfl
            obtain ⟨kt, hkt⟩ : ∃ k, k = K2.getD t 0 := ⟨_, rfl⟩
            obtain ⟨pt, hpt⟩ : ∃ k, k = p.getD t 0 := ⟨_, rfl⟩
            have ck : (World.drew (World.drew wr)).cell? ⟨gk, t, none⟩ = some (.int .u32 kt) := by rw [hkt]; exact HBk.out.at (wc_get K2 t h64b)
            have cp : (World.drew (World.drew wr)).cell? ⟨gw, t, none⟩ = some (.int .u32 pt) := by rw [hpt]; exact HBw.out.at (arrC_get p 64 t (by have := HLP.out; omega))
            have HK := Lib.hid hkt
            have HP := Lib.hid hpt
            clear hkt hpt
            go_wp2_with fail
            go_region_held3 (fun W' => W'.cell? ⟨gv, 0, none⟩ = some (.int .u32 xa) ∧ W'.cell? ⟨gv, 1, none⟩ = some (.int .u32 xb) ∧ W'.cell? ⟨gv, 2, none⟩ = some (.int .u32 xc) ∧ W'.cell? ⟨gv, 3, none⟩ = some (.int .u32 xd) ∧ W'.cell? ⟨gv, 4, none⟩ = some (.int .u32 xe) ∧ W'.cell? ⟨gv, 5, none⟩ = some (.int .u32 xf) ∧ W'.cell? ⟨gv, 6, none⟩ = some (.int .u32 xg))
              ((first | (with_reducible exact ⟨v0, v1, v2, v3, v4, v5, v6⟩) | fail)) (fail)
            go_wp2_with fail
            go_region_held3 (fun W' => W'.cell? ⟨gv, 7, none⟩ = some (.int .u32 xi) ∧ W'.cell? ⟨gk, t, none⟩ = some (.int .u32 kt) ∧ W'.cell? ⟨gw, t, none⟩ = some (.int .u32 pt))
              ((first | (with_reducible exact ⟨v7, ck, cp⟩) | fail))
              (first | (go_at_call 219; (with_reducible show Calls _ _ #[_, Value.int .i64 6] _ _); refine (ror_26 _ _).mono ?_; rintro e w2 ⟨rfl, rfl⟩) | (go_at_call 219; (with_reducible show Calls _ _ #[_, Value.int .i64 11] _ _); refine (ror_21 _ _).mono ?_; rintro e w2 ⟨rfl, rfl⟩) | (go_at_call 219; refine (ror_7 _ _).mono ?_; rintro e w2 ⟨rfl, rfl⟩) | fail)
            have VD : BoxF (World.drew (World.drew wr)) gv (wc [xa, xb, xc, xd, xe, xf, xg, xi]) := HV.out.ext (Ext.refl _).drew.drew
            go_wp2_with (first
              | (go_at_call 219; (with_reducible show Calls _ _ #[_, Value.int .i64 2] _ _); refine (ror_30 _ _).mono ?_; rintro e w2 ⟨rfl, rfl⟩)
              | (go_at_call 219; (with_reducible show Calls _ _ #[_, Value.int .i64 13] _ _); refine (ror_19 _ _).mono ?_; rintro e w2 ⟨rfl, rfl⟩)
              | (go_at_call 219; (with_reducible show Calls _ _ #[_, Value.int .i64 22] _ _); refine (ror_10 _ _).mono ?_; rintro e w2 ⟨rfl, rfl⟩)
              | ((with_reducible show wpList _ _ _ (⟨none, Op.store 183 _ _, _, _, _, _⟩ :: _) _ _); refine wpl_store_box rfl _ _ _ rfl gv (wc [_, _, _, _, _, _, _, _]) rfl rfl VD rfl (by kernel_rfl) rfl ?_; intro w4 V4 O4)
              | fail)
            have hS := rnds2_succ HS.out
            rw [← HK.out, ← HP.out, show add32 (xx2 xe xf xg xi kt pt) (yy2 xa xb xc) = _ from (add32_7 xi (bs1 xe) (ch2 xe xf xg) kt pt (bs0 xa) (mj2 xa xb xc)).symm, show add32 xd (xx2 xe xf xg xi kt pt) = _ from (add32_6 xd xi (bs1 xe) (ch2 xe xf xg) kt pt).symm] at hS
            go_roundw
            case rel => exact ⟨t + 1, _, _, _, _, _, _, _, _, by omega, by go_num, V4, (HBw.out.ext (Ext.refl _).drew.drew).on O4 N1.out.2.2.1, (HBk.out.ext (Ext.refl _).drew.drew).on O4 N1.out.2.1, HX2.out.drew.drew.on O4 (by rw [HGW.out]; exact N1.out.2.2.2), hS⟩
            case measure => simp [intOf]; omega
          · obtain rfl : t = 64 := by omega
            simp only [Int.cast_ofNat_Int]
            go_wp2_with (first
              | ((with_reducible show wpList _ _ _ (⟨some 168, Op.load _ _, _, _, _, _⟩ :: _) _ _); refine wpl_load_box rfl _ _ rfl gv rfl HV.out Tryz.underlying183 rfl (by kernel_rfl) ?_)
              | fail)
            have BH0 : BoxF wr h (hashC kind (addW [y0, y1, y2, y3, y4, y5, y6, y7] [xa, xb, xc, xd, xe, xf, xg, xi] 0) rest n all) := H0.out.ext HX2.out
            have O40 := On.of (g := h) HX2.out
            go_loopw [18, 19, 169] (fun _ _ i W => ∃ j : Nat, j ≤ 8 ∧ i = .int .i64 j ∧ BoxF W h (hashC kind (addW [y0, y1, y2, y3, y4, y5, y6, y7] [xa, xb, xc, xd, xe, xf, xg, xi] j) rest n all) ∧ On h w W) (fun _ _ i _ => 8 - (intOf i).toNat)
            case atStart => exact ⟨0, Nat.zero_le _, rfl, BH0, O40⟩
            case round =>
              clear BH0 O40
              obtain ⟨j, hj, rfl, BH, O4⟩ := hrel
              have i0 : ∀ w : World, (Instr.index 183 (.agg (wc [xa, xb, xc, xd, xe, xf, xg, xi]).toArray) (.int .i64 0)).run Tryz.prog w = .ok (.int .u32 xa) w := fun _ => by kernel_rfl
              have i1 : ∀ w : World, (Instr.index 183 (.agg (wc [xa, xb, xc, xd, xe, xf, xg, xi]).toArray) (.int .i64 1)).run Tryz.prog w = .ok (.int .u32 xb) w := fun _ => by kernel_rfl
              have i2 : ∀ w : World, (Instr.index 183 (.agg (wc [xa, xb, xc, xd, xe, xf, xg, xi]).toArray) (.int .i64 2)).run Tryz.prog w = .ok (.int .u32 xc) w := fun _ => by kernel_rfl
              have i3 : ∀ w : World, (Instr.index 183 (.agg (wc [xa, xb, xc, xd, xe, xf, xg, xi]).toArray) (.int .i64 3)).run Tryz.prog w = .ok (.int .u32 xd) w := fun _ => by kernel_rfl
              have i4 : ∀ w : World, (Instr.index 183 (.agg (wc [xa, xb, xc, xd, xe, xf, xg, xi]).toArray) (.int .i64 4)).run Tryz.prog w = .ok (.int .u32 xe) w := fun _ => by kernel_rfl
              have i5 : ∀ w : World, (Instr.index 183 (.agg (wc [xa, xb, xc, xd, xe, xf, xg, xi]).toArray) (.int .i64 5)).run Tryz.prog w = .ok (.int .u32 xf) w := fun _ => by kernel_rfl
              have i6 : ∀ w : World, (Instr.index 183 (.agg (wc [xa, xb, xc, xd, xe, xf, xg, xi]).toArray) (.int .i64 6)).run Tryz.prog w = .ok (.int .u32 xg) w := fun _ => by kernel_rfl
              have i7 : ∀ w : World, (Instr.index 183 (.agg (wc [xa, xb, xc, xd, xe, xf, xg, xi]).toArray) (.int .i64 7)).run Tryz.prog w = .ok (.int .u32 xi) w := fun _ => by kernel_rfl
              have hj8 : j = 0 ∨ j = 1 ∨ j = 2 ∨ j = 3 ∨ j = 4 ∨ j = 5 ∨ j = 6 ∨ j = 7 ∨ j = 8 := by omega
              rcases hj8 with rfl | rfl | rfl | rfl | rfl | rfl | rfl | rfl | rfl
              all_goals simp only [Int.cast_ofNat_Int]
              · have p := BH.at (j := 1) (v := .int .u32 y0) rfl
                have f := BH.free 1 (by rw [hashC_length, hr]; omega)
                go_wp2_with fail
                go_region
                all_goals
                  go_wp2_with fail
                  go_roundw
                  case rel => exact ⟨1, by omega, rfl, (BH.set 1 (.int .u32 (add32 y0 xa))).ext (Ext.refl _).drew, (O4.set 1 _).ext (Ext.refl _).drew⟩
                  case measure => simp [intOf]
              · have p := BH.at (j := 2) (v := .int .u32 y1) rfl
                have f := BH.free 2 (by rw [hashC_length, hr]; omega)
                go_wp2_with fail
                go_region
                all_goals
                  go_wp2_with fail
                  go_roundw
                  case rel => exact ⟨2, by omega, rfl, (BH.set 2 (.int .u32 (add32 y1 xb))).ext (Ext.refl _).drew, (O4.set 2 _).ext (Ext.refl _).drew⟩
                  case measure => simp [intOf]
              · have p := BH.at (j := 3) (v := .int .u32 y2) rfl
                have f := BH.free 3 (by rw [hashC_length, hr]; omega)
                go_wp2_with fail
                go_region
                all_goals
                  go_wp2_with fail
                  go_roundw
                  case rel => exact ⟨3, by omega, rfl, (BH.set 3 (.int .u32 (add32 y2 xc))).ext (Ext.refl _).drew, (O4.set 3 _).ext (Ext.refl _).drew⟩
                  case measure => simp [intOf]
              · have p := BH.at (j := 4) (v := .int .u32 y3) rfl
                have f := BH.free 4 (by rw [hashC_length, hr]; omega)
                go_wp2_with fail
                go_region
                all_goals
                  go_wp2_with fail
                  go_roundw
                  case rel => exact ⟨4, by omega, rfl, (BH.set 4 (.int .u32 (add32 y3 xd))).ext (Ext.refl _).drew, (O4.set 4 _).ext (Ext.refl _).drew⟩
                  case measure => simp [intOf]
              · have p := BH.at (j := 5) (v := .int .u32 y4) rfl
                have f := BH.free 5 (by rw [hashC_length, hr]; omega)
                go_wp2_with fail
                go_region
                all_goals
                  go_wp2_with fail
                  go_roundw
                  case rel => exact ⟨5, by omega, rfl, (BH.set 5 (.int .u32 (add32 y4 xe))).ext (Ext.refl _).drew, (O4.set 5 _).ext (Ext.refl _).drew⟩
                  case measure => simp [intOf]
              · have p := BH.at (j := 6) (v := .int .u32 y5) rfl
                have f := BH.free 6 (by rw [hashC_length, hr]; omega)
                go_wp2_with fail
                go_region
                all_goals
                  go_wp2_with fail
                  go_roundw
                  case rel => exact ⟨6, by omega, rfl, (BH.set 6 (.int .u32 (add32 y5 xf))).ext (Ext.refl _).drew, (O4.set 6 _).ext (Ext.refl _).drew⟩
                  case measure => simp [intOf]
              · have p := BH.at (j := 7) (v := .int .u32 y6) rfl
                have f := BH.free 7 (by rw [hashC_length, hr]; omega)
                go_wp2_with fail
                go_region
                all_goals
                  go_wp2_with fail
                  go_roundw
                  case rel => exact ⟨7, by omega, rfl, (BH.set 7 (.int .u32 (add32 y6 xg))).ext (Ext.refl _).drew, (O4.set 7 _).ext (Ext.refl _).drew⟩
                  case measure => simp [intOf]
              · have p := BH.at (j := 8) (v := .int .u32 y7) rfl
                have f := BH.free 8 (by rw [hashC_length, hr]; omega)
                go_wp2_with fail
                go_region
                all_goals
                  go_wp2_with fail
                  go_roundw
                  case rel => exact ⟨8, by omega, rfl, (BH.set 8 (.int .u32 (add32 y7 xi))).ext (Ext.refl _).drew, (O4.set 8 _).ext (Ext.refl _).drew⟩
                  case measure => simp [intOf]
              · go_wp2_with fail
                refine bodyPost_end (results_none rfl _ _ _) rfl ?_
                refine ⟨rfl, O4, ?_⟩
                have e : comp2 [y0, y1, y2, y3, y4, y5, y6, y7] rest = addW [y0, y1, y2, y3, y4, y5, y6, y7] [xa, xb, xc, xd, xe, xf, xg, xi] 8 := by
                  have hs := HS.out
                  rw [HPE.out] at hs
                  unfold comp2
                  rw [hs]
                rw [e]
                exact BH
end Go.Proofs.YtbodppfpmpmadaaGreat
