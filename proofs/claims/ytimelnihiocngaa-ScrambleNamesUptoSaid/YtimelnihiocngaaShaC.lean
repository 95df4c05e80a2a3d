/- The object of a hash; arrays of words; the schedule. -/
import Derived.Test.YtimelnihiocngaaShaB
import Derived.Test.YtimelnihiocngaaBox
namespace Go.Proofs.Ytimelnihiocngaa
open Go.RowKit

/-- The cells of a hash. -/
def hashC (kind : Int) (ws : List Int) (rest : List UInt8) (n all : Int) : List Value := .int .i64 kind :: (ws.map (Value.int .u32) ++ (bc rest ++ [.int .i64 n, .int .i64 all]))
theorem hashC_length (kind : Int) (ws : List Int) (rest : List UInt8) (n all : Int) : (hashC kind ws rest n all).length = ws.length + rest.length + 3 := by simp [hashC, bc_length]; omega
/-- The cells of an array of words that is filled from its head. -/
def arrC (p : List Int) (N : Nat) : List Value := (p ++ List.replicate (N - p.length) 0).map (Value.int .u32)

theorem arrC_length (p : List Int) (N : Nat) (h : p.length ≤ N) : (arrC p N).length = N := by simp [arrC]; omega
theorem arrC_get (p : List Int) (N j : Nat) (h : j < p.length) : (arrC p N)[j]? = some (.int .u32 (p.getD j 0)) := by
  rw [arrC, List.getElem?_map, List.getElem?_append_left h, List.getD_eq_getElem?_getD, List.getElem?_eq_getElem h]
  rfl
theorem arrC_set (p : List Int) (N : Nat) (x : Int) (h : p.length < N) : (arrC p N).set p.length (.int .u32 x) = arrC (p ++ [x]) N := by
  obtain ⟨m, hm⟩ : ∃ m, N - p.length = m + 1 := ⟨N - p.length - 1, by omega⟩
  have h2 : N - (p ++ [x]).length = m := by simp; omega
  rw [arrC, arrC, hm, h2, List.replicate_succ, List.map_append, List.map_cons, List.map_append, List.map_append]
  rw [List.set_append_right _ _ (by simp)]
  simp

/-- The words of a schedule of SHA-1, one behind the other. -/
def sch1 (rest : List UInt8) : Nat → List Int
  | 0 => []
  | t + 1 => sch1 rest t ++ [if t < 16 then wordS (rest.getD (4 * t) 0) (rest.getD (4 * t + 1) 0) (rest.getD (4 * t + 2) 0) (rest.getD (4 * t + 3) 0)
      else rolS (bits .xor .u32 (bits .xor .u32 (bits .xor .u32 ((sch1 rest t).getD (t - 3) 0) ((sch1 rest t).getD (t - 8) 0)) ((sch1 rest t).getD (t - 14) 0)) ((sch1 rest t).getD (t - 16) 0)) 1]
theorem sch1_length (rest : List UInt8) : ∀ t, (sch1 rest t).length = t
  | 0 => rfl
  | t + 1 => by rw [sch1, List.length_append, sch1_length rest t]; rfl

/-- A sum of words. -/
def add32 (x y : Int) : Int := IntKind.u32.wrap (x + y)
/-- f and k of SHA-1. -/
def f1 (t : Nat) (b c d : Int) : Int :=
  if t < 20 then bits .xor .u32 (bits .and .u32 b c) (bits .and .u32 (bits .xor .u32 IntKind.u32.max b) d)
  else if t < 40 then bits .xor .u32 (bits .xor .u32 b c) d
  else if t < 60 then bits .xor .u32 (bits .xor .u32 (bits .and .u32 b c) (bits .and .u32 b d)) (bits .and .u32 c d)
  else bits .xor .u32 (bits .xor .u32 b c) d
def k1 (t : Nat) : Int := if t < 20 then 1518500249 else if t < 40 then 1859775393 else if t < 60 then 2400959708 else 3395469782
/-- A round of SHA-1; so many rounds. -/
def rnd1 (p : List Int) (s : Int × Int × Int × Int × Int) (t : Nat) : Int × Int × Int × Int × Int :=
  (add32 (add32 (add32 (add32 (rolS s.1 5) (f1 t s.2.1 s.2.2.1 s.2.2.2.1)) s.2.2.2.2) (k1 t)) (p.getD t 0), s.1, rolS s.2.1 30, s.2.2.1, s.2.2.2.1)
def rnds1 (p : List Int) (s : Int × Int × Int × Int × Int) : Nat → Int × Int × Int × Int × Int
  | 0 => s
  | t + 1 => rnd1 p (rnds1 p s t) t
theorem f1_a (t : Nat) (b c d : Int) (h : t < 20) : f1 t b c d = bits .xor .u32 (bits .and .u32 b c) (bits .and .u32 (bits .xor .u32 IntKind.u32.max b) d) ∧ k1 t = 1518500249 := by simp [f1, k1, h]
theorem f1_b (t : Nat) (b c d : Int) (h : ¬ t < 20) (h2 : t < 40) : f1 t b c d = bits .xor .u32 (bits .xor .u32 b c) d ∧ k1 t = 1859775393 := by simp [f1, k1, h, h2]
theorem f1_c (t : Nat) (b c d : Int) (h : ¬ t < 20) (h2 : ¬ t < 40) (h3 : t < 60) : f1 t b c d = bits .xor .u32 (bits .xor .u32 (bits .and .u32 b c) (bits .and .u32 b d)) (bits .and .u32 c d) ∧ k1 t = 2400959708 := by simp [f1, k1, h, h2, h3]
theorem f1_d (t : Nat) (b c d : Int) (h : ¬ t < 20) (h2 : ¬ t < 40) (h3 : ¬ t < 60) : f1 t b c d = bits .xor .u32 (bits .xor .u32 b c) d ∧ k1 t = 3395469782 := by simp [f1, k1, h, h2, h3]
theorem rnds1_succ {p : List Int} {s : Int × Int × Int × Int × Int} {t : Nat} {a b c d e f k : Int} (h : rnds1 p s t = (a, b, c, d, e)) (hf : f1 t b c d = f ∧ k1 t = k) :
    rnds1 p s (t + 1) = (add32 (add32 (add32 (add32 (rolS a 5) f) e) k) (p.getD t 0), a, rolS b 30, c, d) := by
  rw [rnds1, h, rnd1]
  dsimp only
  rw [hf.1, hf.2]

/-- The first words, each with a number added. -/
def addW (ws vs : List Int) (j : Nat) : List Int := (List.zipWith add32 ws vs).take j ++ ws.drop j
/-- SHA-1 works on a block. -/
def comp1 (ws : List Int) (rest : List UInt8) : List Int :=
  let r := rnds1 (sch1 rest 80) (ws.getD 0 0, ws.getD 1 0, ws.getD 2 0, ws.getD 3 0, ws.getD 4 0) 80
  addW ws [r.1, r.2.1, r.2.2.1, r.2.2.2.1, r.2.2.2.2] 5

/-- What is not yet worked on, from a place on. -/
theorem hash_rest {W : World} {g : Nat} {kind : Int} {ws : List Int} {rest : List UInt8} {n all : Int} (h : BoxF W g (hashC kind ws rest n all)) (hw : ws.length = 8) (hr : rest.length = 64) (j m : Nat) (hj : j < 64) (hm : m = 64 - j) :
    Rd W (.slice (some ⟨g, 9 + j, none⟩) m m) (rest.drop j) := by
  refine ⟨_, m, by rw [List.length_drop, hr, hm], by rw [List.length_drop]; omega, by unfold maxLen; omega, (fun h => by cases h), fun _ => ⟨g, 9 + j, rfl, fun i hi => ?_⟩⟩
  rw [List.length_drop, hr] at hi
  have hc := bc_get rest (j + i) (by omega)
  refine (h.at (j := 9 + j + i) ?_)
  rw [hashC, show 9 + j + i = (8 + (j + i)) + 1 by omega, List.getElem?_cons_succ, List.getElem?_append_right (by simp [hw]), List.length_map, hw, show 8 + (j + i) - 8 = j + i by omega, List.getElem?_append_left (by rw [bc_length]; omega), hc]
  simp [List.getD_eq_getElem?_getD, List.getElem?_drop]

section
variable {P : Program} {ops : Array Oper} {rest : List Oper} {o : Oper} {a : Act} {w : World} {Q : Exit → Act → World → Prop}
/-- A new variable. -/
theorem wpl_alloc (hgd : o.guard = none) (ty : TypeId) (ho : o.op = .alloc ty) (cs : List Value) (hz : (P.info? ty).map (·.zero) = some (some (.agg cs.toArray)))
    (h : ∀ w', BoxF w' w.heap.size cs → Ext w w' → wpList P ops Q rest (a.put o.dst (.pointer (some ⟨w.heap.size, 0, none⟩))) w') : wpList P ops Q (o :: rest) a w := by
  refine wpl_val hgd (v := .pointer (some ⟨w.heap.size, 0, none⟩)) (w' := w.alloc (.cells cs.toArray ty)) ?_ (h _ (BoxF.new w cs ty) ((Ext.refl w).alloc _))
  cases hq : P.info? ty with
  | none => simp [hq] at hz
  | some i =>
    have hs : i.zero = some (.agg cs.toArray) := by simpa [hq] using hz
    unfold execOp
    simp [ho, Instr.alloc, newVar, newRow, zeroValue, typeInfo, hq, hs, Value.cells]
/-- An array's bytes from a place on. -/
theorem wpl_slice_arr (hgd : o.guard = none) (t e : TypeId) (N : Nat) (ht : P.underlying t = some (.array N e)) (hs : ∀ w, (sizeOf e).run P w = .ok 1 w) (x lo : Operand) (k : IntKind) (ho : o.op = .slice t x (some lo) none none)
    (g b j : Nat) (hx : a.eval x = .pointer (some ⟨g, b, none⟩)) (I : Int) (hlo : a.eval lo = .int k I) (hI : I = (j : Int)) (hj : j < N)
    (h : wpList P ops Q rest (a.put o.dst (.slice (some ⟨g, b + j, none⟩) (N - j) (N - j))) w) : wpList P ops Q (o :: rest) a w := by
  subst hI
  refine wpl_val hgd (v := .slice (some ⟨g, b + j, none⟩) (N - j) (N - j)) (w' := w) ?_ h
  have hl : P.arrayLen t = N := by unfold Program.arrayLen; rw [ht]
  have he : P.elem t = e := by unfold Program.elem; rw [ht]
  have hr := run_sliceAt_array_l (P := P) w t ⟨g, b, none⟩ (by rw [hl, he]; exact ht) k (j : Int) (by omega) (by rw [hl]; omega)
  rw [hl, he, hs w] at hr
  unfold execOp
  simp only [ho, hx, hlo, Option.map_some, Option.map_none, hr, Sem.run_bind, Sem.run_pure, Result.andThen_ok, slicedAt, Int.toNat_natCast, Nat.mul_one]
  rw [if_neg (by omega)]
  simp [Addr.add]
end
end Go.Proofs.Ytimelnihiocngaa
