/- What is known of a session, that came in. -/
import Derived.Test.YtdjnjhlgpflcjaaTrL
import Derived.Test.YtdjnjhlgpflcjaaTrI
namespace Go.Proofs.Ytdjnjhlgpflcjaa
open Go.ChangeShapes Go.WideShapes Go.ChangeAt Go.RowKit

/-- A variable's cells. -/
def varC (c : ByteArray × ByteArray) : List Value := [.string c.1, .string c.2]
def varsC (cs : List (ByteArray × ByteArray)) : List (List Value) := cs.map varC
theorem varsC_length (cs : List (ByteArray × ByteArray)) : (varsC cs).length = cs.length := by simp [varsC]
abbrev v00 : ByteArray × ByteArray := (ByteArray.empty, ByteArray.empty)
theorem varsC_getD (cs : List (ByteArray × ByteArray)) (k : Nat) (h : k < cs.length) : (varsC cs).getD k [] = varC (cs.getD k v00) := by
  simp [varsC, List.getD_eq_getElem?_getD, List.getElem?_eq_getElem h]

section
variable {H : Type} {enc : TypeId × Value → H} {w : World} {r : Reach} {b0 base : Nat} {spare : Nat → Bool} {held : Bool}

theorem leaf_strs {fuel : Nat} {cs : List Value} {x : DataW H × List MemPlace} (h : DataW.trod enc Try.prog w 0 (fun _ => true) true fuel 33 cs = some x) :
    ∃ v, cs = [v] ∧ ∃ ss : List ByteArray, Cells w v ss.length (fun i => .string (ss.getD i ByteArray.empty)) := by
  rcases open_strings Try.underlying33 Try.underlying9 (by kernel_rfl) h with ⟨hcs, _⟩ | ⟨x, l, c, zs, hcs, _, hl, hm, hz, _, hcell, hwz⟩
  · exact ⟨_, hcs, [], none, 0, rfl, Nat.le_refl _, by unfold maxLen; simp, fun h => by simp at h⟩
  · simp only [if_true] at hz
    have hlen : (zs.take l).length = l := by rw [List.length_take]; omega
    have hget : ∀ i, i < l → (zs.take l).getD i ByteArray.empty = zs.getD i ByteArray.empty := fun i hi => by
      rw [List.getD_eq_getElem?_getD, List.getD_eq_getElem?_getD, List.getElem?_take, if_pos hi]
    refine ⟨_, hcs, zs.take l, some x, c, by rw [hlen], by rw [hlen]; exact hl, hm, fun h0 => ?_⟩
    rw [hlen] at h0
    have h1 := hcell 0 (by omega)
    obtain ⟨b, o, rfl⟩ := addr_spot (x := x) h1
    refine ⟨b, o, rfl, fun j hj => ?_⟩
    rw [hlen] at hj
    simp only [hget j hj]
    rw [← addrk]
    exact hcell j (by omega)

theorem list2 {α : Type} (l : List α) (h : l.length = 2) : ∃ a b, l = [a, b] := by
  match l, h with
  | [a, b], _ => exact ⟨a, b, rfl⟩
set_option maxRecDepth 100000 in
theorem var_trod {fuel : Nat} {cs : List Value} {x : DataW H × List MemPlace} (hl : cs.length = 2) (hf : DataW.trod enc Try.prog w base spare held fuel 54 cs = some x) :
    ∃ c : ByteArray × ByteArray, cs = varC c := by
  have U := Try.underlying54
  obtain ⟨x0, x1, rfl⟩ := list2 cs hl
  have D4 : Try.prog.cellsOf 9 = 1 := by kernel_rfl
  obtain ⟨m1, y1, g1⟩ := field_at U hf 0 _ rfl 1 D4
  obtain ⟨m2, y2, g2⟩ := field_at U hf 1 _ rfl 1 D4
  obtain ⟨n, e1, w1⟩ := leaf_str Try.underlying9 g1
  obtain ⟨v, e2, w2⟩ := leaf_str Try.underlying9 g2
  obtain rfl : x0 = .string n := (List.cons.inj (show [x0] = [.string n] from e1)).1
  obtain rfl : x1 = .string v := (List.cons.inj (show [x1] = [.string v] from e2)).1
  exact ⟨(n, v), rfl⟩

theorem leaf_vars {fuel : Nat} {cs : List Value} {x : DataW H × List MemPlace} (hf : DataW.trod enc Try.prog w 0 (fun _ => true) true fuel 32 cs = some x) :
    ∃ v, cs = [v] ∧ ∃ vs : List (ByteArray × ByteArray), Recs w 2 v (varsC vs) := by
  have C : Try.prog.cellsOf 54 = 2 := by kernel_rfl
  rcases Go.Deep.open_slice Try.underlying32 hf with ⟨hcs, _⟩ | ⟨a', len, cap, m, n, D, Pl, hcs, _, hl, hm, hmm, _, hx⟩
  · exact ⟨_, hcs, [], none, 0, rfl, by simp [varsC], by unfold maxLen; simp, fun h => by simp [varsC] at h⟩
  · have hmc : m = cap := by simpa using hmm
    subst hmc
    have each : ∀ i, i < m → ∃ c : ByteArray × ByteArray, ∀ j u, (varC c)[j]? = some u → w.cell? ((a'.add (i * 2)).add j) = some u := by
      intro i hi
      obtain ⟨cs', h1, h2⟩ := hx i hi
      rw [C] at h1
      obtain ⟨_, hlen, hcell⟩ := World.cells?_some h1
      obtain ⟨c, rfl⟩ := var_trod hlen h2
      refine ⟨c, fun j u hu => ?_⟩
      obtain ⟨hj, he⟩ := List.getElem?_eq_some_iff.1 hu
      exact (hcell j hj).trans hu
    obtain ⟨f, hf'⟩ := Go.Deep.choose_lt each
    refine ⟨_, hcs, ?_⟩
    by_cases h0 : len = 0
    · subst h0
      exact ⟨[], some a', m, rfl, by simp [varsC], hm, fun h => by simp [varsC] at h⟩
    have ha : ∃ b o, a' = ⟨b, o, none⟩ := by
      have h9 := (hf' 0 (by omega)) 0 _ rfl
      obtain ⟨ab, ao, sp⟩ := a'
      cases sp with
      | none => exact ⟨ab, ao, rfl⟩
      | some s =>
        have e : (((⟨ab, ao, some s⟩ : Addr).add (0 * 2)).add 0) = ⟨ab, ao, some s⟩ := rfl
        rw [e] at h9
        obtain ⟨b, o, hq⟩ := addr_spot h9
        exact absurd hq (by simp)
    obtain ⟨b, o, rfl⟩ := ha
    have hlen : ((List.range len).map f).length = len := by simp
    have hget : ∀ i, i < len → ((List.range len).map f).getD i v00 = f i := fun i hi => by
      simp [List.getD_eq_getElem?_getD, List.getElem?_map, List.getElem?_range hi]
    refine ⟨(List.range len).map f, some ⟨b, o, none⟩, m, by rw [varsC_length, hlen], by rw [varsC_length, hlen]; exact hl, hm, fun _ => ⟨b, o, rfl, fun j hj => ?_⟩⟩
    rw [varsC_length, hlen] at hj
    rw [varsC_getD _ _ (by rw [hlen]; exact hj), hget j hj]
    intro jj u hu
    have := (hf' j (by omega)) jj u hu
    rw [addrk, addrk] at this
    exact this

set_option maxRecDepth 100000 in
theorem tracked_arg {v : Value} {d : DataW H} {p : List MemPlace} (hv : Value.okWide Try.prog w r b0 35 v) (h : DataW.Trod enc Try.prog w 0 (fun _ => true) true 35 v d p) :
    ∃ (s : ByteArray) (vv vt : Value) (tr us lk od : Bool) (vs : List (ByteArray × ByteArray)) (ts : List ByteArray), v = .agg (trC s vv vt tr us lk od).toArray ∧ Recs w 2 vv (varsC vs) ∧ Cells w vt ts.length (fun i => .string (ts.getD i ByteArray.empty)) := by
  have U := Try.underlying35
  have C : Try.prog.cellsOf 35 = 7 := by kernel_rfl
  obtain ⟨cs, rfl, hsz⟩ := okWide_struct U hv
  obtain ⟨l⟩ := cs
  obtain ⟨x0, x1, x2, x3, x4, x5, x6, rfl⟩ := list7 l (by rw [← C]; exact hsz)
  obtain ⟨fuel, hf⟩ := h
  have D4 : Try.prog.cellsOf 9 = 1 := by kernel_rfl
  have D1 : Try.prog.cellsOf 32 = 1 := by kernel_rfl
  have D2 : Try.prog.cellsOf 33 = 1 := by kernel_rfl
  have D6 : Try.prog.cellsOf 4 = 1 := by kernel_rfl
  obtain ⟨m0, y0, g0⟩ := field_at U hf 0 _ rfl 1 D4
  obtain ⟨m1, y1, g1⟩ := field_at U hf 1 _ rfl 1 D1
  obtain ⟨m2, y2, g2⟩ := field_at U hf 2 _ rfl 1 D2
  obtain ⟨m3, y3, g3⟩ := field_at U hf 3 _ rfl 1 D6
  obtain ⟨m4, y4, g4⟩ := field_at U hf 4 _ rfl 1 D6
  obtain ⟨m5, y5, g5⟩ := field_at U hf 5 _ rfl 1 D6
  obtain ⟨m6, y6, g6⟩ := field_at U hf 6 _ rfl 1 D6
  obtain ⟨s, e0, _⟩ := leaf_str Try.underlying9 g0
  obtain ⟨vv, e1, vs, hvs⟩ := leaf_vars g1
  obtain ⟨vt, e2, ts, hts⟩ := leaf_strs g2
  obtain ⟨b3, e3⟩ := leaf_bool Try.underlying4 g3
  obtain ⟨b4, e4⟩ := leaf_bool Try.underlying4 g4
  obtain ⟨b5, e5⟩ := leaf_bool Try.underlying4 g5
  obtain ⟨b6, e6⟩ := leaf_bool Try.underlying4 g6
  obtain rfl : x0 = .string s := (List.cons.inj (show [x0] = [.string s] from e0)).1
  obtain rfl : x1 = vv := (List.cons.inj (show [x1] = [vv] from e1)).1
  obtain rfl : x2 = vt := (List.cons.inj (show [x2] = [vt] from e2)).1
  obtain rfl : x3 = .bool b3 := (List.cons.inj (show [x3] = [.bool b3] from e3)).1
  obtain rfl : x4 = .bool b4 := (List.cons.inj (show [x4] = [.bool b4] from e4)).1
  obtain rfl : x5 = .bool b5 := (List.cons.inj (show [x5] = [.bool b5] from e5)).1
  obtain rfl : x6 = .bool b6 := (List.cons.inj (show [x6] = [.bool b6] from e6)).1
  exact ⟨s, _, _, b3, b4, b5, b6, vs, ts, rfl, hvs, hts⟩
end
end Go.Proofs.Ytdjnjhlgpflcjaa
