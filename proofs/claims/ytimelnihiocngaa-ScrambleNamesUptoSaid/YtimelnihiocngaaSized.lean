/- The reach of what came in: how long its lists are at most; slices of slices of bytes. -/
import Derived.Test.YtimelnihiocngaaOpen
import Derived.Test.YtimelnihiocngaaFacts
import Derived.SizedLaws
import Derived.Deep.Slices
namespace Go.Proofs.Ytimelnihiocngaa
open Go.ChangeShapes Go.WideShapes Go.ChangeAt Go.RowKit

/-- All that a datum holds lies within the reach. -/
def Sz {H : Type} (P : Program) (t : TypeId) (d : DataW H) : Prop := ∀ n ∈ d.weights P t, n ≤ reachBytes
theorem reach_eq : reachBytes = 140737488351232 := rfl

section
variable {H : Type} {enc : TypeId × Value → H} {P : Program} {w : World} {r : Reach} {b0 : Nat}

theorem sz_arg {ts : List TypeId} {ds : List (DataW H)} (h : (DataW.weightsEach P ts ds).all (· ≤ reachBytes) = true) (j : Nat) {t : TypeId} {d : DataW H} (ht : ts[j]? = some t) (hd : ds[j]? = some d) : Sz P t d := fun n hn => by
  simpa using List.all_eq_true.1 h _ (DataW.weights_mem_each ht hd n hn)
theorem weights_all {e : TypeId} {n : Nat} {d : DataW H} (hn : n ∈ d.weights P e) : ∀ {l : List (DataW H)}, d ∈ l → n ∈ DataW.weightsAll P e l
  | a :: l, h => by
    rw [DataW.weightsAll, List.mem_append]
    rcases List.mem_cons.1 h with rfl | h
    · exact .inl hn
    · exact .inr (weights_all hn h)
theorem sz_elem {t e : TypeId} {elems spare : List (DataW H)} (hu : P.underlying t = some (.slice e)) (h : Sz P t (.slice elems spare)) {d : DataW H} (hd : d ∈ elems) : Sz P e d := fun n hn =>
  h n (by simp only [DataW.weights, hu, List.mem_cons, List.mem_append]; exact .inr (.inl (weights_all hn hd)))
theorem sz_len {t e : TypeId} {elems spare : List (DataW H)} (hu : P.underlying t = some (.slice e)) (h : Sz P t (.slice elems spare)) : (elems.length + spare.length) * P.bytesOf e ≤ reachBytes :=
  h _ (by simp [DataW.weights, hu])

/-- A slice of bytes that came in, and how long it is at most. -/
theorem leaf_rdz (hT : BT P) (hc : P.cellsOf 5 = 1) (hb : P.bytesOf 5 = 1) {fuel : Nat} {cs : List Value} {d : DataW H} {p : List MemPlace} (h : DataW.trod enc P w 0 (fun _ => true) true fuel 28 cs = some (d, p)) (hs : Sz P 28 d) :
    ∃ v l, cs = [v] ∧ Rd w v l ∧ l.length ≤ 140737488351232 := by
  rcases open_ints hT.sl hT.el hc h with ⟨hcs, _⟩ | ⟨x, l, c, zs, hcs, _, hl, hm, hz, hx, hcell, hwz⟩
  · exact ⟨_, [], hcs, Rd.nil w, by simp⟩
  · obtain ⟨l', hl', hle⟩ := rd_of (w := w) (a := some x) (len := l) (cap := c) (zs := zs) (.inr ⟨x, rfl, hl, hm, by simpa using hz, hcell, hwz⟩)
    refine ⟨_, l', hcs, hl', ?_⟩
    have := congrArg Prod.fst hx
    dsimp only at this
    subst this
    have h2 := sz_len hT.sl hs
    rw [hb, reach_eq] at h2
    simp [lits] at h2 hz
    omega
theorem rd_argz {v : Value} {d : DataW H} {p : List MemPlace} (hT : BT P) (hc : P.cellsOf 5 = 1) (hb : P.bytesOf 5 = 1)
    (hv : Value.okWide P w r b0 28 v) (h : DataW.Trod enc P w 0 (fun _ => true) true 28 v d p) (hs : Sz P 28 d) : ∃ l : List UInt8, Rd w v l ∧ l.length ≤ 140737488351232 := by
  obtain ⟨a, len, cap, rfl⟩ := okWide_slice hT.sl hv
  obtain ⟨fuel, hf⟩ := h
  obtain ⟨v', l, hcs, hr, hl⟩ := leaf_rdz hT hc hb hf hs
  simp [Value.cells] at hcs
  subst hcs
  exact ⟨l, hr, hl⟩

/-- A slice of slices of bytes: each reads as a list. -/
def Lists (w : World) (v : Value) (ls : List (List UInt8)) : Prop :=
  ∃ (A : Option Addr) (cap : Nat), v = .slice A ls.length cap ∧ ls.length ≤ cap ∧ cap ≤ maxLen ∧
    (ls ≠ [] → ∃ b o, A = some ⟨b, o, none⟩ ∧ ∀ j, j < ls.length → ∃ u, w.cell? ⟨b, o + j, none⟩ = some u ∧ Rd w u (ls.getD j []))
theorem Lists.ext {w w' : World} {v : Value} {ls : List (List UInt8)} (h : Lists w v ls) (k : Ext w w') : Lists w' v ls := by
  obtain ⟨A, cap, h1, h2, h3, h4⟩ := h
  refine ⟨A, cap, h1, h2, h3, fun hn => ?_⟩
  obtain ⟨b, o, hA, hc⟩ := h4 hn
  refine ⟨b, o, hA, fun j hj => ?_⟩
  obtain ⟨u, hu, hr⟩ := hc j hj
  exact ⟨u, k.cell hu, hr.ext k⟩

theorem lists_argz {v : Value} {d : DataW H} {p : List MemPlace} (hT : BT P) (hc : P.cellsOf 5 = 1) (hb : P.bytesOf 5 = 1) (hsl : P.underlying 32 = some (.slice 28)) (hcl : P.cellsOf 28 = 1)
    (hv : Value.okWide P w r b0 32 v) (h : DataW.Trod enc P w 0 (fun _ => true) true 32 v d p) (hs : Sz P 32 d) :
    ∃ ls : List (List UInt8), Lists w v ls ∧ ∀ j, (ls.getD j []).length ≤ 140737488351232 := by
  obtain ⟨a, len, cap, rfl⟩ := okWide_slice hsl hv
  obtain ⟨fuel, hf⟩ := h
  rcases Go.Deep.open_slice1 hsl hcl hf with ⟨hcs, _⟩ | ⟨x, l, c, m, n, V, D, Pl, hcs, _, hl, hm, hmm, hx, hcell⟩
  · simp [Value.cells] at hcs
    obtain ⟨rfl, rfl, rfl⟩ := hcs
    exact ⟨[], ⟨none, 0, rfl, Nat.le_refl _, by unfold maxLen; simp, fun h => absurd rfl h⟩, fun j => by simp⟩
  · simp [Value.cells] at hcs
    obtain ⟨rfl, rfl, rfl⟩ := hcs
    have hd := congrArg Prod.fst hx
    dsimp only at hd
    subst hd
    have hlm : len ≤ m := by rw [hmm]; split <;> omega
    have key : ∀ i, i < len → ∃ L : List UInt8, Rd w (V i) L ∧ L.length ≤ 140737488351232 := fun i hi => by
      obtain ⟨h1, h2⟩ := hcell i (by omega)
      obtain ⟨v', l', e, hr, hl'⟩ := leaf_rdz hT hc hb h2 (sz_elem hsl hs (List.mem_map.2 ⟨i, List.mem_range.2 hi, rfl⟩))
      simp at e
      subst e
      exact ⟨l', hr, hl'⟩
    obtain ⟨F, hF⟩ := Go.Deep.choose_lt (α := List UInt8) key
    have hlen : ((List.range len).map F).length = len := by simp
    have hget : ∀ j, j < len → ((List.range len).map F).getD j [] = F j := fun j hj => by
      simp [List.getD, hj]
    refine ⟨(List.range len).map F, ⟨some x, cap, by rw [hlen], by rw [hlen]; exact hl, hm, fun hne => ?_⟩, fun j => ?_⟩
    · have h0 : 0 < len := by
        rcases Nat.eq_zero_or_pos len with h | h
        · subst h; exact absurd rfl hne
        · exact h
      have h1 := (hcell 0 (by omega)).1
      obtain ⟨b, o, rfl⟩ := addr_spot (x := x) h1
      refine ⟨b, o, rfl, fun j hj => ?_⟩
      rw [hlen] at hj
      refine ⟨V j, ?_, ?_⟩
      · rw [← addrk]
        exact (hcell j (by omega)).1
      · rw [hget j hj]
        exact (hF j hj).1
    · rcases Nat.lt_or_ge j len with hj | hj
      · rw [hget j hj]
        exact (hF j hj).2
      · rw [List.getD_eq_getElem?_getD, List.getElem?_eq_none (by rw [hlen]; exact hj)]
        simp
end
end Go.Proofs.Ytimelnihiocngaa
