/- Any change is appended, both sides; what changes that came in are. -/
import Derived.Test.YtdjnjhlgpflcjaaTrG
import Derived.Test.YtdjnjhlgpflcjaaStr
import Derived.Deep.Slices
namespace Go.Proofs.Ytdjnjhlgpflcjaa
open Go.ChangeShapes Go.WideShapes Go.ChangeAt Go.RowKit

theorem append_g (w : World) (v : Value) (l : List UInt8) (k : Int) (n x : List UInt8) (hr : Rd w v l) (hn : n.length ≤ 10000) (hx : x.length ≤ 10000) (hl : l.length ≤ 5000000) :
    Calls Try.prog 8 #[v, .agg #[.int .i64 k, .string (strL n), .string (strL x)]] w (RetBE w (appR l (k, n, x)).1 (appR l (k, n, x)).2) := by
  unfold appR
  cases hm : mayP (k, n, x) with
  | false => exact append_bad w v k n x hm
  | true =>
    have hk := may_kind _ hm
    dsimp only at hk
    have hc : k = 0 ∨ k = 1 ∨ k = 2 ∨ k = 3 ∨ k = 4 ∨ k = 5 := by omega
    rcases hc with rfl | rfl | rfl | rfl | rfl | rfl
    · exact append_good0 w v l n x hm hr hn hx hl
    · exact append_good1 w v l n x hm hr hn hx hl
    · exact append_good2 w v l n x hm hr hn hx hl
    · exact append_good3 w v l n x hm hr hn hx hl
    · exact append_good4 w v l n x hm hr hn hx hl
    · exact append_good5 w v l n x hm hr hn hx hl
theorem append_r (w : World) (v : Value) (l : List UInt8) (k : Int) (n x : List UInt8) (hr : Rd w v l) (hn : n.length ≤ 10000) (hx : x.length ≤ 10000) (hl : l.length ≤ 5000000) :
    Calls Try.prog 15 #[v, .agg #[.int .i64 k, .string (strL n), .string (strL x)]] w (RetBE w (appR l (k, n, x)).1 (appR l (k, n, x)).2) := by
  unfold appR
  cases hm : mayP (k, n, x) with
  | false => exact append_bad_r w v k n x hm
  | true =>
    have hk := may_kind _ hm
    dsimp only at hk
    have hc : k = 0 ∨ k = 1 ∨ k = 2 ∨ k = 3 ∨ k = 4 ∨ k = 5 := by omega
    rcases hc with rfl | rfl | rfl | rfl | rfl | rfl
    · exact append_good_r0 w v l n x hm hr hn hx hl
    · exact append_good_r1 w v l n x hm hr hn hx hl
    · exact append_good_r2 w v l n x hm hr hn hx hl
    · exact append_good_r3 w v l n x hm hr hn hx hl
    · exact append_good_r4 w v l n x hm hr hn hx hl
    · exact append_good_r5 w v l n x hm hr hn hx hl

theorem strL_ex (s : ByteArray) : ∃ l, s = strL l := ⟨s.data.toList, rfl⟩
section
variable {H : Type} {enc : TypeId × Value → H} {w : World} {r : Reach} {b0 base : Nat} {spare : Nat → Bool} {held : Bool}

theorem list3 {α : Type} (l : List α) (h : l.length = 3) : ∃ a b c, l = [a, b, c] := by
  match l, h with
  | [a, b, c], _ => exact ⟨a, b, c, rfl⟩
theorem list7 {α : Type} (l : List α) (h : l.length = 7) : ∃ a b c d e f g, l = [a, b, c, d, e, f, g] := by
  match l, h with
  | [a, b, c, d, e, f, g], _ => exact ⟨a, b, c, d, e, f, g, rfl⟩

set_option maxRecDepth 100000 in
theorem change_trod {fuel : Nat} {cs : List Value} {x : DataW H × List MemPlace} (hl : cs.length = 3) (hf : DataW.trod enc Try.prog w base spare held fuel 28 cs = some x) :
    ∃ (k : Int) (n v : List UInt8), cs = [.int .i64 k, .string (strL n), .string (strL v)] ∧ (strL n).size ≤ maxLen ∧ (strL v).size ≤ maxLen ∧ (Lit.int .i64 k).wf = true := by
  have U := Try.underlying28
  obtain ⟨x0, x1, x2, rfl⟩ := list3 cs hl
  have D1 : Try.prog.cellsOf 3 = 1 := by kernel_rfl
  have D4 : Try.prog.cellsOf 9 = 1 := by kernel_rfl
  obtain ⟨m0, y0, g0⟩ := field_at U hf 0 _ rfl 1 D1
  obtain ⟨m1, y1, g1⟩ := field_at U hf 1 _ rfl 1 D4
  obtain ⟨m2, y2, g2⟩ := field_at U hf 2 _ rfl 1 D4
  obtain ⟨k, e0, w0⟩ := leaf_int Try.underlying3 g0
  obtain ⟨n, e1, w1⟩ := leaf_str Try.underlying9 g1
  obtain ⟨v, e2, w2⟩ := leaf_str Try.underlying9 g2
  obtain rfl : x0 = .int .i64 k := (List.cons.inj (show [x0] = [.int .i64 k] from e0)).1
  obtain rfl : x1 = .string n := (List.cons.inj (show [x1] = [.string n] from e1)).1
  obtain rfl : x2 = .string v := (List.cons.inj (show [x2] = [.string v] from e2)).1
  obtain ⟨n', rfl⟩ := strL_ex n
  obtain ⟨v', rfl⟩ := strL_ex v
  exact ⟨k, n', v', rfl, w1, w2, w0⟩
theorem change_arg {v : Value} {d : DataW H} {p : List MemPlace} (hv : Value.okWide Try.prog w r b0 28 v) (h : DataW.Trod enc Try.prog w 0 (fun _ => true) true 28 v d p) :
    ∃ (k : Int) (n x : List UInt8), v = .agg #[.int .i64 k, .string (strL n), .string (strL x)] ∧ (strL n).size ≤ maxLen ∧ (strL x).size ≤ maxLen ∧ (Lit.int .i64 k).wf = true := by
  obtain ⟨cs, rfl, hsz⟩ := okWide_struct Try.underlying28 hv
  obtain ⟨l⟩ := cs
  obtain ⟨fuel, hf⟩ := h
  have C : Try.prog.cellsOf 28 = 3 := by kernel_rfl
  obtain ⟨k, n, x, hl, h1, h2, h3⟩ := change_trod (by rw [← C]; exact hsz) hf
  refine ⟨k, n, x, ?_, h1, h2, h3⟩
  rw [show l = [.int .i64 k, .string (strL n), .string (strL x)] from hl]

def okS (c : Chg) : Prop := (strL c.2.1).size ≤ maxLen ∧ (strL c.2.2).size ≤ maxLen ∧ (Lit.int .i64 c.1).wf = true
theorem changes_arg {v : Value} {d : DataW H} {p : List MemPlace} (hv : Value.okWide Try.prog w r b0 29 v) (h : DataW.Trod enc Try.prog w 0 (fun _ => true) true 29 v d p) :
    ∃ cs : List Chg, RecC w v cs ∧ ∀ i, i < cs.length → okS (cs.getD i (0, [], [])) := by
  obtain ⟨a, len, cap, rfl⟩ := okWide_slice Try.underlying29 hv
  obtain ⟨fuel, hf⟩ := h
  have C : Try.prog.cellsOf 28 = 3 := by kernel_rfl
  rcases Go.Deep.open_slice Try.underlying29 hf with ⟨hcs, _⟩ | ⟨a', len', cap', m, n, D, Pl, hcs, _, hl, hm, hmm, _, hx⟩
  · simp [Value.cells] at hcs
    obtain ⟨rfl, rfl, rfl⟩ := hcs
    exact ⟨[], ⟨none, 0, rfl, by simp [chgsC], by unfold maxLen; simp, fun h => by simp [chgsC] at h⟩, fun i hi => by simp at hi⟩
  · simp [Value.cells] at hcs
    obtain ⟨rfl, rfl, rfl⟩ := hcs
    have hmc : m = cap := by simpa using hmm
    subst hmc
    have each : ∀ i, i < m → ∃ c : Chg, okS c ∧ ∀ j u, (chgC c)[j]? = some u → w.cell? ((a'.add (i * 3)).add j) = some u := by
      intro i hi
      obtain ⟨cs', h1, h2⟩ := hx i hi
      rw [C] at h1
      obtain ⟨_, hlen, hcell⟩ := World.cells?_some h1
      obtain ⟨k, nn, x, rfl, q1, q2, q3⟩ := change_trod hlen h2
      refine ⟨(k, nn, x), ⟨q1, q2, q3⟩, fun j u hu => ?_⟩
      obtain ⟨hj, he⟩ := List.getElem?_eq_some_iff.1 hu
      exact (hcell j hj).trans hu
    obtain ⟨f, hf'⟩ := Go.Deep.choose_lt each
    by_cases h0 : len = 0
    · subst h0
      exact ⟨[], ⟨some a', m, rfl, by simp [chgsC], hm, fun h => by simp [chgsC] at h⟩, fun i hi => by simp at hi⟩
    have ha : ∃ b o, a' = ⟨b, o, none⟩ := by
      have h9 := (hf' 0 (by omega)).2 0 _ rfl
      obtain ⟨ab, ao, sp⟩ := a'
      cases sp with
      | none => exact ⟨ab, ao, rfl⟩
      | some s =>
        have e : (((⟨ab, ao, some s⟩ : Addr).add (0 * 3)).add 0) = ⟨ab, ao, some s⟩ := rfl
        rw [e] at h9
        obtain ⟨b, o, hq⟩ := addr_spot h9
        exact absurd hq (by simp)
    obtain ⟨b, o, rfl⟩ := ha
    have hlen : ((List.range len).map f).length = len := by simp
    have hget : ∀ i, i < len → ((List.range len).map f).getD i (0, [], []) = f i := fun i hi => by
      simp [List.getD_eq_getElem?_getD, List.getElem?_map, List.getElem?_range hi]
    refine ⟨(List.range len).map f, ⟨some ⟨b, o, none⟩, m, by rw [chgsC_length, hlen], by rw [chgsC_length, hlen]; exact hl, hm, fun _ => ⟨b, o, rfl, fun j hj => ?_⟩⟩, fun i hi => ?_⟩
    · rw [chgsC_length, hlen] at hj
      rw [chgsC_getD _ _ (by rw [hlen]; exact hj), hget j hj]
      intro jj u hu
      have := (hf' j (by omega)).2 jj u hu
      rw [addrk, addrk] at this
      exact this
    · rw [hlen] at hi
      rw [hget i hi]
      exact (hf' i (by omega)).1
end
end Go.Proofs.Ytdjnjhlgpflcjaa
