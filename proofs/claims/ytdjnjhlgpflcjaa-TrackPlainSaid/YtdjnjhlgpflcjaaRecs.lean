/- Slices of structs: what reads as a list of records; what the call owns of such. -/
import Derived.Test.YtdjnjhlgpflcjaaBox
import Derived.Laws.OwnMore
namespace Go.Proofs.Ytdjnjhlgpflcjaa
open Go.RowKit

/-- A slice of structs of sz cells each reads as these. -/
def Recs (w : World) (sz : Nat) (v : Value) (rs : List (List Value)) : Prop :=
  ∃ (A : Option Addr) (cap : Nat), v = .slice A rs.length cap ∧ rs.length ≤ cap ∧ cap ≤ maxLen ∧
    (rs ≠ [] → ∃ b o, A = some ⟨b, o, none⟩ ∧ ∀ j, j < rs.length → w.rangeAt b (o + j * sz) (rs.getD j []))
theorem World.rangeAt.ext {w w' : World} {b o : Nat} {cs : List Value} (h : w.rangeAt b o cs) (k : Ext w w') : w'.rangeAt b o cs := fun j v hv => k.cell (h j v hv)
theorem World.rangeAt.on {g : Nat} {w w' : World} {b o : Nat} {cs : List Value} (h : w.rangeAt b o cs) (k : On g w w') (hne : b ≠ g) : w'.rangeAt b o cs := fun j v hv => k.cell (h j v hv) hne
theorem Recs.ext {w w' : World} {sz : Nat} {v : Value} {rs : List (List Value)} (h : Recs w sz v rs) (k : Ext w w') : Recs w' sz v rs := by
  obtain ⟨A, cap, h1, h2, h3, h4⟩ := h
  refine ⟨A, cap, h1, h2, h3, fun hn => ?_⟩
  obtain ⟨b, o, hA, hc⟩ := h4 hn
  exact ⟨b, o, hA, fun j hj => World.rangeAt.ext (hc j hj) k⟩
theorem Recs.at_ {w : World} {sz : Nat} {A : Option Addr} {n cap : Nat} {rs : List (List Value)} (h : Recs w sz (.slice A n cap) rs) (hn : 0 < n) : ∃ b o, A = some ⟨b, o, none⟩ ∧ n = rs.length ∧ ∀ j, j < n → w.rangeAt b (o + j * sz) (rs.getD j []) := by
  obtain ⟨A', cap', hv, _, _, h4⟩ := h
  injection hv with e1 e2 e3
  subst e1 e2
  obtain ⟨b, o, rfl, hc⟩ := h4 (by intro e; subst e; simp at hn)
  exact ⟨b, o, rfl, rfl, hc⟩
theorem Recs.nil (w : World) (sz : Nat) : Recs w sz (.slice none 0 0) [] := ⟨none, 0, rfl, Nat.le_refl _, by unfold maxLen; omega, fun h => absurd rfl h⟩
theorem Recs.shape {w : World} {sz : Nat} {v : Value} {rs : List (List Value)} (h : Recs w sz v rs) : ∃ A c, v = .slice A rs.length c ∧ rs.length ≤ c ∧ c ≤ maxLen := by obtain ⟨A, c, rfl, h1, h2, _⟩ := h; exact ⟨_, _, rfl, h1, h2⟩

/-- The call owns it. -/
def OwnR (t : TypeId) (sz : Nat) (w : World) (base : Nat) (v : Value) (rs : List (List Value)) : Prop := w.ownsRow base t sz v rs.length rs.flatten ∧ ∀ r ∈ rs, r.length = sz
theorem OwnR.nil (t : TypeId) (sz : Nat) (w : World) (base : Nat) : OwnR t sz w base (.slice none 0 0) [] := ⟨World.ownsRow_nil w base t sz, fun r h => by simp at h⟩
theorem OwnR.ext {t : TypeId} {sz : Nat} {w w' : World} {base : Nat} {v : Value} {rs : List (List Value)} (h : OwnR t sz w base v rs) (k : Ext w w') : OwnR t sz w' base v rs :=
  ⟨World.ownsRow.kept (row := none) h.1 ⟨k.os, k.tape, k.output, Ext.size k, fun i hi _ => k.block i hi⟩ (by cases hv : v.ownBlock <;> simp), h.2⟩
theorem OwnR.on {t : TypeId} {sz : Nat} {g : Nat} {w w' : World} {base : Nat} {v : Value} {rs : List (List Value)} (h : OwnR t sz w base v rs) (k : On g w w') (hg : g < base) : OwnR t sz w' base v rs := by
  refine ⟨World.ownsRow.kept h.1 k (.inr ?_), h.2⟩
  intro e
  have := (World.ownsRow.lt h.1 g e).1
  omega
theorem OwnR.more {t : TypeId} {sz : Nat} {w : World} {base base' : Nat} {v : Value} {rs : List (List Value)} (h : OwnR t sz w base v rs) (hb : base' ≤ base) : OwnR t sz w base' v rs := by
  obtain ⟨⟨h1, h2⟩, h3⟩ := h
  refine ⟨⟨h1, ?_⟩, h3⟩
  rcases h2 with h2 | ⟨g, cap, cur, hv, hg, r⟩
  · exact .inl h2
  · exact .inr ⟨g, cap, cur, hv, Nat.le_trans hb hg, r⟩
theorem flatten_at {sz : Nat} : ∀ (rs : List (List Value)), (∀ r ∈ rs, r.length = sz) → ∀ j, j < rs.length → ∀ i u, (rs.getD j [])[i]? = some u → rs.flatten[j * sz + i]? = some u
  | [], _, j, hj, _, _, _ => absurd hj (by simp)
  | r :: rs, h, 0, _, i, u, hu => by
    have hi : i < r.length := by
      rcases Nat.lt_or_ge i r.length with h | h
      · exact h
      · rw [List.getD_cons_zero, List.getElem?_eq_none h] at hu; cases hu
    rw [List.getD_cons_zero] at hu
    rw [Nat.zero_mul, Nat.zero_add, List.flatten_cons, List.getElem?_append_left hi, hu]
  | r :: rs, h, j + 1, hj, i, u, hu => by
    have hr := h r (by simp)
    have ih := flatten_at rs (fun x hx => h x (by simp [hx])) j (by simpa using hj) i u (by simpa using hu)
    rw [List.flatten_cons, List.getElem?_append_right (by rw [hr, Nat.succ_mul]; omega), hr, show (j + 1) * sz + i - sz = j * sz + i by rw [Nat.succ_mul]; omega]
    exact ih
theorem OwnR.recs {t : TypeId} {sz : Nat} {w : World} {base : Nat} {v : Value} {rs : List (List Value)} (h : OwnR t sz w base v rs) : Recs w sz v rs := by
  have hc := fun g hg => World.ownsRow.cells h.1 (g := g) hg
  rcases h.1.2 with ⟨rfl, h0⟩ | ⟨g, cap, cur, rfl, hb, hg, hn, hm, hs, ht⟩
  · have : rs = [] := List.eq_nil_of_length_eq_zero h0
    subst this
    exact Recs.nil w sz
  · refine ⟨_, cap, rfl, hn, hm, fun _ => ⟨g, 0, rfl, fun j hj i u hu => ?_⟩⟩
    have := hc g rfl (j * sz + i) u (flatten_at rs h.2 j hj i u hu)
    rw [addr0] at this
    rw [Nat.zero_add]
    exact this

section
variable {P : Program} {ops : Array Oper} {rest : List Oper} {o : Oper} {a : Act} {w : World} {Q : Exit → Act → World → Prop}
/-- 'append(l, T{..})', where the call owns l. -/
theorem wpl_append_rec {t sl : TypeId} {sz bytes : Nat} {z : Value} (hsl : P.underlying sl = some (.slice t)) (hinfo : (P.info? t).map (fun i => (i.zero, i.size, i.bytes)) = some (some z, sz, bytes)) (hzs : z.cells.size = sz) (hsz : 0 < sz) (hby : bytes ≤ 100)
    {base : Nat} {v : Value} {rs : List (List Value)} (hown : OwnR t sz w base v rs) (row : List Value) (hrow : row.length = sz) (h1 : row.all (·.oneCell') = true)
    (hgd : o.guard = none) (s x : Operand) (ho : o.op = .call { callee := .builtin .append, args := #[s, x], argTypes := #[sl, sl] })
    (hs : a.eval s = v) (C : Array Value) (hC : C = row.toArray) (hx : a.eval x = .slice (some ⟨w.heap.size, 0, none⟩) 1 1) (hlen : rs.length + 1 ≤ 1000000000) (hbase : base ≤ w.heap.size)
    (h : ∀ v' w', OwnR t sz w' base v' (rs ++ [row]) → Below base w w' → wpList P ops Q rest (a.put o.dst v') w') : wpList P ops Q (o :: rest) a (w.alloc (.cells C t)) := by
  subst hC
  refine wpList_plain hgd fun K hK => ?_
  obtain ⟨i, hi, hz, hs1, hb1⟩ := info_parts hinfo
  have hown' := (hown.ext ((Ext.refl w).alloc (.cells row.toArray t))).1
  obtain ⟨v', w', hrun, h2, h3, _⟩ := run_append_own (P := P) (w.alloc (.cells row.toArray t)) base sl o.type t i z sz bytes hsl hi hz hs1 hb1 hzs hsz v rs.length rs.flatten hown' ⟨w.heap.size, 0, none⟩ 1 1 row
    (by rw [hrow, Nat.one_mul]) (fun j u hj => by
      have hjl : j < row.length := by
        rcases Nat.lt_or_ge j row.length with h | h
        · exact h
        · rw [List.getElem?_eq_none h] at hj; cases hj
      rw [addr0, (Box.new w row t) j hjl, List.getD_eq_getElem?_getD, hj]
      rfl) (fun u hu => by rw [List.all_eq_true] at h1; exact h1 u hu) (by unfold maxLen; omega) (by
        have : (rs.length + 1) * bytes ≤ 1000000000 * 100 := Nat.mul_le_mul hlen hby
        omega) (Nat.le_trans hbase (by simp))
  have hb := (Below.refl base (w.alloc (.cells row.toArray t))).grown h3 (Nat.le_trans hbase (by simp)) (fun g hg => (World.ownsRow.lt hown' g hg).1)
  have hb' : Below base w w' := ((Below.refl base w).alloc hbase _).trans hb
  unfold Oper.wp execOp
  simp only [ho, resolve, invoke, builtin, Sem.run_bind, Sem.run_pure, Result.andThen_ok, List.map_toArray, List.map_cons, List.map_nil, hs, hx, hrun]
  refine hK _ _ (h v' w' ⟨?_, ?_⟩ hb')
  · rw [List.length_append, List.flatten_append, List.flatten_cons, List.flatten_nil, List.append_nil]
    exact h2
  · intro r hr
    rcases List.mem_append.1 hr with h | h
    · exact hown.2 r h
    · simp at h; rw [h]; exact hrow

/-- A struct among others is read whole. -/
theorem wpl_load_rec (hgd : o.guard = none) (ty : TypeId) (x : Operand) (ho : o.op = .load ty x) (b off : Nat) (hx : a.eval x = .pointer (some ⟨b, off, none⟩)) {cs : List Value} {d : TypeDesc} (R : w.rangeAt b off cs)
    (hu : P.underlying ty = some d) (hd : d.isRow = true) (hi : (P.info? ty).map (·.size) = some cs.length)
    (h : wpList P ops Q rest (a.put o.dst (.agg cs.toArray)) w) : wpList P ops Q (o :: rest) a w :=
  wpList_load_mid hgd ty x ho b off hx cs d R hu hd hi h
end
end Go.Proofs.Ytdjnjhlgpflcjaa
