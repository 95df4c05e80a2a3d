/- The contracts of the statements' own helpers: a copy with room behind it, are two lists of bytes the same, is a copy as it was. -/
import Derived.Test.YtdjnjhlgpflcjaaLenA
namespace Go.Proofs.Ytdjnjhlgpflcjaa
open Go.RowKit

/-- One result that holds for true; the world has only grown. -/
def RetTrue (w : World) (e : Ending) (w' : World) : Prop := e = .returned (.bool true) ∧ Ext w w'

theorem strL_tl (l : List UInt8) : (strL l).toList = l := by rw [ByteArray.toList_eq]; rfl

theorem same_c (w : World) (a b : Value) (l m : List UInt8) (ha : Rd w a l) (hb : Rd w b m) (r : Bool) (hr : (l == m) = r) :
    Calls Try.prog 12 #[a, b] w fun e w' => e = .returned (.bool r) ∧ w = w' := by
  have HA := Lib.hid ha
  have HB := Lib.hid hb
  have HR := Lib.hid hr
  clear ha hb hr
  go_enter Try.func12, Try.ntmps12
  go_wp2_with (first | ((with_reducible show wpList _ _ _ (⟨some 6, _, _, _, _, _⟩ :: _) _ _); refine wpl_str bt HA.out rfl _ rfl rfl ?_) | ((with_reducible show wpList _ _ _ (⟨some 8, _, _, _, _, _⟩ :: _) _ _); refine wpl_str bt HB.out rfl _ rfl rfl ?_))
  go_ret
  refine ⟨?_, rfl⟩
  rw [← HR.out]
  show Ending.returned (Value.bool ((strL l).toList == (strL m).toList)) = _
  rw [strL_tl, strL_tl]

/-- A new list of bytes, written out. -/
theorem rd_lit (w : World) (cs : Array Value) (l : List UInt8) (hc : cs = (bc l).toArray) (hl : l.length ≤ 1000) (n g : Nat) (hn : n = l.length) (hg : g = w.heap.size) :
    Rd (w.alloc (.cells cs 5)) (.slice (some ⟨g, 0, none⟩) n n) l := by
  subst hg
  exact rd_new w cs l hc n hn (by unfold maxLen; omega)

/-- A copy with eight bytes of room behind it. -/
def OwnS (w : World) (v : Value) (l : List UInt8) : Prop := ∃ A cap, v = .slice A l.length cap ∧ l.length + 8 ≤ cap ∧ Rd w (.slice A (l.length + 8) cap) (l ++ List.replicate 8 165)

theorem OwnS.ext {w w' : World} {v : Value} {l : List UInt8} (h : OwnS w v l) (k : Ext w w') : OwnS w' v l := by
  obtain ⟨A, cap, hv, hc, hr⟩ := h
  exact ⟨A, cap, hv, hc, hr.ext k⟩

theorem OwnS.rd {w : World} {v : Value} {l : List UInt8} (h : OwnS w v l) : Rd w v l := by
  obtain ⟨A, cap, rfl, hc, hr⟩ := h
  have := Rd.cut hr 0 l.length (Nat.zero_le _) (by simp)
  have h0 : cap ≠ 0 := by omega
  rw [List.drop_zero, List.take_left, if_neg h0, Nat.sub_zero, Nat.sub_zero] at this
  cases A with
  | none => exact this
  | some a => simpa [Addr.add] using this

section
variable {P : Program} {w : World} {ops : Array Oper} {rest : List Oper} {o : Oper} {a : Act} {Q : Exit → Act → World → Prop}

/-- 'make([]byte, 0, n)'. -/
theorem wpl_make0 (hT : BT P) (n : Nat) (hn : n ≤ 100000000)
    (hgd : o.guard = none) (x c : Operand) (kl kc : IntKind) (ho : o.op = .makeSlice 23 x c) (hx : a.eval x = .int kl 0) (C : Int) (hc : a.eval c = .int kc C) (hC : C = (n : Int))
    (h : ∀ v' w', Own w' w.heap.size v' [] → Ext w w' → wpList P ops Q rest (a.put o.dst v') w') : wpList P ops Q (o :: rest) a w := by
  obtain ⟨i, hi, hz, hs1, hb1⟩ := hT.info
  refine wpList_make_own (P := P) w hgd x c 23 ho w.heap.size 5 i (.int .u8 0) 1 hT.sl hi hz hs1 kl kc C n hx hc hC (by rw [hb1]; omega) (by unfold maxLen; omega) (Nat.le_refl _) fun w' h1 h2 => h _ _ h1 ?_
  exact (Below.refl _ w).grown h2 (Nat.le_refl _) (fun k hk => by cases hk)

/-- A copy is cut so that eight bytes of room stand behind it. -/
theorem wpl_own8 (hT : BT P) {v : Value} {l : List UInt8} (hr : Rd w v (l ++ List.replicate 8 165))
    (hgd : o.guard = none) (x hi : Operand) (k : IntKind) (ho : o.op = .slice 23 x none (some hi) none) (hx : a.eval x = v) (hhi : a.eval hi = .int k (l.length : Int))
    (h : ∀ v', OwnS w v' l → wpList P ops Q rest (a.put o.dst v') w) : wpList P ops Q (o :: rest) a w := by
  obtain ⟨A, cap, rfl, hle, hm, hA, hc⟩ := id hr
  rw [List.length_append, List.length_replicate] at hle
  obtain ⟨b, off, rfl, _⟩ := hc (by simp)
  refine wpl_val hgd (v := .slice (some ⟨b, off, none⟩) l.length cap) (w' := w) ?_ (h _ ⟨_, cap, rfl, hle, by
    rw [List.length_append, List.length_replicate] at hr
    exact hr⟩)
  unfold execOp
  have hb : (l.length : Int) ≤ (cap : Int) := by omega
  have h1 : (0 : Int) ≤ (l.length : Int) := by omega
  simp [ho, hx, hhi, Instr.sliceAt, Instr.slice, run_underlying hT.sl, Instr.sliceBounds, run_sliceBound, hb, h1, sizeOf_u8 hT, Addr.add]
end

end Go.Proofs.Ytdjnjhlgpflcjaa
