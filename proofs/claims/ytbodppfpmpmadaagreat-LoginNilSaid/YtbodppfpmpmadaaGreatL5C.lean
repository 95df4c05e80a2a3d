import Derived.Test.YtbodppfpmpmadaaGreatL2C
import Derived.Test.YtbodppfpmpmadaaGreatL1C
import Derived.SizedLaws
import Derived.Deep.Slices
import Derived.Test.YtbodppfpmpmadaaGreatL4C
import Derived.Laws.BitsAllLaws
import Derived.Laws.OwnMore
import Derived.Outline
/- The reach of what came in: how long its lists are at most; slices of slices of bytes. -/
namespace Go.Proofs.YtbodppfpmpmadaaGreat
open Go.ChangeShapes Go.WideShapes Go.ChangeAt Go.RowKit

/-- All that a datum holds lies within the reach. -/
def Sz {H : Type} (P : Program) (t : TypeId) (d : DataW H) : Prop := ∀ n ∈ d.weights P t, n ≤ reachBytes
theorem reach_eq : reachBytes = 140737488351232 := rfl

section
variable {H : Type} {enc : TypeId × Value → H} {P : Program} {w : World} {r : Reach} {b0 : Nat}

theorem sz_arg {ts : List TypeId} {ds : List (DataW H)} (h : (DataW.weightsEach P ts ds).all (· ≤ reachBytes) = true) (j : Nat) {t : TypeId} {d : DataW H} (ht : ts[j]? = some t) (hd : ds[j]? = some d) : Sz P t d := fun n hn => by
  simpa using List.all_eq_true.1 h _ (DataW.weights_mem_each ht hd n hn)
theorem weights_all {e : TypeId} {n : Nat} {d : DataW H} (hn : n ∈ d.weights P e) : ∀ {l : List (DataW H)}, d ∈ l → n ∈ DataW.weightsAll P e l
  | a :: l, h => by
    rw [DataW.weightsAll, List.mem_append]
    rcases List.mem_cons.1 h with rfl | h
    · exact .inl hn
    · exact .inr (weights_all hn h)
theorem sz_elem {t e : TypeId} {elems spare : List (DataW H)} (hu : P.underlying t = some (.slice e)) (h : Sz P t (.slice elems spare)) {d : DataW H} (hd : d ∈ elems) : Sz P e d := fun n hn =>
  h n (by simp only [DataW.weights, hu, List.mem_cons, List.mem_append]; exact .inr (.inl (weights_all hn hd)))
theorem sz_len {t e : TypeId} {elems spare : List (DataW H)} (hu : P.underlying t = some (.slice e)) (h : Sz P t (.slice elems spare)) : (elems.length + spare.length) * P.bytesOf e ≤ reachBytes :=
  h _ (by simp [DataW.weights, hu])

/-- A slice of bytes that came in, and how long it is at most. -/
theorem leaf_rdz (hT : BT P) (hc : P.cellsOf 5 = 1) (hb : P.bytesOf 5 = 1) {fuel : Nat} {cs : List Value} {d : DataW H} {p : List MemPlace} (h : DataW.trod enc P w 0 (fun _ => true) true fuel 22 cs = some (d, p)) (hs : Sz P 22 d) :
    ∃ v l, cs = [v] ∧ Rd w v l ∧ l.length ≤ 140737488351232 := by
  rcases open_ints hT.sl hT.el hc h with ⟨hcs, _⟩ | ⟨x, l, c, zs, hcs, _, hl, hm, hz, hx, hcell, hwz⟩
  · exact ⟨_, [], hcs, Rd.nil w, by simp⟩
  · obtain ⟨l', hl', hle⟩ := rd_of (w := w) (a := some x) (len := l) (cap := c) (zs := zs) (.inr ⟨x, rfl, hl, hm, by simpa using hz, hcell, hwz⟩)
    refine ⟨_, l', hcs, hl', ?_⟩
    have := congrArg Prod.fst hx
    dsimp only at this
    subst this
    have h2 := sz_len hT.sl hs
    rw [hb, reach_eq] at h2
    simp [lits] at h2 hz
    omega
theorem rd_argz {v : Value} {d : DataW H} {p : List MemPlace} (hT : BT P) (hc : P.cellsOf 5 = 1) (hb : P.bytesOf 5 = 1)
    (hv : Value.okWide P w r b0 22 v) (h : DataW.Trod enc P w 0 (fun _ => true) true 22 v d p) (hs : Sz P 22 d) : ∃ l : List UInt8, Rd w v l ∧ l.length ≤ 140737488351232 := by
  obtain ⟨a, len, cap, rfl⟩ := okWide_slice hT.sl hv
  obtain ⟨fuel, hf⟩ := h
  obtain ⟨v', l, hcs, hr, hl⟩ := leaf_rdz hT hc hb hf hs
  simp [Value.cells] at hcs
  subst hcs
  exact ⟨l, hr, hl⟩

/-- A slice of slices of bytes: each reads as a list. -/
def Lists (w : World) (v : Value) (ls : List (List UInt8)) : Prop :=
  ∃ (A : Option Addr) (cap : Nat), v = .slice A ls.length cap ∧ ls.length ≤ cap ∧ cap ≤ maxLen ∧
    (ls ≠ [] → ∃ b o, A = some ⟨b, o, none⟩ ∧ ∀ j, j < ls.length → ∃ u, w.cell? ⟨b, o + j, none⟩ = some u ∧ Rd w u (ls.getD j []))
theorem Lists.ext {w w' : World} {v : Value} {ls : List (List UInt8)} (h : Lists w v ls) (k : Ext w w') : Lists w' v ls := by
  obtain ⟨A, cap, h1, h2, h3, h4⟩ := h
  refine ⟨A, cap, h1, h2, h3, fun hn => ?_⟩
  obtain ⟨b, o, hA, hc⟩ := h4 hn
  refine ⟨b, o, hA, fun j hj => ?_⟩
  obtain ⟨u, hu, hr⟩ := hc j hj
  exact ⟨u, k.cell hu, hr.ext k⟩

theorem lists_argz {v : Value} {d : DataW H} {p : List MemPlace} (hT : BT P) (hc : P.cellsOf 5 = 1) (hb : P.bytesOf 5 = 1) (hsl : P.underlying 41 = some (.slice 22)) (hcl : P.cellsOf 22 = 1)
    (hv : Value.okWide P w r b0 41 v) (h : DataW.Trod enc P w 0 (fun _ => true) true 41 v d p) (hs : Sz P 41 d) :
    ∃ ls : List (List UInt8), Lists w v ls ∧ ∀ j, (ls.getD j []).length ≤ 140737488351232 := by
  obtain ⟨a, len, cap, rfl⟩ := okWide_slice hsl hv
  obtain ⟨fuel, hf⟩ := h
  rcases Go.Deep.open_slice1 hsl hcl hf with ⟨hcs, _⟩ | ⟨x, l, c, m, n, V, D, Pl, hcs, _, hl, hm, hmm, hx, hcell⟩
  · simp [Value.cells] at hcs
    obtain ⟨rfl, rfl, rfl⟩ := hcs
    exact ⟨[], ⟨none, 0, rfl, Nat.le_refl _, by unfold maxLen; simp, fun h => absurd rfl h⟩, fun j => by simp⟩
  · simp [Value.cells] at hcs
    obtain ⟨rfl, rfl, rfl⟩ := hcs
    have hd := congrArg Prod.fst hx
    dsimp only at hd
    subst hd
    have hlm : len ≤ m := by rw [hmm]; split <;> omega
    have key : ∀ i, i < len → ∃ L : List UInt8, Rd w (V i) L ∧ L.length ≤ 140737488351232 := fun i hi => by
      obtain ⟨h1, h2⟩ := hcell i (by omega)
      obtain ⟨v', l', e, hr, hl'⟩ := leaf_rdz hT hc hb h2 (sz_elem hsl hs (List.mem_map.2 ⟨i, List.mem_range.2 hi, rfl⟩))
      simp at e
      subst e
      exact ⟨l', hr, hl'⟩
    obtain ⟨F, hF⟩ := Go.Deep.choose_lt (α := List UInt8) key
    have hlen : ((List.range len).map F).length = len := by simp
    have hget : ∀ j, j < len → ((List.range len).map F).getD j [] = F j := fun j hj => by
      simp [List.getD, hj]
    refine ⟨(List.range len).map F, ⟨some x, cap, by rw [hlen], by rw [hlen]; exact hl, hm, fun hne => ?_⟩, fun j => ?_⟩
    · have h0 : 0 < len := by
        rcases Nat.eq_zero_or_pos len with h | h
        · subst h; exact absurd rfl hne
        · exact h
      have h1 := (hcell 0 (by omega)).1
      obtain ⟨b, o, rfl⟩ := addr_spot (x := x) h1
      refine ⟨b, o, rfl, fun j hj => ?_⟩
      rw [hlen] at hj
      refine ⟨V j, ?_, ?_⟩
      · rw [← addrk]
        exact (hcell j (by omega)).1
      · rw [hget j hj]
        exact (hF j hj).1
    · rcases Nat.lt_or_ge j len with hj | hj
      · rw [hget j hj]
        exact (hF j hj).2
      · rw [List.getD_eq_getElem?_getD, List.getElem?_eq_none (by rw [hlen]; exact hj)]
        simp
end
end Go.Proofs.YtbodppfpmpmadaaGreat
/- The program's responses: nonces, a hash of several lists. -/
namespace Go.Proofs.YtbodppfpmpmadaaGreat
open Go.RowKit

theorem idx_v (w : World) (v : Value) (l : List UInt8) (c : UInt8) (x r : Int) (hr : Rd w v l) (hx : x = (c.toNat : Int)) (h : Lib.indexByte l c = r) :
    Calls Tryz.prog 78 #[v, .int .u8 x] w fun e w' => e = .returned (.int .i64 r) ∧ w = w' := by
  subst hx; subst h
  have := idx_b w v l (c.toNat : Int) hr
  have e : ((c.toNat : Int)).toNat.toUInt8 = c := by simp
  rw [e] at this
  exact this

set_option maxRecDepth 100000 in
theorem check_c (w : World) (v : Value) (l : List UInt8) (x : Int) (hr : Rd w v l) (hx : checkE l = x) :
    Calls Tryz.prog 39 #[v] w fun e w' => e = .returned (.int .i64 x) ∧ w = w' := by
  have HR := Lib.hid hr
  obtain ⟨A, cap, rfl, hle, hm, _, _⟩ := id hr
  unfold maxLen at hm
  clear hr
  by_cases h20 : l.length = 20
  · have hb : ((l.length : Int) != 20) = false := by simp [h20]
    by_cases hc0 : l.contains 0 = true
    · have h0 := (idx_has 0 l).1 hc0
      obtain rfl : x = 2 := by rw [← hx]; unfold checkE; rw [if_neg]; simp only [hc0]; simp
      generalize hq : Lib.indexByte l 0 = q at h0
      have HQ := Lib.hid hq
      have hd : decide (0 ≤ q) = true := by simpa using h0
      clear hq hx h20 hc0
      go_enter Tryz.func39, Tryz.ntmps39
      go_wp2_with (go_at_call 78; refine (idx_v _ _ l 0 _ q HR.out rfl HQ.out).mono ?_; rintro e w1 ⟨rfl, rfl⟩)
      go_ret
      exact ⟨rfl, rfl⟩
    · have hc0' : l.contains 0 = false := by simpa using hc0
      have h0 := (idx_has 0 l).2 hc0'
      have H0 := Lib.hid h0
      clear h0
      by_cases hc1 : l.contains 36 = true
      · have h1 := (idx_has 36 l).1 hc1
        obtain rfl : x = 2 := by rw [← hx]; unfold checkE; rw [if_neg]; simp only [hc1]; simp
        generalize hq : Lib.indexByte l 36 = q at h1
        have HQ := Lib.hid hq
        have hd : decide (0 ≤ q) = true := by simpa using h1
        clear hq hx h20 hc0 hc0' hc1
        go_enter Tryz.func39, Tryz.ntmps39
        go_wp2_with (first
          | (go_at_call 78; (with_reducible show Calls _ _ #[_, Value.int .u8 0] _ _); refine (idx_v _ _ l 0 _ (-1) HR.out rfl H0.out).mono ?_; rintro e w1 ⟨rfl, rfl⟩)
          | (go_at_call 78; refine (idx_v _ _ l 36 _ q HR.out rfl HQ.out).mono ?_; rintro e w1 ⟨rfl, rfl⟩))
        go_ret
        exact ⟨rfl, rfl⟩
      · have hc1' : l.contains 36 = false := by simpa using hc1
        have h1 := (idx_has 36 l).2 hc1'
        have H1 := Lib.hid h1
        obtain rfl : x = 0 := by rw [← hx]; unfold checkE; rw [if_pos ⟨h20, hc0', hc1'⟩]
        clear h1 hx h20 hc0 hc0' hc1 hc1'
        go_enter Tryz.func39, Tryz.ntmps39
        go_wp2_with (first
          | (go_at_call 78; (with_reducible show Calls _ _ #[_, Value.int .u8 0] _ _); refine (idx_v _ _ l 0 _ (-1) HR.out rfl H0.out).mono ?_; rintro e w1 ⟨rfl, rfl⟩)
          | (go_at_call 78; refine (idx_v _ _ l 36 _ (-1) HR.out rfl H1.out).mono ?_; rintro e w1 ⟨rfl, rfl⟩))
        go_ret
        exact ⟨rfl, rfl⟩
  · have hb : ((l.length : Int) != 20) = true := by simp; omega
    obtain rfl : x = 2 := by rw [← hx]; unfold checkE; rw [if_neg]; intro h; exact h20 h.1
    clear hx
    go_enter Tryz.func39, Tryz.ntmps39
    go_wp2_with fail
    go_ret
    exact ⟨rfl, rfl⟩

/-- A slice that reads as a list, at an index. -/
theorem Rd.at_ {w : World} {A : Option Addr} {n cap : Nat} {l : List UInt8} (h : Rd w (.slice A n cap) l) (hn : 0 < n) : ∃ b o, A = some ⟨b, o, none⟩ ∧ n = l.length ∧ ∀ k, k < n → w.cell? ⟨b, o + k, none⟩ = some (.int .u8 ((l.getD k 0).toNat : Int)) := by
  obtain ⟨A', cap', hv, _, _, _, h4⟩ := h
  injection hv with e1 e2 e3
  subst e1 e2
  obtain ⟨b, o, rfl, hc⟩ := h4 (by intro e; subst e; simp at hn)
  exact ⟨b, o, rfl, rfl, hc⟩

theorem nonceB_lo (c : UInt8) (y : Int) (hy : (c.toNat : Int) % 254 = y) (h : y + 1 < 36) : [UInt8.ofNat (y + 1).toNat] = [nonceB c] := by
  unfold nonceB
  rw [if_pos (by omega)]
  congr 2
  omega
theorem nonceB_hi (c : UInt8) (y : Int) (hy : (c.toNat : Int) % 254 = y) (h : ¬ y + 1 < 36) : [UInt8.ofNat (y + 1 + 1).toNat] = [nonceB c] := by
  unfold nonceB
  rw [if_neg (by omega)]
  congr 2
  omega

section
variable {P : Program} {ops : Array Oper} {rest : List Oper} {o : Oper} {a : Act} {w : World} {Q : Exit → Act → World → Prop}
/-- 'make([]byte, n)'. -/
theorem wpl_zeros (hT : BT P) (n : Nat) (hn : n ≤ 100000000)
    (hgd : o.guard = none) (x c : Operand) (kl kc : IntKind) (ho : o.op = .makeSlice 22 x c) (hx : a.eval x = .int kl (n : Int)) (hc : a.eval c = .int kc (n : Int))
    (h : ∀ v' w', Own w' w.heap.size v' (List.replicate n 0) → Ext w w' → wpList P ops Q rest (a.put o.dst v') w') : wpList P ops Q (o :: rest) a w := by
  obtain ⟨i, hi, hz, hs1, hb1⟩ := hT.info
  obtain ⟨w', hrun, h1, h2⟩ := run_make_full (P := P) w w.heap.size 22 5 i (.int .u8 0) 1 hT.sl hi hz hs1 kl kc n (by rw [hb1]; omega) (by unfold maxLen; omega) (Nat.le_refl _)
  refine wpl_val hgd (v := .slice (some ⟨w.heap.size, 0, none⟩) n n) (w' := w') ?_ (h _ _ ?_ ((Below.refl _ w).grown h2 (Nat.le_refl _) (fun k hk => by cases hk)))
  · unfold execOp
    simp only [ho, hx, hc, Sem.run_bind, Sem.run_pure, Result.andThen_ok, hrun]
  · have e : (madeCells (Value.int .u8 0).cells (n * 1)).toList = bc (List.replicate n 0) := by
      show (madeCells #[Value.int .u8 0] (n * 1)).toList = _
      rw [toList_madeCells_one]
      simp [bc]
    rw [e] at h1
    unfold Own
    rw [List.length_replicate]
    exact h1
end
/-- An owned slice that is not empty: its block's cells may be written. -/
theorem Own.cellsF {w : World} {base : Nat} {v : Value} {l : List UInt8} (h : Own w base v l) (hl : l ≠ []) : ∃ g cap, v = .slice (some ⟨g, 0, none⟩) l.length cap ∧ l.length ≤ cap ∧ cap ≤ maxLen ∧ base ≤ g ∧ BoxF w g (bc l) := by
  have hcells := fun g hg => World.ownsRow.cells h (g := g) hg
  rcases h.2 with ⟨rfl, h0⟩ | ⟨g, cap, cur, rfl, hb, hg, hn, hm, hs, ht⟩
  · exact absurd (List.eq_nil_of_length_eq_zero h0) hl
  · refine ⟨g, cap, rfl, hn, hm, hb, fun j hj => ?_, fun j hj => ?_, ?_⟩
    · rw [bc_length] at hj
      have := hcells g rfl j _ (bc_get l j hj)
      rw [addr0] at this
      rw [this, List.getD_eq_getElem?_getD (l := bc l), bc_get l j hj]
      rfl
    · simp [World.frozen?, hg]
    · rcases Nat.lt_or_ge g w.heap.size with h | h
      · exact h
      · rw [Array.getElem?_eq_none h] at hg; cases hg
theorem BoxF.rd {w : World} {g n cap : Nat} {l : List UInt8} (B : BoxF w g (bc l)) (hn : n = l.length) (h1 : n ≤ cap) (h2 : cap ≤ maxLen) : Rd w (.slice (some ⟨g, 0, none⟩) n cap) l := by
  subst hn
  refine ⟨_, cap, rfl, h1, h2, (fun h => by cases h), fun _ => ⟨g, 0, rfl, fun j hj => ?_⟩⟩
  rw [Nat.zero_add]
  exact B.at (bc_get l j hj)

/-- The first k bytes are joined, the others are noughts still. -/
def xorK (a b : List UInt8) (k : Nat) : List UInt8 := xorL (a.take k) (b.take k) ++ List.replicate (a.length - k) 0
theorem xorK_length (a b : List UInt8) (k : Nat) (h : a.length ≤ b.length) (hk : k ≤ a.length) : (xorK a b k).length = a.length := by
  unfold xorK; rw [List.length_append, xorL_length, List.length_take, List.length_take, List.length_replicate]; omega
theorem xorK_set (a b : List UInt8) (k : Nat) (h : a.length ≤ b.length) (hk : k < a.length) : (xorK a b k).set k (a.getD k 0 ^^^ b.getD k 0) = xorK a b (k + 1) := by
  have hl : (xorL (a.take k) (b.take k)).length = k := by rw [xorL_length, List.length_take, List.length_take]; omega
  unfold xorK
  rw [xorL_take a b k hk (by omega), List.set_append_right _ _ (by omega), hl, Nat.sub_self]
  obtain ⟨q, hq⟩ : ∃ q, a.length - k = q + 1 := ⟨a.length - k - 1, by omega⟩
  rw [hq, List.replicate_succ, List.set_cons_zero, show a.length - (k + 1) = q by omega, List.append_assoc]
  rfl
theorem xorK_all (a b : List UInt8) (h : a.length ≤ b.length) : xorK a b a.length = xorL a b := by
  unfold xorK
  rw [Nat.sub_self, List.replicate_zero, List.append_nil, List.take_length]
  unfold xorL
  induction a generalizing b with
  | nil => rfl
  | cons x a ih =>
    cases b with
    | nil => simp at h
    | cons y b => simp only [List.length_cons, List.take_succ_cons, List.zipWith_cons_cons]; rw [ih b (by simpa using h)]

theorem bc_set (l : List UInt8) (k : Nat) (c : UInt8) (x : Int) (hx : x = (c.toNat : Int)) : (bc l).set k (.int .u8 x) = bc (l.set k c) := by
  subst hx
  simp [bc, List.map_set]

set_option maxRecDepth 100000 in
set_option maxHeartbeats 1000000 in
theorem xor_c (w : World) (va vb : Value) (a b : List UInt8) (ha : Rd w va a) (hb : Rd w vb b) (h0 : 0 < a.length) (hab : a.length ≤ b.length) (h1 : a.length ≤ 1000) :
    Calls Tryz.prog 145 #[va, vb] w fun e w' => ∃ v', e = .returned v' ∧ Rd w' v' (xorL a b) ∧ Ext w w' := by
  have HA := Lib.hid ha
  have HB := Lib.hid hb
  obtain ⟨A, ca, rfl, hle, hm, _, _⟩ := id ha
  obtain ⟨B, cb, rfl, hle2, hm2, _, _⟩ := id hb
  unfold maxLen at hm hm2
  clear ha hb
  obtain ⟨N, hN⟩ : ∃ N, N = a.length := ⟨_, rfl⟩
  obtain ⟨M, hM⟩ : ∃ M, M = b.length := ⟨_, rfl⟩
  have hal := xorK_all a b hab
  rw [← hN] at HA hle h0 hab h1 hal ⊢
  rw [← hM] at HB hle2 hab ⊢
  have HN := Lib.hid hN
  have HM := Lib.hid hM
  have HAL := Lib.hid hal
  clear hN hM hal
  go_enter Tryz.func145, Tryz.ntmps145
  go_wp2_with ((with_reducible show wpList _ _ _ (⟨some 9, _, _, _, _, _⟩ :: _) _ _); refine wpl_zeros bt N (by omega) rfl _ _ _ _ rfl rfl rfl ?_; intro v1 w1 ho1 hx1; have hcf := ho1.cellsF (by intro e; have := congrArg List.length e; simp at this; omega); rw [List.length_replicate] at hcf; obtain ⟨g, cg, hv1, hg1, hg2, hg3, B1⟩ := hcf; subst hv1)
  have e0 : xorK a b 0 = List.replicate N 0 := by unfold xorK; rw [List.take_zero, List.take_zero, Nat.sub_zero, ← HN.out]; rfl
  rw [← e0] at B1
  clear e0 ho1
  unfold maxLen at hg2
  have hgl := B1.lt
  have HG3 := Lib.hid hg3
  have HGL := Lib.hid hgl
  clear hg3 hgl
  go_loopw [6, 12] (fun _ i W => ∃ k : Nat, k ≤ N ∧ i = .int .i64 k ∧ BoxF W g (bc (xorK a b k)) ∧ Ext w W) (fun _ i _ => N - (intOf i).toNat)
  case atStart => exact ⟨0, Nat.zero_le _, rfl, B1, hx1⟩
  case round =>
    clear B1 hx1
    obtain ⟨k, hk, rfl, BK, hx⟩ := hrel
    by_cases hkN : k < N
    · have hbk : (k : Int) < (N : Int) := by omega
      have hbm : (k : Int) < (M : Int) := by omega
      obtain ⟨ba, oa, rfl, _, hca⟩ := (HA.out.ext hx).at_ h0
      obtain ⟨bb, ob, rfl, _, hcb⟩ := (HB.out.ext hx).at_ (by omega)
      have pa := hca k hkN
      have pb := hcb k (by omega)
      have hlk : (bc (xorK a b k)).length = N := by rw [bc_length, xorK_length a b k (by have := HN.out; have := HM.out; omega) (by have := HN.out; omega)]; exact HN.out.symm
      have f := BK.free k (by rw [hlk]; exact hkN)
      have hset := xorK_set a b k (by have := HN.out; have := HM.out; omega) (by have := HN.out; omega)
      have hq := u8_xor_nat (a.getD k 0).toNat (b.getD k 0).toNat (a.getD k 0).toNat_lt (b.getD k 0).toNat_lt
      rw [← UInt8.toNat_xor] at hq
      obtain ⟨og, hog⟩ : ∃ og, wr.cell? ⟨g, k, none⟩ = some og := ⟨_, BK.box k (by rw [hlk]; exact hkN)⟩
      generalize a.getD k 0 = ya at pa hset hq
      generalize b.getD k 0 = yb at pb hset hq
      have HSET := Lib.hid hset
      have HBK := Lib.hid BK
      have HQ := Lib.hid hq
      clear hca hcb hlk hset BK hq
      go_wp2_with fail
      go_region
      all_goals
        go_wp2_with fail
        have B5 := (HBK.out.set k (.int .u8 (bits .xor .u8 (ya.toNat : Int) (yb.toNat : Int)))).ext (Ext.refl _).drew
        rw [bc_set _ _ (ya ^^^ yb) _ HQ.out, HSET.out] at B5
        go_roundw
        case rel => exact ⟨k + 1, by omega, by go_num, B5, (hx.setCell HG3.out _).drew⟩
        case measure => simp [intOf]; omega
    · obtain rfl : k = N := by omega
      rw [HAL.out] at BK
      go_wp2_with fail
      go_ret
      exact ⟨_, rfl, BK.rd (by have h1 := HN.out; have h2 := HM.out; rw [xorL_length]; omega) hg1 (by unfold maxLen; exact hg2), hx⟩
end Go.Proofs.YtbodppfpmpmadaaGreat
/- The program's responses: a hash of several lists, what is stored, responses, what is right. -/
namespace Go.Proofs.YtbodppfpmpmadaaGreat
open Go.RowKit

theorem Lists.at_ {w : World} {A : Option Addr} {n cap : Nat} {ls : List (List UInt8)} (h : Lists w (.slice A n cap) ls) (hn : 0 < n) : ∃ b o, A = some ⟨b, o, none⟩ ∧ n = ls.length ∧ ∀ j, j < n → ∃ u, w.cell? ⟨b, o + j, none⟩ = some u ∧ Rd w u (ls.getD j []) := by
  obtain ⟨A', cap', hv, _, _, h4⟩ := h
  injection hv with e1 e2 e3
  subst e1 e2
  obtain ⟨b, o, rfl, hc⟩ := h4 (by intro e; subst e; simp at hn)
  exact ⟨b, o, rfl, rfl, hc⟩
theorem lists1 (w : World) (v : Value) (l : List UInt8) (hr : Rd w v l) (t : TypeId) (g : Nat) (hg : g = w.heap.size) : Lists (w.alloc (.cells #[v] t)) (.slice (some ⟨g, 0, none⟩) 1 1) [l] := by
  subst hg
  refine ⟨_, 1, rfl, Nat.le_refl _, by unfold maxLen; omega, fun _ => ⟨_, 0, rfl, fun j hj => ?_⟩⟩
  obtain rfl : j = 0 := by simp at hj; exact hj
  exact ⟨v, (Box.new w [v] t) 0 (by simp), hr.ext ((Ext.refl w).alloc _)⟩
theorem lists2 (w : World) (v u : Value) (l m : List UInt8) (hr : Rd w v l) (hs : Rd w u m) (t : TypeId) (g : Nat) (hg : g = w.heap.size) : Lists (w.alloc (.cells #[v, u] t)) (.slice (some ⟨g, 0, none⟩) 2 2) [l, m] := by
  subst hg
  refine ⟨_, 2, rfl, Nat.le_refl _, by unfold maxLen; omega, fun _ => ⟨_, 0, rfl, fun j hj => ?_⟩⟩
  have h2 : j = 0 ∨ j = 1 := by simp at hj; omega
  rcases h2 with rfl | rfl
  · exact ⟨v, (Box.new w [v, u] t) 0 (by simp), hr.ext ((Ext.refl w).alloc _)⟩
  · exact ⟨u, (Box.new w [v, u] t) 1 (by simp), hs.ext ((Ext.refl w).alloc _)⟩
theorem flat_take (ls : List (List UInt8)) (k : Nat) (h : k < ls.length) : (ls.take (k + 1)).flatten = (ls.take k).flatten ++ ls.getD k [] := by
  rw [List.take_add_one, List.getElem?_eq_getElem h, List.getD_eq_getElem?_getD, List.getElem?_eq_getElem h, List.flatten_append]
  simp
theorem flat_le (ls : List (List UInt8)) (k : Nat) : (ls.take k).flatten.length ≤ ls.flatten.length := by
  conv => rhs; rw [← List.take_append_drop k ls, List.flatten_append, List.length_append]
  omega

set_option maxRecDepth 100000 in
set_option maxHeartbeats 1000000 in
theorem hash_c (w : World) (kind : Int) (v : Value) (ls : List (List UInt8)) (hk : kind = 1 ∨ kind = 2) (hls : Lists w v ls) (ht : ls.flatten.length ≤ 1000000) :
    Calls Tryz.prog 146 #[.int .i64 kind, v] w fun e w' => ∃ v', e = .returned v' ∧ Own w' w.heap.size v' (sumP kind ls.flatten) ∧ Ext w w' := by
  have HL := Lib.hid hls
  have HK := Lib.hid hk
  obtain ⟨A, cap, rfl, hle, hm, hz⟩ := hls
  clear hz hk
  unfold maxLen at hm
  obtain ⟨N, hN⟩ : ∃ N, N = ls.length := ⟨_, rfl⟩
  rw [← hN] at HL hle ⊢
  have HN := Lib.hid hN
  have HT := Lib.hid ht
  clear hN ht
  go_enter Tryz.func146, Tryz.ntmps146
  go_wp2_with (go_at_call 180; refine (new_c _ _ HK.out).mono ?_; rintro e w1 ⟨g, rfl, hg, hx1, B1⟩)
  have HG := Lib.hid hg
  clear hg
  go_loopw [8, 16] (fun _ i W => ∃ k : Nat, k ≤ N ∧ i = .int .i64 k ∧ BoxF W g (hashS kind (feedH kind (initH kind) (ls.take k).flatten) ((ls.take k).flatten.length : Int)) ∧ Ext w W) (fun _ i _ => N - (intOf i).toNat)
  case atStart => exact ⟨0, Nat.zero_le _, rfl, B1, hx1⟩
  case round =>
    clear B1 hx1
    obtain ⟨k, hk, rfl, BK, hx⟩ := hrel
    have HBK := Lib.hid BK
    have HX := Lib.hid hx
    clear BK
    by_cases hkN : k < N
    · have hb : (k : Int) < (N : Int) := by omega
      obtain ⟨b, o, hA, hn1, hcs⟩ := (HL.out.ext hx).at_ (by omega)
      obtain ⟨b', o', hA', hn2, hcs0⟩ := HL.out.at_ (by omega)
      clear hn1 hn2
      obtain ⟨u, hu, hru⟩ := hcs0 k hkN
      subst hA
      cases hA'
      have hcu := hx.cell hu
      have hf := flat_take ls k (by have := HN.out; omega)
      have hfl := flat_le ls (k + 1)
      have hfl2 : (ls.take (k + 1)).flatten.length = (ls.take k).flatten.length + (ls.getD k []).length := by rw [hf, List.length_append]
      generalize ls.getD k [] = L at hru hf hfl2
      obtain ⟨Au, cu, rfl, hleu, hmu, hzu⟩ := id hru
      have HRU := Lib.hid hru
      have HF := Lib.hid hf
      have HFL := Lib.hid hfl
      have HFL2 := Lib.hid hfl2
      clear hzu hu hcs hcs0 hru hf hfl hfl2 hx
      go_wp2_with (go_at_call 181; refine (write_c _ g kind _ _ _ L HBK.out (goodH_feed kind _ (goodH_init kind)) (by rcases HK.out with h | h <;> omega) (HRU.out.ext HX.out) (HRU.out.far HG.out) (by have h1 := HFL.out; have h2 := HFL2.out; have h3 := HT.out; omega)).mono ?_; rintro e w2 ⟨rfl, O2, B2⟩)
      rw [← feedH_append, ← HF.out, ← HFL2.out] at B2
      go_roundw
      case rel => exact ⟨k + 1, by omega, by go_num, B2, HX.out.on O2 HG.out⟩
      case measure => simp [intOf]; omega
    · obtain rfl : k = N := by omega
      have e : ls.take k = ls := List.take_of_length_le (by have := HN.out; omega)
      rw [e] at HBK
      clear e
      go_wp2_with (go_at_call 182; refine (sum_c _ g kind _ _ HBK.out (goodH_feed kind _ (goodH_init kind)) (by rcases HK.out with h | h <;> omega) (by have h3 := HT.out; omega)).mono ?_; rintro e w3 ⟨v3, rfl, OW3, hx3⟩)
      go_ret
      exact ⟨_, rfl, OW3.more (Ext.size hx), hx.trans hx3⟩

/-- A slice's value, taken apart. -/
theorem Own.shape {base : Nat} {w : World} {v : Value} {l : List UInt8} (h : Own w base v l) : ∃ A m c, v = .slice A m c := by obtain ⟨A, c, rfl, _⟩ := h.rd; exact ⟨_, _, _, rfl⟩
theorem Rd.shape {w : World} {v : Value} {l : List UInt8} (h : Rd w v l) : ∃ A m c, v = .slice A m c := by obtain ⟨A, c, rfl, _⟩ := h; exact ⟨_, _, _, rfl⟩
theorem hash_d (w : World) (kind : Int) (v : Value) (ls : List (List UInt8)) (hk : kind = 1 ∨ kind = 2) (hls : Lists w v ls) (ht : ls.flatten.length ≤ 1000000) :
    Calls Tryz.prog 146 #[.int .i64 kind, v] w fun e w' => ∃ A m c, e = .returned (.slice A m c) ∧ Own w' w.heap.size (.slice A m c) (sumP kind ls.flatten) ∧ Ext w w' := by
  refine (hash_c w kind v ls hk hls ht).mono ?_
  rintro e w' ⟨v', rfl, h2, h3⟩
  obtain ⟨A, m, c, rfl⟩ := h2.shape
  exact ⟨A, m, c, rfl, h2, h3⟩
theorem xor_d (w : World) (va vb : Value) (a b : List UInt8) (ha : Rd w va a) (hb : Rd w vb b) (h0 : 0 < a.length) (hab : a.length ≤ b.length) (h1 : a.length ≤ 1000) :
    Calls Tryz.prog 145 #[va, vb] w fun e w' => ∃ A m c, e = .returned (.slice A m c) ∧ Rd w' (.slice A m c) (xorL a b) ∧ Ext w w' := by
  refine (xor_c w va vb a b ha hb h0 hab h1).mono ?_
  rintro e w' ⟨v', rfl, h2, h3⟩
  obtain ⟨A, m, c, rfl⟩ := h2.shape
  exact ⟨A, m, c, rfl, h2, h3⟩

set_option maxRecDepth 100000 in
theorem mask_c (w : World) (kind : Int) (vn vs : Value) (n s : List UInt8) (hk : kind = 1 ∨ kind = 2) (hn : Rd w vn n) (hs : Rd w vs s) (h1 : n.length ≤ 10000) (h2 : s.length ≤ 10000) :
    Calls Tryz.prog 147 #[.int .i64 kind, vn, vs] w fun e w' => ∃ v', e = .returned v' ∧ Own w' w.heap.size v' (mixP kind n s) ∧ Ext w w' := by
  have HNN := Lib.hid hn
  have HS := Lib.hid hs
  obtain ⟨An, mn, cn, rfl⟩ := hn.shape
  obtain ⟨As, ms, cs, rfl⟩ := hs.shape
  clear hn hs
  rcases hk with rfl | rfl
  · rw [show mixP 1 n s = sumP 1 (n ++ s) by unfold mixP; rw [if_pos rfl]]
    go_enter Tryz.func147, Tryz.ntmps147
    go_wp2_with (go_at_call 146; refine (hash_c _ 1 _ [n, s] (.inl rfl) (lists2 w _ _ n s HNN.out HS.out _ _ rfl) (by rw [List.flatten_cons, List.flatten_cons, List.flatten_nil, List.append_nil, List.length_append]; omega)).mono ?_; rintro e w2 ⟨v2, rfl, ho2, hx2⟩)
    go_ret
    rw [show [n, s].flatten = n ++ s by simp] at ho2
    exact ⟨_, rfl, ho2.more (by simp), ((Ext.refl w).alloc _).trans hx2⟩
  · rw [show mixP 2 n s = sumP 2 (s ++ n) by unfold mixP; rw [if_neg (by decide)]]
    go_enter Tryz.func147, Tryz.ntmps147
    go_wp2_with (go_at_call 146; refine (hash_c _ 2 _ [s, n] (.inr rfl) (lists2 w _ _ s n HS.out HNN.out _ _ rfl) (by rw [List.flatten_cons, List.flatten_cons, List.flatten_nil, List.append_nil, List.length_append]; omega)).mono ?_; rintro e w2 ⟨v2, rfl, ho2, hx2⟩)
    go_ret
    rw [show [s, n].flatten = s ++ n by simp] at ho2
    exact ⟨_, rfl, ho2.more (by simp), ((Ext.refl w).alloc _).trans hx2⟩

theorem size_c (w : World) (kind x : Int) (hx : (sizeK kind : Int) = x) :
    Calls Tryz.prog 179 #[.int .i64 kind] w fun e w' => e = .returned (.int .i64 x) ∧ w = w' := by
  by_cases h1 : kind = 1
  · subst h1
    obtain rfl : x = 20 := by rw [← hx]; rfl
    clear hx
    go_enter Tryz.func179, Tryz.ntmps179
    go_wp2_with fail
    go_ret
    exact ⟨rfl, rfl⟩
  · by_cases h2 : kind = 2
    · subst h2
      obtain rfl : x = 32 := by rw [← hx]; rfl
      clear hx
      go_enter Tryz.func179, Tryz.ntmps179
      go_wp2_with fail
      go_ret
      exact ⟨rfl, rfl⟩
    · obtain rfl : x = 0 := by rw [← hx]; simp [sizeK, h1, h2]
      have e1 : (kind == 1) = false := by simpa using h1
      have e2 : (kind == 2) = false := by simpa using h2
      clear hx
      go_enter Tryz.func179, Tryz.ntmps179
      go_wp2_with fail
      go_ret
      exact ⟨rfl, rfl⟩

theorem equal_c (w : World) (a b : Value) (l m : List UInt8) (ha : Rd w a l) (hb : Rd w b m) (r : Bool) (hr : (l == m) = r) :
    Calls Tryz.prog 184 #[a, b] w fun e w' => e = .returned (.bool r) ∧ w = w' := by
  have HA := Lib.hid ha
  have HB := Lib.hid hb
  have HR := Lib.hid hr
  clear ha hb hr
  go_enter Tryz.func184, Tryz.ntmps184
  go_wp2_with (first | ((with_reducible show wpList _ _ _ (⟨some 6, _, _, _, _, _⟩ :: _) _ _); refine wpl_str bt HA.out rfl _ rfl rfl ?_) | ((with_reducible show wpList _ _ _ (⟨some 8, _, _, _, _, _⟩ :: _) _ _); refine wpl_str bt HB.out rfl _ rfl rfl ?_))
  go_ret
  refine ⟨?_, rfl⟩
  rw [← HR.out]
  show Ending.returned (Value.bool ((strL l).toList == (strL m).toList)) = _
  rw [strL_tl, strL_tl]

/-- Is a text empty? In the walk's own forms. -/
theorem str_empty {s : ByteArray} (h : s.data.toList = []) : s = ByteArray.empty := by
  apply ByteArray.ext
  exact Array.toList_eq_nil_iff.1 h
theorem str_ne {s : ByteArray} (h : s.data.toList ≠ []) : s.toList.isEmpty = false := by
  rw [ByteArray.toList_eq]
  simpa using h

set_option maxRecDepth 100000 in
set_option maxHeartbeats 1000000 in
theorem stored_c (w : World) (kind : Int) (s : ByteArray) (hs : s.size ≤ 1000000) :
    Calls Tryz.prog 144 #[.int .i64 kind, .string s] w fun e w' => ∃ v', e = .returned (.tuple #[v', .int .i64 (storedE kind)]) ∧ Own w' w.heap.size v' (storedP kind s.data.toList) ∧ Ext w w' := by
  by_cases hk : kind = 1 ∨ kind = 2
  · have eE : storedE kind = 0 := by unfold storedE; rw [if_pos hk]
    rw [eE]
    have hz : ((sizeK kind : Nat) : Int) ≠ 0 := by rcases hk with rfl | rfl <;> decide
    obtain ⟨z, hq⟩ : ∃ z : Int, (sizeK kind : Int) = z := ⟨_, rfl⟩
    have hz1 : (z == 0) = false := by simpa [← hq] using hz
    have HQ := Lib.hid hq
    have HK := Lib.hid hk
    clear eE hz hq hk
    by_cases he : s.data.toList = []
    · obtain rfl := str_empty he
      have eP : storedP kind ByteArray.empty.data.toList = [] := by simp [storedP]
      rw [eP]
      clear eP he
      go_enter Tryz.func144, Tryz.ntmps144
      go_wp2_with (go_at_call 179; refine (size_c _ _ z HQ.out).mono ?_; rintro e w1 ⟨rfl, rfl⟩)
      go_ret2
      exact ⟨_, rfl, Own.nil _ _, Ext.refl _⟩
    · have eP : storedP kind s.data.toList = sumP kind (sumP kind s.data.toList) := by unfold storedP; rw [if_pos ⟨HK.out, he⟩]
      rw [eP]
      have hne := str_ne he
      have hsz : s.data.toList.length = s.size := size_toList s
      have HSZ := Lib.hid hsz
      clear eP he hsz
      go_enter Tryz.func144, Tryz.ntmps144
      go_wp2_with (first
        | (go_at_call 179; refine (size_c _ _ z HQ.out).mono ?_; rintro e w1 ⟨rfl, rfl⟩)
        | ((with_reducible show wpList _ _ _ (⟨some 14, _, _, _, _, _⟩ :: _) _ _); refine wpl_bytes bt s (by unfold maxLen; omega) rfl _ rfl rfl ?_; intro A1 m1 c1 w1 hr1 _ hx1; have tok1 : True := trivial)
        | (go_at_call 146; have _t := tok1; refine (hash_d _ kind _ [s.data.toList] HK.out (lists1 w1 _ _ hr1 _ _ rfl) (by rw [List.flatten_cons, List.flatten_nil, List.append_nil, HSZ.out]; exact hs)).mono ?_; rintro e w2 ⟨A2, m2, c2, rfl, ho2, hx2⟩; clear tok1; simp only [List.flatten_cons, List.flatten_nil, List.append_nil] at ho2)
        | (go_at_call 146; refine (hash_c _ kind _ [sumP kind s.data.toList] HK.out (lists1 w2 _ _ ho2.rd _ _ rfl) (by rw [List.flatten_cons, List.flatten_nil, List.append_nil, sumP_len kind _ HK.out]; have := sizeK_le kind; omega)).mono ?_; rintro e w3 ⟨v3, rfl, ho3, hx3⟩)
        | fail)
      go_ret2
      simp only [List.flatten_cons, List.flatten_nil, List.append_nil] at ho3
      have hx02 := (hx1.alloc _).trans hx2
      exact ⟨_, rfl, ho3.more (Nat.le_trans (Ext.size hx02) (by simp)), (hx02.alloc _).trans hx3⟩
  · have eE : storedE kind = 2 := by unfold storedE; rw [if_neg hk]
    have eP : storedP kind s.data.toList = [] := by unfold storedP; rw [if_neg (fun h => hk h.1)]
    have hz : (sizeK kind : Int) = 0 := by unfold sizeK; rw [if_neg (fun h => hk (.inl h)), if_neg (fun h => hk (.inr h))]; rfl
    rw [eE, eP]
    have HZ := Lib.hid hz
    clear eE eP hk hz
    go_enter Tryz.func144, Tryz.ntmps144
    go_wp2_with (go_at_call 179; refine (size_c _ _ 0 HZ.out).mono ?_; rintro e w1 ⟨rfl, rfl⟩)
    go_ret2
    exact ⟨_, rfl, Own.nil _ _, Ext.refl _⟩

set_option maxRecDepth 100000 in
set_option maxHeartbeats 1000000 in
theorem response_c (w : World) (kind : Int) (s : ByteArray) (vn : Value) (n : List UInt8) (hk : kind = 1 ∨ kind = 2) (hs : s.size ≤ 1000000) (hn : Rd w vn n) :
    Calls Tryz.prog 92 #[.int .i64 kind, .string s, vn] w fun e w' => ∃ v', e = .returned (.tuple #[v', .int .i64 (checkE n)]) ∧ Rd w' v' (respP kind s.data.toList n) ∧ Ext w w' := by
  have HK := Lib.hid hk
  have HNN := Lib.hid hn
  clear hk hn
  rcases checkE_or n with h | h
  · have hl := checkE_len h
    rw [h]
    by_cases he : s.data.toList = []
    · have eP : respP kind s.data.toList n = [] := by unfold respP; rw [if_neg (fun h => h.2 he)]
      rw [eP]
      obtain rfl := str_empty he
      have H := Lib.hid h
      clear h he eP hl
      go_enter Tryz.func92, Tryz.ntmps92
      go_wp2_with (go_at_call 39; refine (check_c _ _ n 0 HNN.out H.out).mono ?_; rintro e w1 ⟨rfl, rfl⟩)
      go_ret2
      exact ⟨_, rfl, Rd.nil _, Ext.refl _⟩
    · have eP : respP kind s.data.toList n = xorL (sumP kind s.data.toList) (mixP kind n (storedP kind s.data.toList)) := by unfold respP; rw [if_pos ⟨h, he⟩]
      rw [eP]
      have hne := str_ne he
      have hsz : s.data.toList.length = s.size := size_toList s
      have HSZ := Lib.hid hsz
      have H := Lib.hid h
      have eE : storedE kind = 0 := by unfold storedE; rw [if_pos HK.out]
      have HE := Lib.hid eE
      have HL := Lib.hid hl
      clear eP he hsz h eE hl
      have hs1 := sumP_len kind s.data.toList HK.out
      have hs2 := mixP_len kind n (storedP kind s.data.toList) HK.out
      have hs3 := sizeK_le kind
      have hs4 : 0 < sizeK kind := by rcases HK.out with rfl | rfl <;> decide
      have hs5 := storedP_le kind s.data.toList
      have HS1 := Lib.hid hs1
      have HS2 := Lib.hid hs2
      clear hs1 hs2
      go_enter Tryz.func92, Tryz.ntmps92
      go_wp2_with (first
        | (go_at_call 39; refine (check_c _ _ n 0 HNN.out H.out).mono ?_; rintro e w1 ⟨rfl, rfl⟩)
        | (go_at_call 144; refine (stored_c _ kind s hs).mono ?_; rintro e w1 ⟨v1, rfl, ho1, hx1⟩; rw [HE.out])
        | ((with_reducible show wpList _ _ _ (⟨some 26, _, _, _, _, _⟩ :: _) _ _); refine wpl_bytes bt s (by unfold maxLen; omega) rfl _ rfl rfl ?_; intro A2 m2 c2 w2 hr2 _ hx2)
        | (go_at_call 146; refine (hash_c _ kind _ [s.data.toList] HK.out (lists1 w2 _ _ hr2 _ _ rfl) (by rw [List.flatten_cons, List.flatten_nil, List.append_nil, HSZ.out]; exact hs)).mono ?_; rintro e w3 ⟨v3, rfl, ho3, hx3⟩; simp only [List.flatten_cons, List.flatten_nil, List.append_nil] at ho3; have hx23 := (hx2.alloc _).trans hx3; have hx03 := hx1.trans hx23)
        | (go_at_call 147; refine (mask_c _ kind _ _ n _ HK.out (HNN.out.ext hx03) (ho1.rd.ext hx23) (by have := HL.out; omega) (by omega)).mono ?_; rintro e w4 ⟨v4, rfl, ho4, hx4⟩)
        | (go_at_call 145; refine (xor_c _ _ _ _ _ (ho3.rd.ext hx4) ho4.rd (by rw [HS1.out]; omega) (by rw [HS1.out, HS2.out]; exact Nat.le_refl _) (by rw [HS1.out]; omega)).mono ?_; rintro e w5 ⟨v5, rfl, ho5, hx5⟩)
        | fail)
      go_ret2
      exact ⟨_, rfl, ho5, (hx03.trans hx4).trans hx5⟩
  · have eP : respP kind s.data.toList n = [] := by unfold respP; rw [if_neg (fun h2 => by rw [h] at h2; exact absurd h2.1 (by decide))]
    rw [eP, h]
    have H := Lib.hid h
    clear h eP
    go_enter Tryz.func92, Tryz.ntmps92
    go_wp2_with (go_at_call 39; refine (check_c _ _ n 2 HNN.out H.out).mono ?_; rintro e w1 ⟨rfl, rfl⟩)
    go_ret2
    exact ⟨_, rfl, Rd.nil _, Ext.refl _⟩

theorem ntv_c (w : World) (s : ByteArray) (vn : Value) (n : List UInt8) (hs : s.size ≤ 1000000) (hn : Rd w vn n) :
    Calls Tryz.prog 50 #[.string s, vn] w fun e w' => ∃ v', e = .returned (.tuple #[v', .int .i64 (checkE n)]) ∧ Rd w' v' (respP 1 s.data.toList n) ∧ Ext w w' := by
  have HNN := Lib.hid hn
  clear hn
  go_enter Tryz.func50, Tryz.ntmps50
  go_wp2_with (go_at_call 92; refine (response_c _ 1 s _ n (.inl rfl) hs HNN.out).mono ?_; rintro e w1 ⟨v1, rfl, hr1, hx1⟩)
  go_ret2
  exact ⟨_, rfl, hr1, hx1⟩
theorem fast_c (w : World) (s : ByteArray) (vn : Value) (n : List UInt8) (hs : s.size ≤ 1000000) (hn : Rd w vn n) :
    Calls Tryz.prog 168 #[.string s, vn] w fun e w' => ∃ v', e = .returned (.tuple #[v', .int .i64 (checkE n)]) ∧ Rd w' v' (respP 2 s.data.toList n) ∧ Ext w w' := by
  have HNN := Lib.hid hn
  clear hn
  go_enter Tryz.func168, Tryz.ntmps168
  go_wp2_with (go_at_call 92; refine (response_c _ 2 s _ n (.inr rfl) hs HNN.out).mono ?_; rintro e w1 ⟨v1, rfl, hr1, hx1⟩)
  go_ret2
  exact ⟨_, rfl, hr1, hx1⟩

end Go.Proofs.YtbodppfpmpmadaaGreat
/- The contracts of the functions that write fixed numbers. -/
namespace Go.Proofs.YtbodppfpmpmadaaGreat
open Go.RowKit

/-- Two results: a slice of bytes that the call owns, and an error's number. -/
def RetBE (w : World) (l : List UInt8) (r : Int) (e : Ending) (w' : World) : Prop := ∃ v, e = .returned (.tuple #[v, .int .i64 r]) ∧ Own w' w.heap.size v l ∧ Ext w w'

/-- What the test at the head of a fixed number's writing finds. -/
theorem fixOk_cases (x n : Int) : (fixOk x n = false ∧ (n < 1 ∨ 8 < n ∨ (1 ≤ n ∧ n < 8 ∧ (x / 2 ^ (8 * n).toNat != 0) = true))) ∨
    (fixOk x n = true ∧ (n = 8 ∨ (1 ≤ n ∧ n < 8 ∧ (x / 2 ^ (8 * n).toNat != 0) = false))) := by
  unfold fixOk
  by_cases h1 : 1 ≤ n
  · by_cases h2 : n ≤ 8
    · by_cases h3 : n = 8
      · exact .inr ⟨by simp [h3], .inl h3⟩
      · by_cases h4 : x / 2 ^ (8 * n).toNat = 0
        · exact .inr ⟨by simp [h1, h2, h4], .inr ⟨h1, by omega, by simp [h4]⟩⟩
        · exact .inl ⟨by simp [h3, h4], .inr (.inr ⟨h1, by omega, by simp [h4]⟩)⟩
    · exact .inl ⟨by simp [h2], .inr (.inl (by omega))⟩
  · exact .inl ⟨by simp [h1], .inl (by omega)⟩

theorem shr_byte (x : Int) (k : Nat) : 0 ≤ x / 2 ^ (8 * k) % 256 ∧ x / 2 ^ (8 * k) % 256 < 256 := by omega


set_option maxHeartbeats 400000 in
theorem appendFixed_bad_len (w : World) (v : Value) (x n : Int) (h : fixOk x n = false) :
    Calls Tryz.prog 153 #[v, .int .u64 x, .int .i64 n] w (RetBE w [] 2) := by
  rcases fixOk_cases x n with ⟨_, h1 | h1 | ⟨h1, h2, h3⟩⟩ | ⟨h1, _⟩
  all_goals first | (rw [h] at h1; cases h1; done) | skip
  all_goals
    clear h
    go_enter Tryz.func153, Tryz.ntmps153
    go_wp2_with fail
    go_ret2
    exact ⟨_, rfl, Own.nil _ _, Ext.refl _⟩

set_option maxHeartbeats 800000 in
theorem appendFixed_good_len (w : World) (v : Value) (l : List UInt8) (x n : Int) (hr : Rd w v l) (hl : l.length ≤ 9000000) (h : fixOk x n = true) :
    Calls Tryz.prog 153 #[v, .int .u64 x, .int .i64 n] w (RetBE w (l ++ fixB x n.toNat) 0) := by
  have hn : 1 ≤ n ∧ n ≤ 8 := by
    rcases fixOk_cases x n with ⟨h1, _⟩ | ⟨_, h1 | ⟨h1, h2, _⟩⟩
    · rw [h] at h1; cases h1
    · omega
    · omega
  obtain ⟨hn1, hn2⟩ := hn
  obtain ⟨N, rfl⟩ : ∃ N : Nat, n = N := ⟨n.toNat, by omega⟩
  have HR := Lib.hid hr
  clear hr
  have hcase := fixOk_cases x N
  rcases hcase with ⟨h1, _⟩ | ⟨_, h1⟩
  · rw [h] at h1; cases h1
  · clear h
    have hx : (N : Int) = 8 ∨ ((N : Int) < 8 ∧ (x / 2 ^ (8 * N) != 0) = false) := by
      rw [show (8 * (N : Int)).toNat = 8 * N from by omega] at h1
      rcases h1 with h1 | ⟨_, h1, h2⟩
      · exact .inl h1
      · exact .inr ⟨h1, h2⟩
    clear h1
    rw [Int.toNat_natCast]
    have d1 : decide ((N : Int) < 1) = false := by simp; omega
    have d2 : decide ((8 : Int) < (N : Int)) = false := by simp; omega
    rcases hx with hx | ⟨hx, hy⟩
    all_goals
      go_enter Tryz.func153, Tryz.ntmps153
      go_wp2_with (go_at_call 97; refine (clone_c _ _ _ HR.out (by omega)).mono ?_; rintro e w1 ⟨v1, rfl, ho, hx1⟩)
      go_loopw [8, 30] (fun o i wr => ∃ k : Nat, k ≤ N ∧ i = .int .i64 k ∧ Own wr w.heap.size o (l ++ fixB x k) ∧ Ext w wr) (fun _ i _ => N - (intOf i).toNat)
      case atStart => exact ⟨0, Nat.zero_le _, rfl, by simpa [fixB] using ho, hx1⟩
      case round =>
        obtain ⟨k, hk, rfl, ho2, hx2⟩ := hrel
        have hlen := fixB_length x k
        by_cases hlt : k < N
        · go_wp2_with (at_builtin; go_must (refine wpl_append_one bt (x / 2 ^ (8 * k) % 256) ho2 (shr_byte x k).1 (shr_byte x k).2 rfl _ _ rfl rfl rfl (by simp [hlen]; omega) (Ext.size hx2) ?_); intro v3 w3 ho3 hb3)
          go_roundw
          case rel => exact ⟨k + 1, by omega, by go_num, by rw [fixB_succ, ← List.append_assoc]; exact ho3, hx2.below hb3 (Nat.le_refl _)⟩
          case measure => simp [intOf]; omega
        · obtain rfl : k = N := by omega
          go_wp2_with fail
          go_ret2
          exact ⟨_, rfl, ho2, hx2⟩

set_option maxHeartbeats 400000 in
theorem appendFixed_bad_ref (w : World) (v : Value) (x n : Int) (h : fixOk x n = false) :
    Calls Tryz.prog 158 #[v, .int .u64 x, .int .i64 n] w (RetBE w [] 2) := by
  rcases fixOk_cases x n with ⟨_, h1 | h1 | ⟨h1, h2, h3⟩⟩ | ⟨h1, _⟩
  all_goals first | (rw [h] at h1; cases h1; done) | skip
  all_goals
    clear h
    go_enter Tryz.func158, Tryz.ntmps158
    go_wp2_with fail
    go_ret2
    exact ⟨_, rfl, Own.nil _ _, Ext.refl _⟩

set_option maxHeartbeats 800000 in
theorem appendFixed_good_ref (w : World) (v : Value) (l : List UInt8) (x n : Int) (hr : Rd w v l) (hl : l.length ≤ 9000000) (h : fixOk x n = true) :
    Calls Tryz.prog 158 #[v, .int .u64 x, .int .i64 n] w (RetBE w (l ++ fixB x n.toNat) 0) := by
  have hn : 1 ≤ n ∧ n ≤ 8 := by
    rcases fixOk_cases x n with ⟨h1, _⟩ | ⟨_, h1 | ⟨h1, h2, _⟩⟩
    · rw [h] at h1; cases h1
    · omega
    · omega
  obtain ⟨hn1, hn2⟩ := hn
  obtain ⟨N, rfl⟩ : ∃ N : Nat, n = N := ⟨n.toNat, by omega⟩
  have HR := Lib.hid hr
  clear hr
  have hcase := fixOk_cases x N
  rcases hcase with ⟨h1, _⟩ | ⟨_, h1⟩
  · rw [h] at h1; cases h1
  · clear h
    have hx : (N : Int) = 8 ∨ ((N : Int) < 8 ∧ (x / 2 ^ (8 * N) != 0) = false) := by
      rw [show (8 * (N : Int)).toNat = 8 * N from by omega] at h1
      rcases h1 with h1 | ⟨_, h1, h2⟩
      · exact .inl h1
      · exact .inr ⟨h1, h2⟩
    clear h1
    rw [Int.toNat_natCast]
    have d1 : decide ((N : Int) < 1) = false := by simp; omega
    have d2 : decide ((8 : Int) < (N : Int)) = false := by simp; omega
    rcases hx with hx | ⟨hx, hy⟩
    all_goals
      go_enter Tryz.func158, Tryz.ntmps158
      go_wp2_with (at_builtin; refine wpl_clone bt HR.out rfl _ _ rfl rfl rfl (by omega) ?_; intro v1 w1 ho hx1)
      go_loopw [8, 9] (fun o i wr => ∃ k : Nat, k ≤ N ∧ i = .int .i64 k ∧ Own wr w.heap.size o (l ++ fixB x k) ∧ Ext w wr) (fun _ i _ => N - (intOf i).toNat)
      case atStart => exact ⟨0, Nat.zero_le _, rfl, by simpa [fixB] using ho, hx1⟩
      case round =>
        obtain ⟨k, hk, rfl, ho2, hx2⟩ := hrel
        have hlen := fixB_length x k
        by_cases hlt : k < N
        · go_wp2_with (at_builtin; go_must (refine wpl_append_one bt (x / 2 ^ (8 * k) % 256) ho2 (shr_byte x k).1 (shr_byte x k).2 rfl _ _ rfl rfl rfl (by simp [hlen]; omega) (Ext.size hx2) ?_); intro v3 w3 ho3 hb3)
          go_roundw
          case rel => exact ⟨k + 1, by omega, by go_num, by rw [fixB_succ, ← List.append_assoc]; exact ho3, hx2.below hb3 (Nat.le_refl _)⟩
          case measure => simp [intOf]; omega
        · obtain rfl : k = N := by omega
          go_wp2_with fail
          go_ret2
          exact ⟨_, rfl, ho2, hx2⟩
end Go.Proofs.YtbodppfpmpmadaaGreat
/- The contracts of the functions that read fixed numbers. -/
namespace Go.Proofs.YtbodppfpmpmadaaGreat
open Go.RowKit

set_option maxHeartbeats 400000 in
theorem readFixed_good_len (w : World) (v : Value) (l : List UInt8) (n : Int) (hr : Rd w v l) (h1 : 1 ≤ n) (h2 : n ≤ 8) (h3 : n ≤ l.length) :
    Calls Tryz.prog 136 #[v, .int .i64 n] w fun e w' => e = .returned (.tuple #[.int .u64 (leN (l.take n.toNat)), .int .i64 0]) ∧ w = w' := by
  obtain ⟨N, rfl⟩ : ∃ N : Nat, n = N := ⟨n.toNat, by omega⟩
  rw [Int.toNat_natCast]
  obtain ⟨A, cap, rfl, hle, hm, hA, hc⟩ := hr
  obtain ⟨b, o, rfl, hc2⟩ := hc (by intro h; subst h; simp at h3; omega)
  clear hA hc
  unfold maxLen at hm
  have HC := Lib.hid hc2
  clear hc2
  have d1 : decide ((N : Int) < 1) = false := by simp; omega
  have d2 : decide ((8 : Int) < (N : Int)) = false := by simp; omega
  go_enter Tryz.func136, Tryz.ntmps136
  go_wp2_with fail
  go_loop [6, 19] (fun x i => ∃ k : Nat, k ≤ N ∧ i = .int .i64 k ∧ x = .int .u64 (leN (l.take k))) (fun _ i => N - (intOf i).toNat)
  case atStart => exact ⟨0, Nat.zero_le _, rfl, rfl⟩
  case round =>
    obtain ⟨k, hk, rfl, rfl⟩ := hrel
    by_cases hlt : k < N
    · have hcell := HC.out k (by omega)
      go_wp2_with fail
      go_round
      case rel =>
        refine ⟨k + 1, by omega, by go_num, ?_⟩
        rw [or_byte _ _ _ (leN_take_lt l k) (UInt8.toNat_lt _) (by omega), leN_take_succ l k (by omega)]
      case measure => simp [intOf]; omega
    · obtain rfl : k = N := by omega
      go_wp2_with fail
      go_ret2
      exact ⟨rfl, rfl⟩

set_option maxHeartbeats 400000 in
theorem readFixed_arg_len (w : World) (v : Value) (n : Int) (h : n < 1 ∨ 8 < n) :
    Calls Tryz.prog 136 #[v, .int .i64 n] w fun e w' => e = .returned (.tuple #[.int .u64 0, .int .i64 2]) ∧ w = w' := by
  rcases h with h | h
  all_goals
    go_enter Tryz.func136, Tryz.ntmps136
    go_wp2_with fail
    go_ret2
    exact ⟨rfl, rfl⟩

set_option maxHeartbeats 400000 in
theorem readFixed_short_len (w : World) (v : Value) (l : List UInt8) (n : Int) (hr : Rd w v l) (h1 : 1 ≤ n) (h2 : n ≤ 8) (h3 : l.length < n) :
    Calls Tryz.prog 136 #[v, .int .i64 n] w fun e w' => e = .returned (.tuple #[.int .u64 0, .int .i64 4]) ∧ w = w' := by
  obtain ⟨A, cap, rfl, hle, hm, hA, hc⟩ := hr
  clear hA hc
  unfold maxLen at hm
  go_enter Tryz.func136, Tryz.ntmps136
  go_wp2_with fail
  go_ret2
  exact ⟨rfl, rfl⟩

set_option maxHeartbeats 400000 in
theorem readFixed_good_ref (w : World) (v : Value) (l : List UInt8) (n : Int) (hr : Rd w v l) (h1 : 1 ≤ n) (h2 : n ≤ 8) (h3 : n ≤ l.length) :
    Calls Tryz.prog 160 #[v, .int .i64 n] w fun e w' => e = .returned (.tuple #[.int .u64 (leN (l.take n.toNat)), .int .i64 0]) ∧ w = w' := by
  obtain ⟨N, rfl⟩ : ∃ N : Nat, n = N := ⟨n.toNat, by omega⟩
  rw [Int.toNat_natCast]
  obtain ⟨A, cap, rfl, hle, hm, hA, hc⟩ := hr
  obtain ⟨b, o, rfl, hc2⟩ := hc (by intro h; subst h; simp at h3; omega)
  clear hA hc
  unfold maxLen at hm
  have HC := Lib.hid hc2
  clear hc2
  have d1 : decide ((N : Int) < 1) = false := by simp; omega
  have d2 : decide ((8 : Int) < (N : Int)) = false := by simp; omega
  go_enter Tryz.func160, Tryz.ntmps160
  go_wp2_with fail
  go_loop [6, 7] (fun x i => ∃ k : Nat, k ≤ N ∧ i = .int .i64 k ∧ x = .int .u64 (leN (l.take k))) (fun _ i => N - (intOf i).toNat)
  case atStart => exact ⟨0, Nat.zero_le _, rfl, rfl⟩
  case round =>
    obtain ⟨k, hk, rfl, rfl⟩ := hrel
    by_cases hlt : k < N
    · have hcell := HC.out k (by omega)
      go_wp2_with fail
      go_round
      case rel =>
        refine ⟨k + 1, by omega, by go_num, ?_⟩
        rw [or_byte _ _ _ (leN_take_lt l k) (UInt8.toNat_lt _) (by omega), leN_take_succ l k (by omega)]
      case measure => simp [intOf]; omega
    · obtain rfl : k = N := by omega
      go_wp2_with fail
      go_ret2
      exact ⟨rfl, rfl⟩

set_option maxHeartbeats 400000 in
theorem readFixed_arg_ref (w : World) (v : Value) (n : Int) (h : n < 1 ∨ 8 < n) :
    Calls Tryz.prog 160 #[v, .int .i64 n] w fun e w' => e = .returned (.tuple #[.int .u64 0, .int .i64 2]) ∧ w = w' := by
  rcases h with h | h
  all_goals
    go_enter Tryz.func160, Tryz.ntmps160
    go_wp2_with fail
    go_ret2
    exact ⟨rfl, rfl⟩

set_option maxHeartbeats 400000 in
theorem readFixed_short_ref (w : World) (v : Value) (l : List UInt8) (n : Int) (hr : Rd w v l) (h1 : 1 ≤ n) (h2 : n ≤ 8) (h3 : l.length < n) :
    Calls Tryz.prog 160 #[v, .int .i64 n] w fun e w' => e = .returned (.tuple #[.int .u64 0, .int .i64 4]) ∧ w = w' := by
  obtain ⟨A, cap, rfl, hle, hm, hA, hc⟩ := hr
  clear hA hc
  unfold maxLen at hm
  go_enter Tryz.func160, Tryz.ntmps160
  go_wp2_with fail
  go_ret2
  exact ⟨rfl, rfl⟩

end Go.Proofs.YtbodppfpmpmadaaGreat
