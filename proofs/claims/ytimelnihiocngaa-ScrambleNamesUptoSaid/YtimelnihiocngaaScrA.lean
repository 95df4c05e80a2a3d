/- The program's responses: nonces, a hash of several lists. -/
import Derived.Test.YtimelnihiocngaaScrS
import Derived.Test.YtimelnihiocngaaIdx
import Derived.Test.YtimelnihiocngaaSized
import Derived.Laws.BitsAllLaws
import Derived.Laws.OwnMore
import Derived.Outline
namespace Go.Proofs.Ytimelnihiocngaa
open Go.RowKit

theorem idx_v (w : World) (v : Value) (l : List UInt8) (c : UInt8) (x r : Int) (hr : Rd w v l) (hx : x = (c.toNat : Int)) (h : Lib.indexByte l c = r) :
    Calls Try.prog 74 #[v, .int .u8 x] w fun e w' => e = .returned (.int .i64 r) ∧ w = w' := by
  subst hx; subst h
  have := idx_b w v l (c.toNat : Int) hr
  have e : ((c.toNat : Int)).toNat.toUInt8 = c := by simp
  rw [e] at this
  exact this

set_option maxRecDepth 100000 in
theorem check_c (w : World) (v : Value) (l : List UInt8) (x : Int) (hr : Rd w v l) (hx : checkE l = x) :
    Calls Try.prog 32 #[v] w fun e w' => e = .returned (.int .i64 x) ∧ w = w' := by
  have HR := Lib.hid hr
  obtain ⟨A, cap, rfl, hle, hm, _, _⟩ := id hr
  unfold maxLen at hm
  clear hr
  by_cases h20 : l.length = 20
  · have hb : ((l.length : Int) != 20) = false := by simp [h20]
    by_cases hc0 : l.contains 0 = true
    · have h0 := (idx_has 0 l).1 hc0
      obtain rfl : x = 2 := by rw [← hx]; unfold checkE; rw [if_neg]; simp only [hc0]; simp
      generalize hq : Lib.indexByte l 0 = q at h0
      have HQ := Lib.hid hq
      have hd : decide (0 ≤ q) = true := by simpa using h0
      clear hq hx h20 hc0
      go_enter Try.func32, Try.ntmps32
      go_wp2_with (go_at_call 74; refine (idx_v _ _ l 0 _ q HR.out rfl HQ.out).mono ?_; rintro e w1 ⟨rfl, rfl⟩)
      go_ret
      exact ⟨rfl, rfl⟩
    · have hc0' : l.contains 0 = false := by simpa using hc0
      have h0 := (idx_has 0 l).2 hc0'
      have H0 := Lib.hid h0
      clear h0
      by_cases hc1 : l.contains 36 = true
      · have h1 := (idx_has 36 l).1 hc1
        obtain rfl : x = 2 := by rw [← hx]; unfold checkE; rw [if_neg]; simp only [hc1]; simp
        generalize hq : Lib.indexByte l 36 = q at h1
        have HQ := Lib.hid hq
        have hd : decide (0 ≤ q) = true := by simpa using h1
        clear hq hx h20 hc0 hc0' hc1
        go_enter Try.func32, Try.ntmps32
        go_wp2_with (first
          | (go_at_call 74; (with_reducible show Calls _ _ #[_, Value.int .u8 0] _ _); refine (idx_v _ _ l 0 _ (-1) HR.out rfl H0.out).mono ?_; rintro e w1 ⟨rfl, rfl⟩)
          | (go_at_call 74; refine (idx_v _ _ l 36 _ q HR.out rfl HQ.out).mono ?_; rintro e w1 ⟨rfl, rfl⟩))
        go_ret
        exact ⟨rfl, rfl⟩
      · have hc1' : l.contains 36 = false := by simpa using hc1
        have h1 := (idx_has 36 l).2 hc1'
        have H1 := Lib.hid h1
        obtain rfl : x = 0 := by rw [← hx]; unfold checkE; rw [if_pos ⟨h20, hc0', hc1'⟩]
        clear h1 hx h20 hc0 hc0' hc1 hc1'
        go_enter Try.func32, Try.ntmps32
        go_wp2_with (first
          | (go_at_call 74; (with_reducible show Calls _ _ #[_, Value.int .u8 0] _ _); refine (idx_v _ _ l 0 _ (-1) HR.out rfl H0.out).mono ?_; rintro e w1 ⟨rfl, rfl⟩)
          | (go_at_call 74; refine (idx_v _ _ l 36 _ (-1) HR.out rfl H1.out).mono ?_; rintro e w1 ⟨rfl, rfl⟩))
        go_ret
        exact ⟨rfl, rfl⟩
  · have hb : ((l.length : Int) != 20) = true := by simp; omega
    obtain rfl : x = 2 := by rw [← hx]; unfold checkE; rw [if_neg]; intro h; exact h20 h.1
    clear hx
    go_enter Try.func32, Try.ntmps32
    go_wp2_with fail
    go_ret
    exact ⟨rfl, rfl⟩

/-- A slice that reads as a list, at an index. -/
theorem Rd.at_ {w : World} {A : Option Addr} {n cap : Nat} {l : List UInt8} (h : Rd w (.slice A n cap) l) (hn : 0 < n) : ∃ b o, A = some ⟨b, o, none⟩ ∧ n = l.length ∧ ∀ k, k < n → w.cell? ⟨b, o + k, none⟩ = some (.int .u8 ((l.getD k 0).toNat : Int)) := by
  obtain ⟨A', cap', hv, _, _, _, h4⟩ := h
  injection hv with e1 e2 e3
  subst e1 e2
  obtain ⟨b, o, rfl, hc⟩ := h4 (by intro e; subst e; simp at hn)
  exact ⟨b, o, rfl, rfl, hc⟩

theorem nonceB_lo (c : UInt8) (y : Int) (hy : (c.toNat : Int) % 254 = y) (h : y + 1 < 36) : [UInt8.ofNat (y + 1).toNat] = [nonceB c] := by
  unfold nonceB
  rw [if_pos (by omega)]
  congr 2
  omega
theorem nonceB_hi (c : UInt8) (y : Int) (hy : (c.toNat : Int) % 254 = y) (h : ¬ y + 1 < 36) : [UInt8.ofNat (y + 1 + 1).toNat] = [nonceB c] := by
  unfold nonceB
  rw [if_neg (by omega)]
  congr 2
  omega

set_option maxRecDepth 100000 in
set_option maxHeartbeats 1000000 in
theorem nonce_c (w : World) (v : Value) (l : List UInt8) (hr : Rd w v l) :
    Calls Try.prog 30 #[v] w fun e w' => ∃ v', e = .returned (.tuple #[v', .int .i64 (nonceE l)]) ∧ Own w' w.heap.size v' (nonceP l) ∧ Ext w w' := by
  have HR := Lib.hid hr
  obtain ⟨A, cap, rfl, hle, hm, _, _⟩ := id hr
  unfold maxLen at hm
  clear hr
  obtain ⟨N, hN⟩ : ∃ N, N = l.length := ⟨_, rfl⟩
  rw [← hN] at HR hle ⊢
  by_cases h20 : N = 20
  · subst h20
    have eE : nonceE l = 0 := by unfold nonceE; rw [if_pos hN.symm]
    have eP : nonceP l = l.map nonceB := by unfold nonceP; rw [if_pos hN.symm]
    rw [eE, eP]
    have HN := Lib.hid hN
    clear eE eP hN
    go_enter Try.func30, Try.ntmps30
    go_wp2_with fail
    have OW0 : Own w w.heap.size (.slice none 0 0) ((l.take 0).map nonceB) := Own.nil w _
    go_loopw [4, 6, 12] (fun v _ i W => ∃ k : Nat, k ≤ 20 ∧ i = .int .i64 k ∧ Own W w.heap.size v ((l.take k).map nonceB) ∧ Ext w W) (fun _ _ i _ => 20 - (intOf i).toNat)
    case atStart => exact ⟨0, Nat.zero_le _, rfl, OW0, Ext.refl _⟩
    case round =>
      clear OW0
      obtain ⟨k, hk, rfl, OW, hx⟩ := hrel
      by_cases hkN : k < 20
      · have hb : (k : Int) < 20 := by omega
        obtain ⟨b, o, rfl, hn2, hcs⟩ := (HR.out.ext hx).at_ (by omega)
        have hck := hcs k hkN
        clear hcs hn2
        have ht := nonceP_take l k (by have := HN.out; omega)
        generalize l.getD k 0 = c at hck ht
        obtain ⟨x, hxc⟩ : ∃ x : Int, x = (c.toNat : Int) := ⟨_, rfl⟩
        rw [← hxc] at hck
        have hx0 : 0 ≤ x := by omega
        have hx1 : x < 256 := by have := c.toNat_lt; omega
        obtain ⟨y, hy⟩ : ∃ y : Int, x % 254 = y := ⟨_, rfl⟩
        have hy0 : 0 ≤ y := by omega
        have hy1 : y < 254 := by omega
        have hy2 : x.tmod 254 = y := by rw [Int.tmod_eq_emod_of_nonneg hx0]; exact hy
        have hlen : ((l.take k).map nonceB).length = k := by rw [List.length_map, List.length_take]; have := HN.out; omega
        have HXC := Lib.hid hxc
        have HT := Lib.hid ht
        have HL := Lib.hid hlen
        have HY := Lib.hid hy
        clear hxc ht hlen
        by_cases h36 : y + 1 < 36
        · have hd : decide (36 ≤ y + 1) = false := by simpa using h36
          go_wp2_with ((with_reducible show wpList _ _ _ (⟨some 26, _, _, _, _, _⟩ :: _) _ _); refine wpl_append_one bt (y + 1) OW (by omega) (by omega) rfl _ _ rfl rfl rfl (by rw [HL.out]; omega) (Ext.size hx) ?_; intro v1 w1 ho hb1)
          rw [nonceB_lo c y (by rw [← HXC.out]; exact HY.out) h36, ← HT.out] at ho
          go_roundw
          case rel => exact ⟨k + 1, by omega, by go_num, ho, hx.below hb1 (Nat.le_refl _)⟩
          case measure => simp [intOf]; omega
        · have hd : decide (36 ≤ y + 1) = true := by simp; omega
          go_wp2_with ((with_reducible show wpList _ _ _ (⟨some 26, _, _, _, _, _⟩ :: _) _ _); refine wpl_append_one bt (y + 1 + 1) OW (by omega) (by omega) rfl _ _ rfl rfl rfl (by rw [HL.out]; omega) (Ext.size hx) ?_; intro v1 w1 ho hb1)
          rw [nonceB_hi c y (by rw [← HXC.out]; exact HY.out) h36, ← HT.out] at ho
          go_roundw
          case rel => exact ⟨k + 1, by omega, by go_num, ho, hx.below hb1 (Nat.le_refl _)⟩
          case measure => simp [intOf]; omega
      · obtain rfl : k = 20 := by omega
        simp only [Int.cast_ofNat_Int]
        have e : l.take 20 = l := List.take_of_length_le (by have := HN.out; omega)
        rw [e] at OW
        clear e
        go_wp2_with fail
        go_ret2
        exact ⟨_, rfl, OW, hx⟩
  · have hb : ((N : Int) != 20) = true := by simp; omega
    have eE : nonceE l = 2 := by unfold nonceE; rw [if_neg (by omega)]
    have eP : nonceP l = [] := by unfold nonceP; rw [if_neg (by omega)]
    rw [eE, eP]
    clear eE eP hN
    go_enter Try.func30, Try.ntmps30
    go_wp2_with fail
    go_ret2
    exact ⟨_, rfl, Own.nil _ _, Ext.refl _⟩

section
variable {P : Program} {ops : Array Oper} {rest : List Oper} {o : Oper} {a : Act} {w : World} {Q : Exit → Act → World → Prop}
/-- 'make([]byte, n)'. -/
theorem wpl_zeros (hT : BT P) (n : Nat) (hn : n ≤ 100000000)
    (hgd : o.guard = none) (x c : Operand) (kl kc : IntKind) (ho : o.op = .makeSlice 28 x c) (hx : a.eval x = .int kl (n : Int)) (hc : a.eval c = .int kc (n : Int))
    (h : ∀ v' w', Own w' w.heap.size v' (List.replicate n 0) → Ext w w' → wpList P ops Q rest (a.put o.dst v') w') : wpList P ops Q (o :: rest) a w := by
  obtain ⟨i, hi, hz, hs1, hb1⟩ := hT.info
  obtain ⟨w', hrun, h1, h2⟩ := run_make_full (P := P) w w.heap.size 28 5 i (.int .u8 0) 1 hT.sl hi hz hs1 kl kc n (by rw [hb1]; omega) (by unfold maxLen; omega) (Nat.le_refl _)
  refine wpl_val hgd (v := .slice (some ⟨w.heap.size, 0, none⟩) n n) (w' := w') ?_ (h _ _ ?_ ((Below.refl _ w).grown h2 (Nat.le_refl _) (fun k hk => by cases hk)))
  · unfold execOp
    simp only [ho, hx, hc, Sem.run_bind, Sem.run_pure, Result.andThen_ok, hrun]
  · have e : (madeCells (Value.int .u8 0).cells (n * 1)).toList = bc (List.replicate n 0) := by
      show (madeCells #[Value.int .u8 0] (n * 1)).toList = _
      rw [toList_madeCells_one]
      simp [bc]
    rw [e] at h1
    unfold Own
    rw [List.length_replicate]
    exact h1
end
/-- An owned slice that is not empty: its block's cells may be written. -/
theorem Own.cellsF {w : World} {base : Nat} {v : Value} {l : List UInt8} (h : Own w base v l) (hl : l ≠ []) : ∃ g cap, v = .slice (some ⟨g, 0, none⟩) l.length cap ∧ l.length ≤ cap ∧ cap ≤ maxLen ∧ base ≤ g ∧ BoxF w g (bc l) := by
  have hcells := fun g hg => World.ownsRow.cells h (g := g) hg
  rcases h.2 with ⟨rfl, h0⟩ | ⟨g, cap, cur, rfl, hb, hg, hn, hm, hs, ht⟩
  · exact absurd (List.eq_nil_of_length_eq_zero h0) hl
  · refine ⟨g, cap, rfl, hn, hm, hb, fun j hj => ?_, fun j hj => ?_, ?_⟩
    · rw [bc_length] at hj
      have := hcells g rfl j _ (bc_get l j hj)
      rw [addr0] at this
      rw [this, List.getD_eq_getElem?_getD (l := bc l), bc_get l j hj]
      rfl
    · simp [World.frozen?, hg]
    · rcases Nat.lt_or_ge g w.heap.size with h | h
      · exact h
      · rw [Array.getElem?_eq_none h] at hg; cases hg
theorem BoxF.rd {w : World} {g n cap : Nat} {l : List UInt8} (B : BoxF w g (bc l)) (hn : n = l.length) (h1 : n ≤ cap) (h2 : cap ≤ maxLen) : Rd w (.slice (some ⟨g, 0, none⟩) n cap) l := by
  subst hn
  refine ⟨_, cap, rfl, h1, h2, (fun h => by cases h), fun _ => ⟨g, 0, rfl, fun j hj => ?_⟩⟩
  rw [Nat.zero_add]
  exact B.at (bc_get l j hj)

/-- The first k bytes are joined, the others are noughts still. -/
def xorK (a b : List UInt8) (k : Nat) : List UInt8 := xorL (a.take k) (b.take k) ++ List.replicate (a.length - k) 0
theorem xorK_length (a b : List UInt8) (k : Nat) (h : a.length ≤ b.length) (hk : k ≤ a.length) : (xorK a b k).length = a.length := by
  unfold xorK; rw [List.length_append, xorL_length, List.length_take, List.length_take, List.length_replicate]; omega
theorem xorK_set (a b : List UInt8) (k : Nat) (h : a.length ≤ b.length) (hk : k < a.length) : (xorK a b k).set k (a.getD k 0 ^^^ b.getD k 0) = xorK a b (k + 1) := by
  have hl : (xorL (a.take k) (b.take k)).length = k := by rw [xorL_length, List.length_take, List.length_take]; omega
  unfold xorK
  rw [xorL_take a b k hk (by omega), List.set_append_right _ _ (by omega), hl, Nat.sub_self]
  obtain ⟨q, hq⟩ : ∃ q, a.length - k = q + 1 := ⟨a.length - k - 1, by omega⟩
  rw [hq, List.replicate_succ, List.set_cons_zero, show a.length - (k + 1) = q by omega, List.append_assoc]
  rfl
theorem xorK_all (a b : List UInt8) (h : a.length ≤ b.length) : xorK a b a.length = xorL a b := by
  unfold xorK
  rw [Nat.sub_self, List.replicate_zero, List.append_nil, List.take_length]
  unfold xorL
  induction a generalizing b with
  | nil => rfl
  | cons x a ih =>
    cases b with
    | nil => simp at h
    | cons y b => simp only [List.length_cons, List.take_succ_cons, List.zipWith_cons_cons]; rw [ih b (by simpa using h)]

theorem bc_set (l : List UInt8) (k : Nat) (c : UInt8) (x : Int) (hx : x = (c.toNat : Int)) : (bc l).set k (.int .u8 x) = bc (l.set k c) := by
  subst hx
  simp [bc, List.map_set]

set_option maxRecDepth 100000 in
set_option maxHeartbeats 1000000 in
theorem xor_c (w : World) (va vb : Value) (a b : List UInt8) (ha : Rd w va a) (hb : Rd w vb b) (h0 : 0 < a.length) (hab : a.length ≤ b.length) (h1 : a.length ≤ 1000) :
    Calls Try.prog 72 #[va, vb] w fun e w' => ∃ v', e = .returned v' ∧ Rd w' v' (xorL a b) ∧ Ext w w' := by
  have HA := Lib.hid ha
  have HB := Lib.hid hb
  obtain ⟨A, ca, rfl, hle, hm, _, _⟩ := id ha
  obtain ⟨B, cb, rfl, hle2, hm2, _, _⟩ := id hb
  unfold maxLen at hm hm2
  clear ha hb
  obtain ⟨N, hN⟩ : ∃ N, N = a.length := ⟨_, rfl⟩
  obtain ⟨M, hM⟩ : ∃ M, M = b.length := ⟨_, rfl⟩
  have hal := xorK_all a b hab
  rw [← hN] at HA hle h0 hab h1 hal ⊢
  rw [← hM] at HB hle2 hab ⊢
  have HN := Lib.hid hN
  have HM := Lib.hid hM
  have HAL := Lib.hid hal
  clear hN hM hal
  go_enter Try.func72, Try.ntmps72
  go_wp2_with ((with_reducible show wpList _ _ _ (⟨some 9, _, _, _, _, _⟩ :: _) _ _); refine wpl_zeros bt N (by omega) rfl _ _ _ _ rfl rfl rfl ?_; intro v1 w1 ho1 hx1; have hcf := ho1.cellsF (by intro e; have := congrArg List.length e; simp at this; omega); rw [List.length_replicate] at hcf; obtain ⟨g, cg, hv1, hg1, hg2, hg3, B1⟩ := hcf; subst hv1)
  have e0 : xorK a b 0 = List.replicate N 0 := by unfold xorK; rw [List.take_zero, List.take_zero, Nat.sub_zero, ← HN.out]; rfl
  rw [← e0] at B1
  clear e0 ho1
  unfold maxLen at hg2
  have hgl := B1.lt
  have HG3 := Lib.hid hg3
  have HGL := Lib.hid hgl
  clear hg3 hgl
  go_loopw [6, 12] (fun _ i W => ∃ k : Nat, k ≤ N ∧ i = .int .i64 k ∧ BoxF W g (bc (xorK a b k)) ∧ Ext w W) (fun _ i _ => N - (intOf i).toNat)
  case atStart => exact ⟨0, Nat.zero_le _, rfl, B1, hx1⟩
  case round =>
    clear B1 hx1
    obtain ⟨k, hk, rfl, BK, hx⟩ := hrel
    by_cases hkN : k < N
    · have hbk : (k : Int) < (N : Int) := by omega
      have hbm : (k : Int) < (M : Int) := by omega
      obtain ⟨ba, oa, rfl, _, hca⟩ := (HA.out.ext hx).at_ h0
      obtain ⟨bb, ob, rfl, _, hcb⟩ := (HB.out.ext hx).at_ (by omega)
      have pa := hca k hkN
      have pb := hcb k (by omega)
      have hlk : (bc (xorK a b k)).length = N := by rw [bc_length, xorK_length a b k (by have := HN.out; have := HM.out; omega) (by have := HN.out; omega)]; exact HN.out.symm
      have f := BK.free k (by rw [hlk]; exact hkN)
      have hset := xorK_set a b k (by have := HN.out; have := HM.out; omega) (by have := HN.out; omega)
      have hq := u8_xor_nat (a.getD k 0).toNat (b.getD k 0).toNat (a.getD k 0).toNat_lt (b.getD k 0).toNat_lt
      rw [← UInt8.toNat_xor] at hq
      obtain ⟨og, hog⟩ : ∃ og, wr.cell? ⟨g, k, none⟩ = some og := ⟨_, BK.box k (by rw [hlk]; exact hkN)⟩
      generalize a.getD k 0 = ya at pa hset hq
      generalize b.getD k 0 = yb at pb hset hq
      have HSET := Lib.hid hset
      have HBK := Lib.hid BK
      have HQ := Lib.hid hq
      clear hca hcb hlk hset BK hq
      go_wp2_with fail
      go_region
      all_goals
        go_wp2_with fail
        have B5 := (HBK.out.set k (.int .u8 (bits .xor .u8 (ya.toNat : Int) (yb.toNat : Int)))).ext (Ext.refl _).drew
        rw [bc_set _ _ (ya ^^^ yb) _ HQ.out, HSET.out] at B5
        go_roundw
        case rel => exact ⟨k + 1, by omega, by go_num, B5, (hx.setCell HG3.out _).drew⟩
        case measure => simp [intOf]; omega
    · obtain rfl : k = N := by omega
      rw [HAL.out] at BK
      go_wp2_with fail
      go_ret
      exact ⟨_, rfl, BK.rd (by have h1 := HN.out; have h2 := HM.out; rw [xorL_length]; omega) hg1 (by unfold maxLen; exact hg2), hx⟩
end Go.Proofs.Ytimelnihiocngaa
