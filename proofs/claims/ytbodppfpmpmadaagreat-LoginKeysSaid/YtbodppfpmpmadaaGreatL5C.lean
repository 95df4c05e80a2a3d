import Derived.Test.YtbodppfpmpmadaaGreatL4C
import Derived.Test.YtbodppfpmpmadaaGreatL2C
import Derived.Test.YtbodppfpmpmadaaGreatL3C
import Derived.Laws.BitsAllLaws
import Derived.Laws.OwnMore
import Derived.Outline
namespace Go.Proofs.YtbodppfpmpmadaaGreat
open Go.RowKit

theorem idx_v (w : World) (v : Value) (l : List UInt8) (c : UInt8) (x r : Int) (hr : Rd w v l) (hx : x = (c.toNat : Int)) (h : Lib.indexByte l c = r) :
    Calls Tryz.prog 78 #[v, .int .u8 x] w fun e w' => e = .returned (.int .i64 r) ∧ w = w' := by
  subst hx; subst h
  have := idx_b w v l (c.toNat : Int) hr
  have e : ((c.toNat : Int)).toNat.toUInt8 = c := by simp
  rw [e] at this
  exact this

set_option maxRecDepth 100000 in
theorem check_c (w : World) (v : Value) (l : List UInt8) (x : Int) (hr : Rd w v l) (hx : checkE l = x) :
    Calls Tryz.prog 39 #[v] w fun e w' => e = .returned (.int .i64 x) ∧ w = w' := by
  have HR := Lib.hid hr
  obtain ⟨A, cap, rfl, hle, hm, _, _⟩ := id hr
  unfold maxLen at hm
  clear hr
  by_cases h20 : l.length = 20
  · have hb : ((l.length : Int) != 20) = false := by simp [h20]
    by_cases hc0 : l.contains 0 = true
    · have h0 := (idx_has 0 l).1 hc0
      obtain rfl : x = 2 := by rw [← hx]; unfold checkE; rw [if_neg]; simp only [hc0]; simp
      generalize hq : Lib.indexByte l 0 = q at h0
      have HQ := Lib.hid hq
      have hd : decide (0 ≤ q) = true := by simpa using h0
      clear hq hx h20 hc0
      go_enter Tryz.func39, Tryz.ntmps39
      go_wp2_with (go_at_call 78; refine (idx_v _ _ l 0 _ q HR.out rfl HQ.out).mono ?_; rintro e w1 ⟨rfl, rfl⟩)
      go_ret
      exact ⟨rfl, rfl⟩
    · have hc0' : l.contains 0 = false := by simpa using hc0
      have h0 := (idx_has 0 l).2 hc0'
      have H0 := Lib.hid h0
      clear h0
      by_cases hc1 : l.contains 36 = true
      · have h1 := (idx_has 36 l).1 hc1
        obtain rfl : x = 2 := by rw [← hx]; unfold checkE; rw [if_neg]; simp only [hc1]; simp
        generalize hq : Lib.indexByte l 36 = q at h1
        have HQ := Lib.hid hq
        have hd : decide (0 ≤ q) = true := by simpa using h1
        clear hq hx h20 hc0 hc0' hc1
        go_enter Tryz.func39, Tryz.ntmps39
        go_wp2_with (first
          | (go_at_call 78; (with_reducible show Calls _ _ #[_, Value.int .u8 0] _ _); refine (idx_v _ _ l 0 _ (-1) HR.out rfl H0.out).mono ?_; rintro e w1 ⟨rfl, rfl⟩)
          | (go_at_call 78; refine (idx_v _ _ l 36 _ q HR.out rfl HQ.out).mono ?_; rintro e w1 ⟨rfl, rfl⟩))
        go_ret
        exact ⟨rfl, rfl⟩
      · have hc1' : l.contains 36 = false := by simpa using hc1
        have h1 := (idx_has 36 l).2 hc1'
        have H1 := Lib.hid h1
        obtain rfl : x = 0 := by rw [← hx]; unfold checkE; rw [if_pos ⟨h20, hc0', hc1'⟩]
        clear h1 hx h20 hc0 hc0' hc1 hc1'
        go_enter Tryz.func39, Tryz.ntmps39
        go_wp2_with (first
          | (go_at_call 78; (with_reducible show Calls _ _ #[_, Value.int .u8 0] _ _); refine (idx_v _ _ l 0 _ (-1) HR.out rfl H0.out).mono ?_; rintro e w1 ⟨rfl, rfl⟩)
          | (go_at_call 78; refine (idx_v _ _ l 36 _ (-1) HR.out rfl H1.out).mono ?_; rintro e w1 ⟨rfl, rfl⟩))
        go_ret
        exact ⟨rfl, rfl⟩
  · have hb : ((l.length : Int) != 20) = true := by simp; omega
    obtain rfl : x = 2 := by rw [← hx]; unfold checkE; rw [if_neg]; intro h; exact h20 h.1
    clear hx
    go_enter Tryz.func39, Tryz.ntmps39
    go_wp2_with fail
    go_ret
    exact ⟨rfl, rfl⟩

theorem Rd.at_ {w : World} {A : Option Addr} {n cap : Nat} {l : List UInt8} (h : Rd w (.slice A n cap) l) (hn : 0 < n) : ∃ b o, A = some ⟨b, o, none⟩ ∧ n = l.length ∧ ∀ k, k < n → w.cell? ⟨b, o + k, none⟩ = some (.int .u8 ((l.getD k 0).toNat : Int)) := by
  obtain ⟨A', cap', hv, _, _, _, h4⟩ := h
  injection hv with e1 e2 e3
  subst e1 e2
  obtain ⟨b, o, rfl, hc⟩ := h4 (by intro e; subst e; simp at hn)
  exact ⟨b, o, rfl, rfl, hc⟩

section
variable {P : Program} {ops : Array Oper} {rest : List Oper} {o : Oper} {a : Act} {w : World} {Q : Exit → Act → World → Prop}
theorem wpl_zeros (hT : BT P) (n : Nat) (hn : n ≤ 100000000)
    (hgd : o.guard = none) (x c : Operand) (kl kc : IntKind) (ho : o.op = .makeSlice 22 x c) (hx : a.eval x = .int kl (n : Int)) (hc : a.eval c = .int kc (n : Int))
    (h : ∀ v' w', Own w' w.heap.size v' (List.replicate n 0) → Ext w w' → wpList P ops Q rest (a.put o.dst v') w') : wpList P ops Q (o :: rest) a w := by
  obtain ⟨i, hi, hz, hs1, hb1⟩ := hT.info
  obtain ⟨w', hrun, h1, h2⟩ := run_make_full (P := P) w w.heap.size 22 5 i (.int .u8 0) 1 hT.sl hi hz hs1 kl kc n (by rw [hb1]; omega) (by unfold maxLen; omega) (Nat.le_refl _)
  refine wpl_val hgd (v := .slice (some ⟨w.heap.size, 0, none⟩) n n) (w' := w') ?_ (h _ _ ?_ ((Below.refl _ w).grown h2 (Nat.le_refl _) (fun k hk => by cases hk)))
  · unfold execOp
    simp only [ho, hx, hc, Sem.run_bind, Sem.run_pure, Result.andThen_ok, hrun]
  · have e : (madeCells (Value.int .u8 0).cells (n * 1)).toList = bc (List.replicate n 0) := by
      show (madeCells #[Value.int .u8 0] (n * 1)).toList = _
      rw [toList_madeCells_one]
      simp [bc]
    rw [e] at h1
    unfold Own
    rw [List.length_replicate]
    exact h1
end
theorem Own.cellsF {w : World} {base : Nat} {v : Value} {l : List UInt8} (h : Own w base v l) (hl : l ≠ []) : ∃ g cap, v = .slice (some ⟨g, 0, none⟩) l.length cap ∧ l.length ≤ cap ∧ cap ≤ maxLen ∧ base ≤ g ∧ BoxF w g (bc l) := by
  have hcells := fun g hg => World.ownsRow.cells h (g := g) hg
  rcases h.2 with ⟨rfl, h0⟩ | ⟨g, cap, cur, rfl, hb, hg, hn, hm, hs, ht⟩
  · exact absurd (List.eq_nil_of_length_eq_zero h0) hl
  · refine ⟨g, cap, rfl, hn, hm, hb, fun j hj => ?_, fun j hj => ?_, ?_⟩
    · rw [bc_length] at hj
      have := hcells g rfl j _ (bc_get l j hj)
      rw [addr0] at this
      rw [this, List.getD_eq_getElem?_getD (l := bc l), bc_get l j hj]
      rfl
    · simp [World.frozen?, hg]
    · rcases Nat.lt_or_ge g w.heap.size with h | h
      · exact h
      · rw [Array.getElem?_eq_none h] at hg; cases hg
theorem BoxF.rd {w : World} {g n cap : Nat} {l : List UInt8} (B : BoxF w g (bc l)) (hn : n = l.length) (h1 : n ≤ cap) (h2 : cap ≤ maxLen) : Rd w (.slice (some ⟨g, 0, none⟩) n cap) l := by
  subst hn
  refine ⟨_, cap, rfl, h1, h2, (fun h => by cases h), fun _ => ⟨g, 0, rfl, fun j hj => ?_⟩⟩
  rw [Nat.zero_add]
  exact B.at (bc_get l j hj)

def xorK (a b : List UInt8) (k : Nat) : List UInt8 := xorL (a.take k) (b.take k) ++ List.replicate (a.length - k) 0
theorem xorK_length (a b : List UInt8) (k : Nat) (h : a.length ≤ b.length) (hk : k ≤ a.length) : (xorK a b k).length = a.length := by
  unfold xorK; rw [List.length_append, xorL_length, List.length_take, List.length_take, List.length_replicate]; omega
theorem xorK_set (a b : List UInt8) (k : Nat) (h : a.length ≤ b.length) (hk : k < a.length) : (xorK a b k).set k (a.getD k 0 ^^^ b.getD k 0) = xorK a b (k + 1) := by
  have hl : (xorL (a.take k) (b.take k)).length = k := by rw [xorL_length, List.length_take, List.length_take]; omega
  unfold xorK
  rw [xorL_take a b k hk (by omega), List.set_append_right _ _ (by omega), hl, Nat.sub_self]
  obtain ⟨q, hq⟩ : ∃ q, a.length - k = q + 1 := ⟨a.length - k - 1, by omega⟩
  rw [hq, List.replicate_succ, List.set_cons_zero, show a.length - (k + 1) = q by omega, List.append_assoc]
  rfl
theorem xorK_all (a b : List UInt8) (h : a.length ≤ b.length) : xorK a b a.length = xorL a b := by
  unfold xorK
  rw [Nat.sub_self, List.replicate_zero, List.append_nil, List.take_length]
  unfold xorL
  induction a generalizing b with
  | nil => rfl
  | cons x a ih =>
    cases b with
    | nil => simp at h
    | cons y b => simp only [List.length_cons, List.take_succ_cons, List.zipWith_cons_cons]; rw [ih b (by simpa using h)]

theorem bc_set (l : List UInt8) (k : Nat) (c : UInt8) (x : Int) (hx : x = (c.toNat : Int)) : (bc l).set k (.int .u8 x) = bc (l.set k c) := by
  subst hx
  simp [bc, List.map_set]

set_option maxRecDepth 100000 in
set_option maxHeartbeats 1000000 in
theorem xor_c (w : World) (va vb : Value) (a b : List UInt8) (ha : Rd w va a) (hb : Rd w vb b) (h0 : 0 < a.length) (hab : a.length ≤ b.length) (h1 : a.length ≤ 1000) :
    Calls Tryz.prog 145 #[va, vb] w fun e w' => ∃ v', e = .returned v' ∧ Rd w' v' (xorL a b) ∧ Ext w w' := by
  have HA := Lib.hid ha
  have HB := Lib.hid hb
  obtain ⟨A, ca, rfl, hle, hm, _, _⟩ := id ha
  obtain ⟨B, cb, rfl, hle2, hm2, _, _⟩ := id hb
  unfold maxLen at hm hm2
  clear ha hb
  obtain ⟨N, hN⟩ : ∃ N, N = a.length := ⟨_, rfl⟩
  obtain ⟨M, hM⟩ : ∃ M, M = b.length := ⟨_, rfl⟩
  have hal := xorK_all a b hab
  rw [← hN] at HA hle h0 hab h1 hal ⊢
  rw [← hM] at HB hle2 hab ⊢
  have HN := Lib.hid hN
  have HM := Lib.hid hM
  have HAL := Lib.hid hal
  clear hN hM hal
  go_enter Tryz.func145, Tryz.ntmps145
  go_wp2_with ((with_reducible show AtS 9); refine wpl_zeros bt N (by omega) rfl _ _ _ _ rfl rfl rfl ?_; intro v1 w1 ho1 hx1; have hcf := ho1.cellsF (by intro e; have := congrArg List.length e; simp at this; omega); rw [List.length_replicate] at hcf; obtain ⟨g, cg, hv1, hg1, hg2, hg3, B1⟩ := hcf; subst hv1)
  have e0 : xorK a b 0 = List.replicate N 0 := by unfold xorK; rw [List.take_zero, List.take_zero, Nat.sub_zero, ← HN.out]; rfl
  rw [← e0] at B1
  clear e0 ho1
  unfold maxLen at hg2
  have hgl := B1.lt
  have HG3 := Lib.hid hg3
  have HGL := Lib.hid hgl
  clear hg3 hgl
  go_loopw [6, 12] (fun _ i W => ∃ k : Nat, k ≤ N ∧ i = .int .i64 k ∧ BoxF W g (bc (xorK a b k)) ∧ Ext w W) (fun _ i _ => N - (intOf i).toNat)
  case atStart => exact ⟨0, Nat.zero_le _, rfl, B1, hx1⟩
  case round =>
    clear B1 hx1
    obtain ⟨k, hk, rfl, BK, hx⟩ := hrel
    by_cases hkN : k < N
    · have hbk : (k : Int) < (N : Int) := by omega
      have hbm : (k : Int) < (M : Int) := by omega
      obtain ⟨ba, oa, rfl, _, hca⟩ := (HA.out.ext hx).at_ h0
      obtain ⟨bb, ob, rfl, _, hcb⟩ := (HB.out.ext hx).at_ (by omega)
      have pa := hca k hkN
      have pb := hcb k (by omega)
      have hlk : (bc (xorK a b k)).length = N := by rw [bc_length, xorK_length a b k (by have := HN.out; have := HM.out; omega) (by have := HN.out; omega)]; exact HN.out.symm
      have f := BK.free k (by rw [hlk]; exact hkN)
      have hset := xorK_set a b k (by have := HN.out; have := HM.out; omega) (by have := HN.out; omega)
      have hq := u8_xor_nat (a.getD k 0).toNat (b.getD k 0).toNat (a.getD k 0).toNat_lt (b.getD k 0).toNat_lt
      rw [← UInt8.toNat_xor] at hq
      obtain ⟨og, hog⟩ : ∃ og, wr.cell? ⟨g, k, none⟩ = some og := ⟨_, BK.box k (by rw [hlk]; exact hkN)⟩
      generalize a.getD k 0 = ya at pa hset hq
      generalize b.getD k 0 = yb at pb hset hq
      have HSET := Lib.hid hset
      have HBK := Lib.hid BK
      have HQ := Lib.hid hq
      clear hca hcb hlk hset BK hq
      go_wp2_with fail
      go_region
      all_goals
        go_wp2_with fail
        have B5 := (HBK.out.set k (.int .u8 (bits .xor .u8 (ya.toNat : Int) (yb.toNat : Int)))).ext (Ext.refl _).drew
        rw [bc_set _ _ (ya ^^^ yb) _ HQ.out, HSET.out] at B5
        go_roundw
        case rel => exact ⟨k + 1, by omega, by go_num, B5, (hx.setCell HG3.out _).drew⟩
        case measure => simp [intOf]; omega
    · obtain rfl : k = N := by omega
      rw [HAL.out] at BK
      go_wp2_with fail
      go_ret
      exact ⟨_, rfl, BK.rd (by have h1 := HN.out; have h2 := HM.out; rw [xorL_length]; omega) hg1 (by unfold maxLen; exact hg2), hx⟩
end Go.Proofs.YtbodppfpmpmadaaGreat

namespace Go.Proofs.YtbodppfpmpmadaaGreat
open Go.RowKit

theorem Lists.at_ {w : World} {A : Option Addr} {n cap : Nat} {ls : List (List UInt8)} (h : Lists w (.slice A n cap) ls) (hn : 0 < n) : ∃ b o, A = some ⟨b, o, none⟩ ∧ n = ls.length ∧ ∀ j, j < n → ∃ u, w.cell? ⟨b, o + j, none⟩ = some u ∧ Rd w u (ls.getD j []) := by
  obtain ⟨A', cap', hv, _, _, h4⟩ := h
  injection hv with e1 e2 e3
  subst e1 e2
  obtain ⟨b, o, rfl, hc⟩ := h4 (by intro e; subst e; simp at hn)
  exact ⟨b, o, rfl, rfl, hc⟩
theorem lists1 (w : World) (v : Value) (l : List UInt8) (hr : Rd w v l) (t : TypeId) (g : Nat) (hg : g = w.heap.size) : Lists (w.alloc (.cells #[v] t)) (.slice (some ⟨g, 0, none⟩) 1 1) [l] := by
  subst hg
  refine ⟨_, 1, rfl, Nat.le_refl _, by unfold maxLen; omega, fun _ => ⟨_, 0, rfl, fun j hj => ?_⟩⟩
  obtain rfl : j = 0 := by simp at hj; exact hj
  exact ⟨v, (Box.new w [v] t) 0 (by simp), hr.ext ((Ext.refl w).alloc _)⟩
theorem lists2 (w : World) (v u : Value) (l m : List UInt8) (hr : Rd w v l) (hs : Rd w u m) (t : TypeId) (g : Nat) (hg : g = w.heap.size) : Lists (w.alloc (.cells #[v, u] t)) (.slice (some ⟨g, 0, none⟩) 2 2) [l, m] := by
  subst hg
  refine ⟨_, 2, rfl, Nat.le_refl _, by unfold maxLen; omega, fun _ => ⟨_, 0, rfl, fun j hj => ?_⟩⟩
  have h2 : j = 0 ∨ j = 1 := by simp at hj; omega
  rcases h2 with rfl | rfl
  · exact ⟨v, (Box.new w [v, u] t) 0 (by simp), hr.ext ((Ext.refl w).alloc _)⟩
  · exact ⟨u, (Box.new w [v, u] t) 1 (by simp), hs.ext ((Ext.refl w).alloc _)⟩
theorem flat_take (ls : List (List UInt8)) (k : Nat) (h : k < ls.length) : (ls.take (k + 1)).flatten = (ls.take k).flatten ++ ls.getD k [] := by
  rw [List.take_add_one, List.getElem?_eq_getElem h, List.getD_eq_getElem?_getD, List.getElem?_eq_getElem h, List.flatten_append]
  simp
theorem flat_le (ls : List (List UInt8)) (k : Nat) : (ls.take k).flatten.length ≤ ls.flatten.length := by
  conv => rhs; rw [← List.take_append_drop k ls, List.flatten_append, List.length_append]
  omega

set_option maxRecDepth 100000 in
set_option maxHeartbeats 1000000 in
theorem hash_c (w : World) (kind : Int) (v : Value) (ls : List (List UInt8)) (hk : kind = 1 ∨ kind = 2) (hls : Lists w v ls) (ht : ls.flatten.length ≤ 1000000) :
    Calls Tryz.prog 146 #[.int .i64 kind, v] w fun e w' => ∃ v', e = .returned v' ∧ Own w' w.heap.size v' (sumP kind ls.flatten) ∧ Ext w w' := by
  have HL := Lib.hid hls
  have HK := Lib.hid hk
  obtain ⟨A, cap, rfl, hle, hm, hz⟩ := hls
  clear hz hk
  unfold maxLen at hm
  obtain ⟨N, hN⟩ : ∃ N, N = ls.length := ⟨_, rfl⟩
  rw [← hN] at HL hle ⊢
  have HN := Lib.hid hN
  have HT := Lib.hid ht
  clear hN ht
  go_enter Tryz.func146, Tryz.ntmps146
  go_wp2_with (go_at_call 180; refine (new_c _ _ HK.out).mono ?_; rintro e w1 ⟨g, rfl, hg, hx1, B1⟩)
  have HG := Lib.hid hg
  clear hg
  go_loopw [8, 16] (fun _ i W => ∃ k : Nat, k ≤ N ∧ i = .int .i64 k ∧ BoxF W g (hashS kind (feedH kind (initH kind) (ls.take k).flatten) ((ls.take k).flatten.length : Int)) ∧ Ext w W) (fun _ i _ => N - (intOf i).toNat)
  case atStart => exact ⟨0, Nat.zero_le _, rfl, B1, hx1⟩
  case round =>
    clear B1 hx1
    obtain ⟨k, hk, rfl, BK, hx⟩ := hrel
    have HBK := Lib.hid BK
    have HX := Lib.hid hx
    clear BK
    by_cases hkN : k < N
    · have hb : (k : Int) < (N : Int) := by omega
      obtain ⟨b, o, hA, hn1, hcs⟩ := (HL.out.ext hx).at_ (by omega)
      obtain ⟨b', o', hA', hn2, hcs0⟩ := HL.out.at_ (by omega)
      clear hn1 hn2
      obtain ⟨u, hu, hru⟩ := hcs0 k hkN
      subst hA
      cases hA'
      have hcu := hx.cell hu
      have hf := flat_take ls k (by have := HN.out; omega)
      have hfl := flat_le ls (k + 1)
      have hfl2 : (ls.take (k + 1)).flatten.length = (ls.take k).flatten.length + (ls.getD k []).length := by rw [hf, List.length_append]
      generalize ls.getD k [] = L at hru hf hfl2
      obtain ⟨Au, cu, rfl, hleu, hmu, hzu⟩ := id hru
      have HRU := Lib.hid hru
      have HF := Lib.hid hf
      have HFL := Lib.hid hfl
      have HFL2 := Lib.hid hfl2
      clear hzu hu hcs hcs0 hru hf hfl hfl2 hx
      go_wp2_with (go_at_call 181; refine (write_c _ g kind _ _ _ L HBK.out (goodH_feed kind _ (goodH_init kind)) (by rcases HK.out with h | h <;> omega) (HRU.out.ext HX.out) (HRU.out.far HG.out) (by have h1 := HFL.out; have h2 := HFL2.out; have h3 := HT.out; omega)).mono ?_; rintro e w2 ⟨rfl, O2, B2⟩)
      rw [← feedH_append, ← HF.out, ← HFL2.out] at B2
      go_roundw
      case rel => exact ⟨k + 1, by omega, by go_num, B2, HX.out.on O2 HG.out⟩
      case measure => simp [intOf]; omega
    · obtain rfl : k = N := by omega
      have e : ls.take k = ls := List.take_of_length_le (by have := HN.out; omega)
      rw [e] at HBK
      clear e
      go_wp2_with (go_at_call 182; refine (sum_c _ g kind _ _ HBK.out (goodH_feed kind _ (goodH_init kind)) (by rcases HK.out with h | h <;> omega) (by have h3 := HT.out; omega)).mono ?_; rintro e w3 ⟨v3, rfl, OW3, hx3⟩)
      go_ret
      exact ⟨_, rfl, OW3.more (Ext.size hx), hx.trans hx3⟩

theorem Own.shape {base : Nat} {w : World} {v : Value} {l : List UInt8} (h : Own w base v l) : ∃ A m c, v = .slice A m c := by obtain ⟨A, c, rfl, _⟩ := h.rd; exact ⟨_, _, _, rfl⟩
theorem Rd.shape {w : World} {v : Value} {l : List UInt8} (h : Rd w v l) : ∃ A m c, v = .slice A m c := by obtain ⟨A, c, rfl, _⟩ := h; exact ⟨_, _, _, rfl⟩
theorem hash_d (w : World) (kind : Int) (v : Value) (ls : List (List UInt8)) (hk : kind = 1 ∨ kind = 2) (hls : Lists w v ls) (ht : ls.flatten.length ≤ 1000000) :
    Calls Tryz.prog 146 #[.int .i64 kind, v] w fun e w' => ∃ A m c, e = .returned (.slice A m c) ∧ Own w' w.heap.size (.slice A m c) (sumP kind ls.flatten) ∧ Ext w w' := by
  refine (hash_c w kind v ls hk hls ht).mono ?_
  rintro e w' ⟨v', rfl, h2, h3⟩
  obtain ⟨A, m, c, rfl⟩ := h2.shape
  exact ⟨A, m, c, rfl, h2, h3⟩
set_option maxRecDepth 100000 in
theorem mask_c (w : World) (kind : Int) (vn vs : Value) (n s : List UInt8) (hk : kind = 1 ∨ kind = 2) (hn : Rd w vn n) (hs : Rd w vs s) (h1 : n.length ≤ 10000) (h2 : s.length ≤ 10000) :
    Calls Tryz.prog 147 #[.int .i64 kind, vn, vs] w fun e w' => ∃ v', e = .returned v' ∧ Own w' w.heap.size v' (mixP kind n s) ∧ Ext w w' := by
  have HNN := Lib.hid hn
  have HS := Lib.hid hs
  obtain ⟨An, mn, cn, rfl⟩ := hn.shape
  obtain ⟨As, ms, cs, rfl⟩ := hs.shape
  clear hn hs
  rcases hk with rfl | rfl
  · rw [show mixP 1 n s = sumP 1 (n ++ s) by unfold mixP; rw [if_pos rfl]]
    go_enter Tryz.func147, Tryz.ntmps147
    go_wp2_with (go_at_call 146; refine (hash_c _ 1 _ [n, s] (.inl rfl) (lists2 w _ _ n s HNN.out HS.out _ _ rfl) (by rw [List.flatten_cons, List.flatten_cons, List.flatten_nil, List.append_nil, List.length_append]; omega)).mono ?_; rintro e w2 ⟨v2, rfl, ho2, hx2⟩)
    go_ret
    rw [show [n, s].flatten = n ++ s by simp] at ho2
    exact ⟨_, rfl, ho2.more (by simp), ((Ext.refl w).alloc _).trans hx2⟩
  · rw [show mixP 2 n s = sumP 2 (s ++ n) by unfold mixP; rw [if_neg (by decide)]]
    go_enter Tryz.func147, Tryz.ntmps147
    go_wp2_with (go_at_call 146; refine (hash_c _ 2 _ [s, n] (.inr rfl) (lists2 w _ _ s n HS.out HNN.out _ _ rfl) (by rw [List.flatten_cons, List.flatten_cons, List.flatten_nil, List.append_nil, List.length_append]; omega)).mono ?_; rintro e w2 ⟨v2, rfl, ho2, hx2⟩)
    go_ret
    rw [show [s, n].flatten = s ++ n by simp] at ho2
    exact ⟨_, rfl, ho2.more (by simp), ((Ext.refl w).alloc _).trans hx2⟩

theorem size_c (w : World) (kind x : Int) (hx : (sizeK kind : Int) = x) :
    Calls Tryz.prog 179 #[.int .i64 kind] w fun e w' => e = .returned (.int .i64 x) ∧ w = w' := by
  by_cases h1 : kind = 1
  · subst h1
    obtain rfl : x = 20 := by rw [← hx]; rfl
    clear hx
    go_enter Tryz.func179, Tryz.ntmps179
    go_wp2_with fail
    go_ret
    exact ⟨rfl, rfl⟩
  · by_cases h2 : kind = 2
    · subst h2
      obtain rfl : x = 32 := by rw [← hx]; rfl
      clear hx
      go_enter Tryz.func179, Tryz.ntmps179
      go_wp2_with fail
      go_ret
      exact ⟨rfl, rfl⟩
    · obtain rfl : x = 0 := by rw [← hx]; simp [sizeK, h1, h2]
      have e1 : (kind == 1) = false := by simpa using h1
      have e2 : (kind == 2) = false := by simpa using h2
      clear hx
      go_enter Tryz.func179, Tryz.ntmps179
      go_wp2_with fail
      go_ret
      exact ⟨rfl, rfl⟩

theorem equal_c (w : World) (a b : Value) (l m : List UInt8) (ha : Rd w a l) (hb : Rd w b m) (r : Bool) (hr : (l == m) = r) :
    Calls Tryz.prog 184 #[a, b] w fun e w' => e = .returned (.bool r) ∧ w = w' := by
  have HA := Lib.hid ha
  have HB := Lib.hid hb
  have HR := Lib.hid hr
  clear ha hb hr
  go_enter Tryz.func184, Tryz.ntmps184
  go_wp2_with (first | ((with_reducible show AtS 6); refine wpl_str bt HA.out rfl _ rfl rfl ?_) | ((with_reducible show AtS 8); refine wpl_str bt HB.out rfl _ rfl rfl ?_))
  go_ret
  refine ⟨?_, rfl⟩
  rw [← HR.out]
  show Ending.returned (Value.bool ((strL l).toList == (strL m).toList)) = _
  rw [strL_tl, strL_tl]

theorem str_empty {s : ByteArray} (h : s.data.toList = []) : s = ByteArray.empty := by
  apply ByteArray.ext
  exact Array.toList_eq_nil_iff.1 h
theorem str_ne {s : ByteArray} (h : s.data.toList ≠ []) : s.toList.isEmpty = false := by
  rw [ByteArray.toList_eq]
  simpa using h

set_option maxRecDepth 100000 in
set_option maxHeartbeats 1000000 in
theorem stored_c (w : World) (kind : Int) (s : ByteArray) (hs : s.size ≤ 1000000) :
    Calls Tryz.prog 144 #[.int .i64 kind, .string s] w fun e w' => ∃ v', e = .returned (.tuple #[v', .int .i64 (storedE kind)]) ∧ Own w' w.heap.size v' (storedP kind s.data.toList) ∧ Ext w w' := by
  by_cases hk : kind = 1 ∨ kind = 2
  · have eE : storedE kind = 0 := by unfold storedE; rw [if_pos hk]
    rw [eE]
    have hz : ((sizeK kind : Nat) : Int) ≠ 0 := by rcases hk with rfl | rfl <;> decide
    obtain ⟨z, hq⟩ : ∃ z : Int, (sizeK kind : Int) = z := ⟨_, rfl⟩
    have hz1 : (z == 0) = false := by simpa [← hq] using hz
    have HQ := Lib.hid hq
    have HK := Lib.hid hk
    clear eE hz hq hk
    by_cases he : s.data.toList = []
    · obtain rfl := str_empty he
      have eP : storedP kind ByteArray.empty.data.toList = [] := by simp [storedP]
      rw [eP]
      clear eP he
      go_enter Tryz.func144, Tryz.ntmps144
      go_wp2_with (go_at_call 179; refine (size_c _ _ z HQ.out).mono ?_; rintro e w1 ⟨rfl, rfl⟩)
      go_ret2
      exact ⟨_, rfl, Own.nil _ _, Ext.refl _⟩
    · have eP : storedP kind s.data.toList = sumP kind (sumP kind s.data.toList) := by unfold storedP; rw [if_pos ⟨HK.out, he⟩]
      rw [eP]
      have hne := str_ne he
      have hsz : s.data.toList.length = s.size := size_toList s
      have HSZ := Lib.hid hsz
      clear eP he hsz
      go_enter Tryz.func144, Tryz.ntmps144
      go_wp2_with (first
        | (go_at_call 179; refine (size_c _ _ z HQ.out).mono ?_; rintro e w1 ⟨rfl, rfl⟩)
        | ((with_reducible show AtS 14); refine wpl_bytes bt s (by unfold maxLen; omega) rfl _ rfl rfl ?_; intro A1 m1 c1 w1 hr1 _ hx1; have tok1 : True := trivial)
        | (go_at_call 146; have _t := tok1; refine (hash_d _ kind _ [s.data.toList] HK.out (lists1 w1 _ _ hr1 _ _ rfl) (by rw [List.flatten_cons, List.flatten_nil, List.append_nil, HSZ.out]; exact hs)).mono ?_; rintro e w2 ⟨A2, m2, c2, rfl, ho2, hx2⟩; clear tok1; simp only [List.flatten_cons, List.flatten_nil, List.append_nil] at ho2)
        | (go_at_call 146; refine (hash_c _ kind _ [sumP kind s.data.toList] HK.out (lists1 w2 _ _ ho2.rd _ _ rfl) (by rw [List.flatten_cons, List.flatten_nil, List.append_nil, sumP_len kind _ HK.out]; have := sizeK_le kind; omega)).mono ?_; rintro e w3 ⟨v3, rfl, ho3, hx3⟩)
        | fail)
      go_ret2
      simp only [List.flatten_cons, List.flatten_nil, List.append_nil] at ho3
      have hx02 := (hx1.alloc _).trans hx2
      exact ⟨_, rfl, ho3.more (Nat.le_trans (Ext.size hx02) (by simp)), (hx02.alloc _).trans hx3⟩
  · have eE : storedE kind = 2 := by unfold storedE; rw [if_neg hk]
    have eP : storedP kind s.data.toList = [] := by unfold storedP; rw [if_neg (fun h => hk h.1)]
    have hz : (sizeK kind : Int) = 0 := by unfold sizeK; rw [if_neg (fun h => hk (.inl h)), if_neg (fun h => hk (.inr h))]; rfl
    rw [eE, eP]
    have HZ := Lib.hid hz
    clear eE eP hk hz
    go_enter Tryz.func144, Tryz.ntmps144
    go_wp2_with (go_at_call 179; refine (size_c _ _ 0 HZ.out).mono ?_; rintro e w1 ⟨rfl, rfl⟩)
    go_ret2
    exact ⟨_, rfl, Own.nil _ _, Ext.refl _⟩

set_option maxRecDepth 100000 in
set_option maxHeartbeats 1000000 in
theorem response_c (w : World) (kind : Int) (s : ByteArray) (vn : Value) (n : List UInt8) (hk : kind = 1 ∨ kind = 2) (hs : s.size ≤ 1000000) (hn : Rd w vn n) :
    Calls Tryz.prog 92 #[.int .i64 kind, .string s, vn] w fun e w' => ∃ v', e = .returned (.tuple #[v', .int .i64 (checkE n)]) ∧ Rd w' v' (respP kind s.data.toList n) ∧ Ext w w' := by
  have HK := Lib.hid hk
  have HNN := Lib.hid hn
  clear hk hn
  rcases checkE_or n with h | h
  · have hl := checkE_len h
    rw [h]
    by_cases he : s.data.toList = []
    · have eP : respP kind s.data.toList n = [] := by unfold respP; rw [if_neg (fun h => h.2 he)]
      rw [eP]
      obtain rfl := str_empty he
      have H := Lib.hid h
      clear h he eP hl
      go_enter Tryz.func92, Tryz.ntmps92
      go_wp2_with (go_at_call 39; refine (check_c _ _ n 0 HNN.out H.out).mono ?_; rintro e w1 ⟨rfl, rfl⟩)
      go_ret2
      exact ⟨_, rfl, Rd.nil _, Ext.refl _⟩
    · have eP : respP kind s.data.toList n = xorL (sumP kind s.data.toList) (mixP kind n (storedP kind s.data.toList)) := by unfold respP; rw [if_pos ⟨h, he⟩]
      rw [eP]
      have hne := str_ne he
      have hsz : s.data.toList.length = s.size := size_toList s
      have HSZ := Lib.hid hsz
      have H := Lib.hid h
      have eE : storedE kind = 0 := by unfold storedE; rw [if_pos HK.out]
      have HE := Lib.hid eE
      have HL := Lib.hid hl
      clear eP he hsz h eE hl
      have hs1 := sumP_len kind s.data.toList HK.out
      have hs2 := mixP_len kind n (storedP kind s.data.toList) HK.out
      have hs3 := sizeK_le kind
      have hs4 : 0 < sizeK kind := by rcases HK.out with rfl | rfl <;> decide
      have hs5 := storedP_le kind s.data.toList
      have HS1 := Lib.hid hs1
      have HS2 := Lib.hid hs2
      clear hs1 hs2
      go_enter Tryz.func92, Tryz.ntmps92
      go_wp2_with (first
        | (go_at_call 39; refine (check_c _ _ n 0 HNN.out H.out).mono ?_; rintro e w1 ⟨rfl, rfl⟩)
        | (go_at_call 144; refine (stored_c _ kind s hs).mono ?_; rintro e w1 ⟨v1, rfl, ho1, hx1⟩; rw [HE.out])
        | ((with_reducible show AtS 26); refine wpl_bytes bt s (by unfold maxLen; omega) rfl _ rfl rfl ?_; intro A2 m2 c2 w2 hr2 _ hx2)
        | (go_at_call 146; refine (hash_c _ kind _ [s.data.toList] HK.out (lists1 w2 _ _ hr2 _ _ rfl) (by rw [List.flatten_cons, List.flatten_nil, List.append_nil, HSZ.out]; exact hs)).mono ?_; rintro e w3 ⟨v3, rfl, ho3, hx3⟩; simp only [List.flatten_cons, List.flatten_nil, List.append_nil] at ho3; have hx23 := (hx2.alloc _).trans hx3; have hx03 := hx1.trans hx23)
        | (go_at_call 147; refine (mask_c _ kind _ _ n _ HK.out (HNN.out.ext hx03) (ho1.rd.ext hx23) (by have := HL.out; omega) (by omega)).mono ?_; rintro e w4 ⟨v4, rfl, ho4, hx4⟩)
        | (go_at_call 145; refine (xor_c _ _ _ _ _ (ho3.rd.ext hx4) ho4.rd (by rw [HS1.out]; omega) (by rw [HS1.out, HS2.out]; exact Nat.le_refl _) (by rw [HS1.out]; omega)).mono ?_; rintro e w5 ⟨v5, rfl, ho5, hx5⟩)
        | fail)
      go_ret2
      exact ⟨_, rfl, ho5, (hx03.trans hx4).trans hx5⟩
  · have eP : respP kind s.data.toList n = [] := by unfold respP; rw [if_neg (fun h2 => by rw [h] at h2; exact absurd h2.1 (by decide))]
    rw [eP, h]
    have H := Lib.hid h
    clear h eP
    go_enter Tryz.func92, Tryz.ntmps92
    go_wp2_with (go_at_call 39; refine (check_c _ _ n 2 HNN.out H.out).mono ?_; rintro e w1 ⟨rfl, rfl⟩)
    go_ret2
    exact ⟨_, rfl, Rd.nil _, Ext.refl _⟩

theorem ntv_c (w : World) (s : ByteArray) (vn : Value) (n : List UInt8) (hs : s.size ≤ 1000000) (hn : Rd w vn n) :
    Calls Tryz.prog 50 #[.string s, vn] w fun e w' => ∃ v', e = .returned (.tuple #[v', .int .i64 (checkE n)]) ∧ Rd w' v' (respP 1 s.data.toList n) ∧ Ext w w' := by
  have HNN := Lib.hid hn
  clear hn
  go_enter Tryz.func50, Tryz.ntmps50
  go_wp2_with (go_at_call 92; refine (response_c _ 1 s _ n (.inl rfl) hs HNN.out).mono ?_; rintro e w1 ⟨v1, rfl, hr1, hx1⟩)
  go_ret2
  exact ⟨_, rfl, hr1, hx1⟩
theorem fast_c (w : World) (s : ByteArray) (vn : Value) (n : List UInt8) (hs : s.size ≤ 1000000) (hn : Rd w vn n) :
    Calls Tryz.prog 168 #[.string s, vn] w fun e w' => ∃ v', e = .returned (.tuple #[v', .int .i64 (checkE n)]) ∧ Rd w' v' (respP 2 s.data.toList n) ∧ Ext w w' := by
  have HNN := Lib.hid hn
  clear hn
  go_enter Tryz.func168, Tryz.ntmps168
  go_wp2_with (go_at_call 92; refine (response_c _ 2 s _ n (.inr rfl) hs HNN.out).mono ?_; rintro e w1 ⟨v1, rfl, hr1, hx1⟩)
  go_ret2
  exact ⟨_, rfl, hr1, hx1⟩

end Go.Proofs.YtbodppfpmpmadaaGreat

namespace Go.Proofs.YtbodppfpmpmadaaGreat
open Go.RowKit

set_option maxHeartbeats 400000 in
theorem form_c (w : World) (x : Int) (a b : Int) (h : (x ≤ 250 ∧ a = 0 ∧ b = 1) ∨ (250 < x ∧ x < 65536 ∧ a = 252 ∧ b = 2) ∨ (65536 ≤ x ∧ x < 16777216 ∧ a = 253 ∧ b = 3) ∨ (16777216 ≤ x ∧ a = 254 ∧ b = 8)) :
    Calls Tryz.prog 203 #[.int .u64 x] w fun e w' => e = .returned (.tuple #[.int .u8 a, .int .i64 b]) ∧ w = w' := by
  rcases h with ⟨h, rfl, rfl⟩ | ⟨h, h2, rfl, rfl⟩ | ⟨h, h2, rfl, rfl⟩ | ⟨h, rfl, rfl⟩
  all_goals
    go_enter Tryz.func203, Tryz.ntmps203
    go_wp2_with fail
    go_ret2
    exact ⟨rfl, rfl⟩

theorem size_cases (x : Int) : (x ≤ 250 ∧ sizeI x = 1) ∨ (250 < x ∧ x < 65536 ∧ sizeI x = 3) ∨ (65536 ≤ x ∧ x < 16777216 ∧ sizeI x = 4) ∨ (16777216 ≤ x ∧ sizeI x = 9) := by
  unfold sizeI
  split
  · omega
  · split
    · omega
    · split <;> omega

set_option maxHeartbeats 400000 in
theorem size_ref (w : World) (x : Int) :
    Calls Tryz.prog 185 #[.int .u64 x] w fun e w' => e = .returned (.int .i64 (sizeI x)) ∧ w = w' := by
  rcases size_cases x with ⟨h, he⟩ | ⟨h, h2, he⟩ | ⟨h, h2, he⟩ | ⟨h, he⟩
  all_goals
    rw [he]
    clear he
    go_enter Tryz.func185, Tryz.ntmps185
    go_wp2_with fail
    go_ret
    exact ⟨rfl, rfl⟩

def RetI (w : World) (r : Int × Nat × Int) (e : Ending) (w' : World) : Prop := e = .returned (.tuple #[.int .u64 r.1, .int .i64 (r.2.1 : Int), .int .i64 r.2.2]) ∧ w = w'

set_option maxHeartbeats 1000000 in
theorem readInt_len (w : World) (v : Value) (l : List UInt8) (hr : Rd w v l) :
    Calls Tryz.prog 198 #[v] w (RetI w (readI l)) := by
  rcases readI_cases l with ⟨rfl, he⟩ | ⟨c, t, rfl, hx⟩
  · rw [he]
    clear he
    obtain ⟨A, cap, rfl, hle, hm, hA, hc⟩ := hr
    clear hA hc
    go_enter Tryz.func198, Tryz.ntmps198
    go_wp2_with fail
    go_ret3
    exact ⟨rfl, rfl⟩
  · have HR := Lib.hid hr
    obtain ⟨A, cap, rfl, hle, hm, hA, hc⟩ := hr
    obtain ⟨b, o, rfl, hc2⟩ := hc (by simp)
    have hcell : w.cell? ⟨b, o, none⟩ = some (.int .u8 (c.toNat : Int)) := by simpa using hc2 0 (by simp)
    clear hA hc hc2
    unfold maxLen at hm
    rcases hx with ⟨h, he⟩ | ⟨rfl, he⟩ | ⟨rfl, he⟩ | ⟨n, hn, hx⟩
    · rw [he]
      clear he
      go_enter Tryz.func198, Tryz.ntmps198
      go_wp2_with fail
      go_ret3
      exact ⟨rfl, rfl⟩
    · rw [he]
      clear he
      have hcell2 : w.cell? ⟨b, o, none⟩ = some (.int .u8 251) := hcell
      clear hcell
      go_enter Tryz.func198, Tryz.ntmps198
      go_wp2_with fail
      go_ret3
      exact ⟨rfl, rfl⟩
    · rw [he]
      clear he
      have hcell2 : w.cell? ⟨b, o, none⟩ = some (.int .u8 255) := hcell
      clear hcell
      go_enter Tryz.func198, Tryz.ntmps198
      go_wp2_with fail
      go_ret3
      exact ⟨rfl, rfl⟩
    · rcases hx with ⟨hx, he⟩ | ⟨hx, he⟩
      all_goals
        rw [he]
        clear he
      · rcases hn with ⟨rfl, rfl⟩ | ⟨rfl, rfl⟩ | ⟨rfl, rfl⟩
        · have hcell2 : w.cell? ⟨b, o, none⟩ = some (.int .u8 252) := hcell
          clear hcell
          go_enter Tryz.func198, Tryz.ntmps198
          go_wp2_with (first | ((with_reducible show wpList _ _ _ (_ :: _) _ _); refine wpl_slice_lo bt HR.out 1 (by omega) (by rw [List.length_cons]; omega) rfl _ _ _ rfl rfl rfl ?_; intro v2 hr2; replace hr2 : Rd w v2 t := hr2) | (go_at_call 136; refine (readFixed_short_len _ _ _ _ hr2 (by omega) (by omega) (by omega)).mono ?_; rintro e w1 ⟨rfl, rfl⟩))
          go_ret3
          exact ⟨rfl, rfl⟩
        · have hcell2 : w.cell? ⟨b, o, none⟩ = some (.int .u8 253) := hcell
          clear hcell
          go_enter Tryz.func198, Tryz.ntmps198
          go_wp2_with (first | ((with_reducible show wpList _ _ _ (_ :: _) _ _); refine wpl_slice_lo bt HR.out 1 (by omega) (by rw [List.length_cons]; omega) rfl _ _ _ rfl rfl rfl ?_; intro v2 hr2; replace hr2 : Rd w v2 t := hr2) | (go_at_call 136; refine (readFixed_short_len _ _ _ _ hr2 (by omega) (by omega) (by omega)).mono ?_; rintro e w1 ⟨rfl, rfl⟩))
          go_ret3
          exact ⟨rfl, rfl⟩
        · have hcell2 : w.cell? ⟨b, o, none⟩ = some (.int .u8 254) := hcell
          clear hcell
          go_enter Tryz.func198, Tryz.ntmps198
          go_wp2_with (first | ((with_reducible show wpList _ _ _ (_ :: _) _ _); refine wpl_slice_lo bt HR.out 1 (by omega) (by rw [List.length_cons]; omega) rfl _ _ _ rfl rfl rfl ?_; intro v2 hr2; replace hr2 : Rd w v2 t := hr2) | (go_at_call 136; refine (readFixed_short_len _ _ _ _ hr2 (by omega) (by omega) (by omega)).mono ?_; rintro e w1 ⟨rfl, rfl⟩))
          go_ret3
          exact ⟨rfl, rfl⟩
      · rcases hn with ⟨rfl, rfl⟩ | ⟨rfl, rfl⟩ | ⟨rfl, rfl⟩
        · have hcell2 : w.cell? ⟨b, o, none⟩ = some (.int .u8 252) := hcell
          clear hcell
          go_enter Tryz.func198, Tryz.ntmps198
          go_wp2_with (first | ((with_reducible show wpList _ _ _ (_ :: _) _ _); refine wpl_slice_lo bt HR.out 1 (by omega) (by rw [List.length_cons]; omega) rfl _ _ _ rfl rfl rfl ?_; intro v2 hr2; replace hr2 : Rd w v2 t := hr2) | (go_at_call 136; refine (readFixed_good_len _ _ _ _ hr2 (by omega) (by omega) (by omega)).mono ?_; rintro e w1 ⟨rfl, rfl⟩))
          go_ret3
          exact ⟨rfl, rfl⟩
        · have hcell2 : w.cell? ⟨b, o, none⟩ = some (.int .u8 253) := hcell
          clear hcell
          go_enter Tryz.func198, Tryz.ntmps198
          go_wp2_with (first | ((with_reducible show wpList _ _ _ (_ :: _) _ _); refine wpl_slice_lo bt HR.out 1 (by omega) (by rw [List.length_cons]; omega) rfl _ _ _ rfl rfl rfl ?_; intro v2 hr2; replace hr2 : Rd w v2 t := hr2) | (go_at_call 136; refine (readFixed_good_len _ _ _ _ hr2 (by omega) (by omega) (by omega)).mono ?_; rintro e w1 ⟨rfl, rfl⟩))
          go_ret3
          exact ⟨rfl, rfl⟩
        · have hcell2 : w.cell? ⟨b, o, none⟩ = some (.int .u8 254) := hcell
          clear hcell
          go_enter Tryz.func198, Tryz.ntmps198
          go_wp2_with (first | ((with_reducible show wpList _ _ _ (_ :: _) _ _); refine wpl_slice_lo bt HR.out 1 (by omega) (by rw [List.length_cons]; omega) rfl _ _ _ rfl rfl rfl ?_; intro v2 hr2; replace hr2 : Rd w v2 t := hr2) | (go_at_call 136; refine (readFixed_good_len _ _ _ _ hr2 (by omega) (by omega) (by omega)).mono ?_; rintro e w1 ⟨rfl, rfl⟩))
          go_ret3
          exact ⟨rfl, rfl⟩

set_option maxHeartbeats 1000000 in
theorem readInt_ref (w : World) (v : Value) (l : List UInt8) (hr : Rd w v l) :
    Calls Tryz.prog 174 #[v] w (RetI w (readI l)) := by
  rcases readI_cases l with ⟨rfl, he⟩ | ⟨c, t, rfl, hx⟩
  · rw [he]
    clear he
    obtain ⟨A, cap, rfl, hle, hm, hA, hc⟩ := hr
    clear hA hc
    go_enter Tryz.func174, Tryz.ntmps174
    go_wp2_with fail
    go_ret3
    exact ⟨rfl, rfl⟩
  · have HR := Lib.hid hr
    obtain ⟨A, cap, rfl, hle, hm, hA, hc⟩ := hr
    obtain ⟨b, o, rfl, hc2⟩ := hc (by simp)
    have hcell : w.cell? ⟨b, o, none⟩ = some (.int .u8 (c.toNat : Int)) := by simpa using hc2 0 (by simp)
    clear hA hc hc2
    unfold maxLen at hm
    rcases hx with ⟨h, he⟩ | ⟨rfl, he⟩ | ⟨rfl, he⟩ | ⟨n, hn, hx⟩
    · rw [he]
      clear he
      go_enter Tryz.func174, Tryz.ntmps174
      go_wp2_with fail
      go_ret3
      exact ⟨rfl, rfl⟩
    · rw [he]
      clear he
      have hcell2 : w.cell? ⟨b, o, none⟩ = some (.int .u8 251) := hcell
      clear hcell
      go_enter Tryz.func174, Tryz.ntmps174
      go_wp2_with fail
      go_ret3
      exact ⟨rfl, rfl⟩
    · rw [he]
      clear he
      have hcell2 : w.cell? ⟨b, o, none⟩ = some (.int .u8 255) := hcell
      clear hcell
      go_enter Tryz.func174, Tryz.ntmps174
      go_wp2_with fail
      go_ret3
      exact ⟨rfl, rfl⟩
    · rcases hx with ⟨hx, he⟩ | ⟨hx, he⟩
      all_goals
        rw [he]
        clear he
      · rcases hn with ⟨rfl, rfl⟩ | ⟨rfl, rfl⟩ | ⟨rfl, rfl⟩
        · have hcell2 : w.cell? ⟨b, o, none⟩ = some (.int .u8 252) := hcell
          clear hcell
          go_enter Tryz.func174, Tryz.ntmps174
          go_wp2_with (first | ((with_reducible show wpList _ _ _ (_ :: _) _ _); refine wpl_slice_lo bt HR.out 1 (by omega) (by rw [List.length_cons]; omega) rfl _ _ _ rfl rfl rfl ?_; intro v2 hr2; replace hr2 : Rd w v2 t := hr2) | (go_at_call 160; refine (readFixed_short_ref _ _ _ _ hr2 (by omega) (by omega) (by omega)).mono ?_; rintro e w1 ⟨rfl, rfl⟩))
          go_ret3
          exact ⟨rfl, rfl⟩
        · have hcell2 : w.cell? ⟨b, o, none⟩ = some (.int .u8 253) := hcell
          clear hcell
          go_enter Tryz.func174, Tryz.ntmps174
          go_wp2_with (first | ((with_reducible show wpList _ _ _ (_ :: _) _ _); refine wpl_slice_lo bt HR.out 1 (by omega) (by rw [List.length_cons]; omega) rfl _ _ _ rfl rfl rfl ?_; intro v2 hr2; replace hr2 : Rd w v2 t := hr2) | (go_at_call 160; refine (readFixed_short_ref _ _ _ _ hr2 (by omega) (by omega) (by omega)).mono ?_; rintro e w1 ⟨rfl, rfl⟩))
          go_ret3
          exact ⟨rfl, rfl⟩
        · have hcell2 : w.cell? ⟨b, o, none⟩ = some (.int .u8 254) := hcell
          clear hcell
          go_enter Tryz.func174, Tryz.ntmps174
          go_wp2_with (first | ((with_reducible show wpList _ _ _ (_ :: _) _ _); refine wpl_slice_lo bt HR.out 1 (by omega) (by rw [List.length_cons]; omega) rfl _ _ _ rfl rfl rfl ?_; intro v2 hr2; replace hr2 : Rd w v2 t := hr2) | (go_at_call 160; refine (readFixed_short_ref _ _ _ _ hr2 (by omega) (by omega) (by omega)).mono ?_; rintro e w1 ⟨rfl, rfl⟩))
          go_ret3
          exact ⟨rfl, rfl⟩
      · rcases hn with ⟨rfl, rfl⟩ | ⟨rfl, rfl⟩ | ⟨rfl, rfl⟩
        · have hcell2 : w.cell? ⟨b, o, none⟩ = some (.int .u8 252) := hcell
          clear hcell
          go_enter Tryz.func174, Tryz.ntmps174
          go_wp2_with (first | ((with_reducible show wpList _ _ _ (_ :: _) _ _); refine wpl_slice_lo bt HR.out 1 (by omega) (by rw [List.length_cons]; omega) rfl _ _ _ rfl rfl rfl ?_; intro v2 hr2; replace hr2 : Rd w v2 t := hr2) | (go_at_call 160; refine (readFixed_good_ref _ _ _ _ hr2 (by omega) (by omega) (by omega)).mono ?_; rintro e w1 ⟨rfl, rfl⟩))
          go_ret3
          exact ⟨rfl, rfl⟩
        · have hcell2 : w.cell? ⟨b, o, none⟩ = some (.int .u8 253) := hcell
          clear hcell
          go_enter Tryz.func174, Tryz.ntmps174
          go_wp2_with (first | ((with_reducible show wpList _ _ _ (_ :: _) _ _); refine wpl_slice_lo bt HR.out 1 (by omega) (by rw [List.length_cons]; omega) rfl _ _ _ rfl rfl rfl ?_; intro v2 hr2; replace hr2 : Rd w v2 t := hr2) | (go_at_call 160; refine (readFixed_good_ref _ _ _ _ hr2 (by omega) (by omega) (by omega)).mono ?_; rintro e w1 ⟨rfl, rfl⟩))
          go_ret3
          exact ⟨rfl, rfl⟩
        · have hcell2 : w.cell? ⟨b, o, none⟩ = some (.int .u8 254) := hcell
          clear hcell
          go_enter Tryz.func174, Tryz.ntmps174
          go_wp2_with (first | ((with_reducible show wpList _ _ _ (_ :: _) _ _); refine wpl_slice_lo bt HR.out 1 (by omega) (by rw [List.length_cons]; omega) rfl _ _ _ rfl rfl rfl ?_; intro v2 hr2; replace hr2 : Rd w v2 t := hr2) | (go_at_call 160; refine (readFixed_good_ref _ _ _ _ hr2 (by omega) (by omega) (by omega)).mono ?_; rintro e w1 ⟨rfl, rfl⟩))
          go_ret3
          exact ⟨rfl, rfl⟩
end Go.Proofs.YtbodppfpmpmadaaGreat

namespace Go.Proofs.YtbodppfpmpmadaaGreat

theorem leN_fixB (x : Nat) (n : Nat) : leN (fixB (x : Int) n) = x % 2 ^ (8 * n) := by
  induction n with
  | zero => simp [fixB, leN, Nat.mod_one]
  | succ n ih =>
    rw [fixB_succ, leN_append, fixB_length, ih]
    have e : (UInt8.ofNat ((x : Int) / 2 ^ (8 * n) % 256).toNat).toNat = x / 2 ^ (8 * n) % 256 := by
      have : ((x : Int) / 2 ^ (8 * n) % 256) = ((x / 2 ^ (8 * n) % 256 : Nat) : Int) := by simp
      rw [this, Int.toNat_natCast, UInt8.toNat_ofNat']
      omega
    rw [e, show 8 * (n + 1) = 8 * n + 8 by omega, Nat.pow_add, Nat.mod_mul, Nat.mul_comm (2 ^ (8 * n))]

theorem intB_cases (x : Int) : (x ≤ 250 ∧ intB x = fixB x 1 ∧ sizeI x = 1) ∨ (250 < x ∧ x < 65536 ∧ intB x = 252 :: fixB x 2 ∧ sizeI x = 3) ∨
    (65536 ≤ x ∧ x < 16777216 ∧ intB x = 253 :: fixB x 3 ∧ sizeI x = 4) ∨ (16777216 ≤ x ∧ intB x = 254 :: fixB x 8 ∧ sizeI x = 9) := by
  unfold intB sizeI
  by_cases h1 : x ≤ 250
  · exact .inl ⟨h1, if_pos h1, if_pos h1⟩
  · by_cases h2 : x < 65536
    · exact .inr (.inl ⟨by omega, h2, by rw [if_neg h1, if_pos h2], by rw [if_neg h1, if_pos h2]⟩)
    · by_cases h3 : x < 16777216
      · exact .inr (.inr (.inl ⟨by omega, h3, by rw [if_neg h1, if_neg h2, if_pos h3], by rw [if_neg h1, if_neg h2, if_pos h3]⟩))
      · exact .inr (.inr (.inr ⟨by omega, by rw [if_neg h1, if_neg h2, if_neg h3], by rw [if_neg h1, if_neg h2, if_neg h3]⟩))

theorem readI_wide (c : UInt8) (n : Nat) (hc : (c = 252 ∧ n = 2) ∨ (c = 253 ∧ n = 3) ∨ (c = 254 ∧ n = 8)) (t : List UInt8) :
    readI (c :: t) = if t.length < n then (0, 0, 4) else ((leN (t.take n) : Int), n + 1, 0) := by
  rcases hc with ⟨rfl, rfl⟩ | ⟨rfl, rfl⟩ | ⟨rfl, rfl⟩ <;> rfl

theorem readI_small (c : UInt8) (t : List UInt8) (h : c.toNat ≤ 250) : readI (c :: t) = ((c.toNat : Int), 1, 0) :=
  if_pos h

theorem readI_intB (x : Int) (h0 : 0 ≤ x) (h1 : x < 18446744073709551616) (t : List UInt8) : readI (intB x ++ t) = (x, sizeI x, 0) := by
  obtain ⟨X, rfl⟩ : ∃ X : Nat, x = X := ⟨x.toNat, by omega⟩
  rcases intB_cases (X : Int) with ⟨h, e, hs⟩ | ⟨h, h2, e, hs⟩ | ⟨h, h2, e, hs⟩ | ⟨h, e, hs⟩
  · have e2 : fixB (X : Int) 1 = [UInt8.ofNat X] := by
      have : (X : Int) % 256 = X := by omega
      simp [fixB, this]
    have e3 : (UInt8.ofNat X).toNat = X := by rw [UInt8.toNat_ofNat']; omega
    rw [e, e2, hs, List.singleton_append, readI_small _ _ (by rw [e3]; omega), e3]
  all_goals rw [e, hs, List.cons_append]
  · rw [readI_wide 252 2 (.inl ⟨rfl, rfl⟩), if_neg (by rw [List.length_append, fixB_length]; omega), List.take_append_of_le_length (by rw [fixB_length]; omega), List.take_of_length_le (by rw [fixB_length]; omega), leN_fixB, Nat.mod_eq_of_lt (by omega)]
  · rw [readI_wide 253 3 (.inr (.inl ⟨rfl, rfl⟩)), if_neg (by rw [List.length_append, fixB_length]; omega), List.take_append_of_le_length (by rw [fixB_length]; omega), List.take_of_length_le (by rw [fixB_length]; omega), leN_fixB, Nat.mod_eq_of_lt (by omega)]
  · rw [readI_wide 254 8 (.inr (.inr ⟨rfl, rfl⟩)), if_neg (by rw [List.length_append, fixB_length]; omega), List.take_append_of_le_length (by rw [fixB_length]; omega), List.take_of_length_le (by rw [fixB_length]; omega), leN_fixB, Nat.mod_eq_of_lt (by omega)]

theorem sizeI_of_readI {l : List UInt8} {x : Int} {n : Nat} (h : readI l = (x, n, 0)) : sizeI x ≤ n ∧ 0 ≤ x ∧ x < 18446744073709551616 := by
  rcases readI_cases l with ⟨_, he⟩ | ⟨c, t, rfl, ⟨hc, he⟩ | ⟨_, he⟩ | ⟨_, he⟩ | ⟨m, hm2, ⟨_, he⟩ | ⟨hm, he⟩⟩⟩
  all_goals
    rw [he] at h
    injection h with h1 h2
    injection h2 with h2 h3
  · omega
  · subst h1 h2
    rw [show sizeI (c.toNat : Int) = 1 from if_pos (by omega)]
    omega
  · omega
  · omega
  · omega
  · have hlt := leN_take_lt t m
    subst h1 h2
    have hs := sizeI_le ((leN (t.take m) : Nat) : Int)
    rcases intB_cases ((leN (t.take m) : Nat) : Int) with ⟨h, e, hs⟩ | ⟨h, h2, e, hs⟩ | ⟨h, h2, e, hs⟩ | ⟨h, e, hs⟩
    all_goals rcases hm2 with ⟨_, rfl⟩ | ⟨_, rfl⟩ | ⟨_, rfl⟩ <;> omega
end Go.Proofs.YtbodppfpmpmadaaGreat

