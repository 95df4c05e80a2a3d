/- A hash takes bytes. -/
import Derived.Test.YtimelnihiocngaaShaE
namespace Go.Proofs.Ytimelnihiocngaa
open Go.RowKit

theorem Rd.onB {g : Nat} {w w' : World} {v : Value} {l : List UInt8} (h : Rd w v l) (k : On g w w') (hne : v.ownBlock ≠ some g) : Rd w' v l := by
  obtain ⟨A, cap, rfl, h1, h2, h3, h4⟩ := h
  refine ⟨A, cap, rfl, h1, h2, h3, fun hl => ?_⟩
  obtain ⟨b, o, rfl, hc⟩ := h4 hl
  refine ⟨b, o, rfl, fun j hj => k.cell (hc j hj) (fun e => hne (by simp [Value.ownBlock, ← e]))⟩

theorem Rd.far {w : World} {v : Value} {l : List UInt8} {g : Nat} (h : Rd w v l) (hg : w.heap.size ≤ g) (hl : l ≠ []) : v.ownBlock ≠ some g := by
  obtain ⟨A, cap, rfl, h1, h2, h3, h4⟩ := h
  obtain ⟨b, o, rfl, hc⟩ := h4 hl
  have := World.block_lt_of_cell? w _ (hc 0 (by cases l with | nil => exact absurd rfl hl | cons a l => simp))
  intro e
  simp [Value.ownBlock] at e
  subst e
  dsimp only at this
  omega

def comp (kind : Int) (ws : List Int) (rest : List UInt8) : List Int := if kind = 1 then comp1 ws rest else comp2 ws rest
/-- A byte comes: the words, the block, how much of it is there. -/
def stepH (kind : Int) (s : List Int × List UInt8 × Nat) (c : UInt8) : List Int × List UInt8 × Nat :=
  if s.2.2 + 1 < 64 then (s.1, s.2.1.set s.2.2 c, s.2.2 + 1) else (comp kind s.1 (s.2.1.set s.2.2 c), s.2.1.set s.2.2 c, 0)
def feedH (kind : Int) (s : List Int × List UInt8 × Nat) (l : List UInt8) : List Int × List UInt8 × Nat := l.foldl (stepH kind) s
def goodH (s : List Int × List UInt8 × Nat) : Prop := s.1.length = 8 ∧ s.2.1.length = 64 ∧ s.2.2 < 64
def hashS (kind : Int) (s : List Int × List UInt8 × Nat) (all : Int) : List Value := hashC kind s.1 s.2.1 (s.2.2 : Int) all

theorem addW_length (ws vs : List Int) (j : Nat) (h1 : j ≤ ws.length) (h2 : j ≤ vs.length) : (addW ws vs j).length = ws.length := by
  simp [addW]; omega
theorem comp_length (kind : Int) (ws : List Int) (rest : List UInt8) (h : ws.length = 8) : (comp kind ws rest).length = 8 := by
  unfold comp
  split
  · unfold comp1
    rw [addW_length _ _ _ (by omega) (by simp), h]
  · unfold comp2
    rw [addW_length _ _ _ (by omega) (by rw [rnds2_length _ _ h]; omega), h]
theorem goodH_step (kind : Int) {s : List Int × List UInt8 × Nat} (c : UInt8) (h : goodH s) : goodH (stepH kind s c) := by
  obtain ⟨h1, h2, h3⟩ := h
  unfold stepH
  split
  · exact ⟨h1, by simpa using h2, by assumption⟩
  · exact ⟨comp_length _ _ _ h1, by simpa using h2, by show 0 < 64; omega⟩
theorem goodH_feed (kind : Int) (l : List UInt8) : ∀ {s : List Int × List UInt8 × Nat}, goodH s → goodH (feedH kind s l) := by
  induction l with
  | nil => intro s h; exact h
  | cons c l ih => intro s h; exact ih (goodH_step kind c h)
theorem feedH_append (kind : Int) (s : List Int × List UInt8 × Nat) (l m : List UInt8) : feedH kind s (l ++ m) = feedH kind (feedH kind s l) m := by
  simp [feedH, List.foldl_append]
theorem feedH_take (kind : Int) (s : List Int × List UInt8 × Nat) (l : List UInt8) (k : Nat) (hk : k < l.length) :
    feedH kind s (l.take (k + 1)) = stepH kind (feedH kind s (l.take k)) (l.getD k 0) := by
  rw [List.take_add_one, feedH_append, List.getElem?_eq_getElem hk, List.getD_eq_getElem?_getD, List.getElem?_eq_getElem hk]
  rfl

theorem hashC_n {kind : Int} {ws : List Int} {rest : List UInt8} {n all : Int} (h1 : ws.length = 8) (h2 : rest.length = 64) : (hashC kind ws rest n all)[73]? = some (.int .i64 n) := by
  rw [hashC, List.getElem?_cons_succ, List.getElem?_append_right (by simp [h1]), List.getElem?_append_right (by simp [h1, bc_length, h2])]
  simp [h1, bc_length, h2]
theorem hashC_all {kind : Int} {ws : List Int} {rest : List UInt8} {n all : Int} (h1 : ws.length = 8) (h2 : rest.length = 64) : (hashC kind ws rest n all)[74]? = some (.int .i64 all) := by
  rw [hashC, List.getElem?_cons_succ, List.getElem?_append_right (by simp [h1]), List.getElem?_append_right (by simp [h1, bc_length, h2])]
  simp [h1, bc_length, h2]
theorem hashC_rest {kind : Int} {ws : List Int} {rest : List UInt8} {n all : Int} (h1 : ws.length = 8) (h2 : rest.length = 64) (j : Nat) (hj : j < 64) : (hashC kind ws rest n all)[9 + j]? = some (.int .u8 ((rest.getD j 0).toNat : Int)) := by
  rw [hashC, show 9 + j = (8 + j) + 1 by omega, List.getElem?_cons_succ, List.getElem?_append_right (by simp [h1]), List.length_map, h1, show 8 + j - 8 = j by omega, List.getElem?_append_left (by rw [bc_length]; omega), bc_get _ _ (by omega)]
theorem hashC_set_n {kind : Int} {ws : List Int} {rest : List UInt8} {n all m : Int} (h1 : ws.length = 8) (h2 : rest.length = 64) : (hashC kind ws rest n all).set 73 (.int .i64 m) = hashC kind ws rest m all := by
  rw [hashC, List.set_cons_succ, List.set_append_right _ _ (by simp [h1]), List.set_append_right _ _ (by simp [h1, bc_length, h2])]
  simp [h1, bc_length, h2, hashC]
theorem hashC_set_all {kind : Int} {ws : List Int} {rest : List UInt8} {n all m : Int} (h1 : ws.length = 8) (h2 : rest.length = 64) : (hashC kind ws rest n all).set 74 (.int .i64 m) = hashC kind ws rest n m := by
  rw [hashC, List.set_cons_succ, List.set_append_right _ _ (by simp [h1]), List.set_append_right _ _ (by simp [h1, bc_length, h2])]
  simp [h1, bc_length, h2, hashC]
theorem hashC_set_rest {kind : Int} {ws : List Int} {rest : List UInt8} {n all : Int} (h1 : ws.length = 8) (h2 : rest.length = 64) (j : Nat) (hj : j < 64) (c : UInt8) : (hashC kind ws rest n all).set (9 + j) (.int .u8 (c.toNat : Int)) = hashC kind ws (rest.set j c) n all := by
  rw [hashC, show 9 + j = (8 + j) + 1 by omega, List.set_cons_succ, List.set_append_right _ _ (by simp [h1]), List.length_map, h1, show 8 + j - 8 = j by omega, List.set_append_left _ _ (by rw [bc_length]; omega)]
  simp [hashC, bc, List.map_set]

set_option maxRecDepth 100000 in
set_option maxHeartbeats 2000000 in
theorem add_c (w : World) (h : Nat) (kind : Int) (s : List Int × List UInt8 × Nat) (all : Int) (v : Value) (l : List UInt8) (H : BoxF w h (hashS kind s all)) (hg : goodH s) (hr : Rd w v l) (hne : l ≠ [] → v.ownBlock ≠ some h) :
    Calls Try.prog 67 #[.pointer (some ⟨h, 0, none⟩), v] w fun e w' => e = .returned (.tuple #[]) ∧ On h w w' ∧ BoxF w' h (hashS kind (feedH kind s l) all) := by
  have hmx := hr.le
  unfold maxLen at hmx
  have HR := Lib.hid hr
  obtain ⟨A, cap, rfl, hle, hm, hA, hc⟩ := id hr
  clear hr
  have H0 := Lib.hid H
  have HG := Lib.hid hg
  have HN := Lib.hid hne
  clear H hg hne hA hc
  obtain ⟨N, hN⟩ : ∃ N, N = l.length := ⟨_, rfl⟩
  rw [← hN] at hle hmx ⊢
  have HNN := Lib.hid hN
  clear hN
  go_enter Try.func67, Try.ntmps67
  go_wp2_with fail
  go_loopw [5, 8] (fun _ i W => ∃ k : Nat, k ≤ N ∧ i = .int .i64 k ∧ On h w W ∧ BoxF W h (hashS kind (feedH kind s (l.take k)) all)) (fun _ i _ => N - (intOf i).toNat)
  case atStart => exact ⟨0, Nat.zero_le _, rfl, On.refl _ _, H0.out⟩
  case round =>
    obtain ⟨k, hk, rfl, O, B⟩ := hrel
    by_cases hkN : k < N
    · have hb : (k : Int) < (N : Int) := by omega
      have hT := feedH_take kind s l k (by have := HNN.out; omega)
      have hG := goodH_feed kind (l.take k) HG.out
      obtain ⟨b, o, rfl, hcs⟩ : ∃ b o, A = some ⟨b, o, none⟩ ∧ ∀ j, j < l.length → wr.cell? ⟨b, o + j, none⟩ = some (.int .u8 ((l.getD j 0).toNat : Int)) := by
        have h4 := HR.out.onB O (HN.out (by intro e; have := HNN.out; subst e; simp at this; omega))
        obtain ⟨A', cap', hv, _, _, _, h4⟩ := h4
        injection hv with e1 e2 e3
        subst e1
        exact h4 (by intro e; have := HNN.out; subst e; simp at this; omega)
      have hck := hcs k (by have := HNN.out; omega)
      clear hcs
      generalize l.getD k 0 = c at hck hT
      obtain ⟨ws, r, n, hst⟩ : ∃ ws r n, feedH kind s (l.take k) = (ws, r, n) := ⟨_, _, _, rfl⟩
      rw [hst] at B hG hT
      obtain ⟨hw8, hr64, hn64⟩ := hG
      dsimp only at hw8 hr64 hn64
      have HT := Lib.hid hT
      clear hT hst
      unfold hashS at B
      dsimp only at B
      have hni : (n : Int) < 64 := by omega
      have p73 := B.at (hashC_n hw8 hr64)
      have q9 := B.at (hashC_rest (n := n) (kind := kind) (all := all) hw8 hr64 n hn64)
      have f9 := B.free (9 + n) (by rw [hashC_length, hw8, hr64]; omega)
      have B1 := (B.set (9 + n) (.int .u8 (c.toNat : Int))).ext (Ext.refl _).drew
      rw [hashC_set_rest hw8 hr64 n hn64] at B1
      have O1 := (O.set (9 + n) (.int .u8 (c.toNat : Int))).ext (Ext.refl _).drew
      have HW := Lib.hid hw8
      have HR6 := Lib.hid hr64
      have hr64' : (r.set n c).length = 64 := by simpa using hr64
      clear hw8 hr64
      go_wp2_with fail
      go_region
      all_goals
        clear p73 q9 f9 hck
        generalize World.drew (wr.setCell ⟨h, 9 + n, none⟩ (.int .u8 (c.toNat : Int))) = W1 at B1 O1 ⊢
        have p1 := B1.at (hashC_n HW.out hr64')
        have f1 := B1.free 73 (by rw [hashC_length, HW.out, hr64']; omega)
        have T1 : ∀ W : World, BoxF W h (hashC kind ws (r.set n c) ((n : Int) + 1) all) → n + 1 < 64 → BoxF W h (hashS kind (feedH kind s (l.take (k + 1))) all) := by
          intro W B h63
          rw [HT.out, stepH]
          dsimp only
          rw [if_pos h63]
          exact B
        have T2 : ∀ W : World, BoxF W h (hashC kind (comp kind ws (r.set n c)) (r.set n c) 0 all) → ¬ n + 1 < 64 → BoxF W h (hashS kind (feedH kind s (l.take (k + 1))) all) := by
          intro W B h63
          rw [HT.out, stepH]
          dsimp only
          rw [if_neg h63]
          exact B
        by_cases h63 : n + 1 < 64
        · have hni2 : (n : Int) + 1 < 64 := by omega
          go_wp2_with (first
            | ((with_reducible show wpList _ _ _ (⟨none, Op.store _ (Operand.tmp 27) _, _, _, _, _⟩ :: _) _ _); refine wpl_store_cell rfl _ _ _ rfl h 73 (.int .i64 ((n : Int) + 1)) rfl rfl rfl rfl (by kernel_rfl) B1 (by rw [hashC_length, HW.out, hr64']; omega) ?_; intro W2 B2 O2; rw [hashC_set_n HW.out hr64'] at B2; have p2 := B2.at (hashC_n HW.out hr64'))
            | fail)
          go_roundw
          case rel => exact ⟨k + 1, by omega, by go_num, O1.trans O2, T1 _ B2 h63⟩
          case measure => simp [intOf]; omega
        · obtain rfl : n = 63 := by omega
          by_cases hk1 : kind = 1
          · have hkb : (kind == 1) = true := by simpa using hk1
            go_wp2_with (first
              | ((with_reducible show wpList _ _ _ (⟨none, Op.store _ (Operand.tmp 27) _, _, _, _, _⟩ :: _) _ _); refine wpl_store_cell rfl _ _ _ rfl h 73 (.int .i64 64) rfl rfl rfl rfl (by kernel_rfl) B1 (by rw [hashC_length, HW.out, hr64']; omega) ?_; intro W2 B2 O2; rw [hashC_set_n HW.out hr64'] at B2; have p2 := B2.at (hashC_n HW.out hr64'))
              | ((with_reducible show wpList _ _ _ (⟨none, Op.store _ (Operand.tmp 35) _, _, _, _, _⟩ :: _) _ _); refine wpl_store_cell rfl _ _ _ rfl h 73 (.int .i64 0) rfl rfl rfl rfl (by kernel_rfl) B2 (by rw [hashC_length, HW.out, hr64']; omega) ?_; intro W3 B3 O3; rw [hashC_set_n HW.out hr64'] at B3; have p3 : W3.cell? ⟨h, 0, none⟩ = some (.int .i64 kind) := B3.at rfl)
              | (go_at_call 98; refine (block1_c _ h kind ws _ _ _ B3 HW.out hr64').mono ?_; rintro e W4 ⟨rfl, O4, B4⟩)
              | fail)
            go_roundw
            case rel => exact ⟨k + 1, by omega, by go_num, ((O1.trans O2).trans O3).trans O4, T2 _ (by rw [comp, if_pos hk1]; exact B4) h63⟩
            case measure => simp [intOf]; omega
          · have hkb : (kind == 1) = false := by simpa using hk1
            go_wp2_with (first
              | ((with_reducible show wpList _ _ _ (⟨none, Op.store _ (Operand.tmp 27) _, _, _, _, _⟩ :: _) _ _); refine wpl_store_cell rfl _ _ _ rfl h 73 (.int .i64 64) rfl rfl rfl rfl (by kernel_rfl) B1 (by rw [hashC_length, HW.out, hr64']; omega) ?_; intro W2 B2 O2; rw [hashC_set_n HW.out hr64'] at B2; have p2 := B2.at (hashC_n HW.out hr64'))
              | ((with_reducible show wpList _ _ _ (⟨none, Op.store _ (Operand.tmp 35) _, _, _, _, _⟩ :: _) _ _); refine wpl_store_cell rfl _ _ _ rfl h 73 (.int .i64 0) rfl rfl rfl rfl (by kernel_rfl) B2 (by rw [hashC_length, HW.out, hr64']; omega) ?_; intro W3 B3 O3; rw [hashC_set_n HW.out hr64'] at B3; have p3 : W3.cell? ⟨h, 0, none⟩ = some (.int .i64 kind) := B3.at rfl)
              | (go_at_call 99; refine (block2_c _ h kind ws _ _ _ B3 HW.out hr64').mono ?_; rintro e W4 ⟨rfl, O4, B4⟩)
              | fail)
            go_roundw
            case rel => exact ⟨k + 1, by omega, by go_num, ((O1.trans O2).trans O3).trans O4, T2 _ (by rw [comp, if_neg hk1]; exact B4) h63⟩
            case measure => simp [intOf]; omega
    · obtain rfl : k = N := by omega
      rw [HNN.out, List.take_length] at B
      go_wp2_with fail
      refine bodyPost_end (results_none rfl _ _ _) rfl ?_
      exact ⟨rfl, O, B⟩
end Go.Proofs.Ytimelnihiocngaa
