import Derived.Test.YtbodppfpmpmadaaGreatShaEC
import Derived.Lib.BytesEntry
namespace Go.Proofs.YtbodppfpmpmadaaGreat
open Go.RowKit

theorem Rd.onB {g : Nat} {w w' : World} {v : Value} {l : List UInt8} (h : Rd w v l) (k : On g w w') (hne : v.ownBlock ≠ some g) : Rd w' v l := by
  obtain ⟨A, cap, rfl, h1, h2, h3, h4⟩ := h
  refine ⟨A, cap, rfl, h1, h2, h3, fun hl => ?_⟩
  obtain ⟨b, o, rfl, hc⟩ := h4 hl
  refine ⟨b, o, rfl, fun j hj => k.cell (hc j hj) (fun e => hne (by simp [Value.ownBlock, ← e]))⟩

theorem Rd.far {w : World} {v : Value} {l : List UInt8} {g : Nat} (h : Rd w v l) (hg : w.heap.size ≤ g) (hl : l ≠ []) : v.ownBlock ≠ some g := by
  obtain ⟨A, cap, rfl, h1, h2, h3, h4⟩ := h
  obtain ⟨b, o, rfl, hc⟩ := h4 hl
  have := World.block_lt_of_cell? w _ (hc 0 (by cases l with | nil => exact absurd rfl hl | cons a l => simp))
  intro e
  simp [Value.ownBlock] at e
  subst e
  dsimp only at this
  omega

def comp (kind : Int) (ws : List Int) (rest : List UInt8) : List Int := if kind = 1 then comp1 ws rest else comp2 ws rest
def stepH (kind : Int) (s : List Int × List UInt8 × Nat) (c : UInt8) : List Int × List UInt8 × Nat :=
  if s.2.2 + 1 < 64 then (s.1, s.2.1.set s.2.2 c, s.2.2 + 1) else (comp kind s.1 (s.2.1.set s.2.2 c), s.2.1.set s.2.2 c, 0)
def feedH (kind : Int) (s : List Int × List UInt8 × Nat) (l : List UInt8) : List Int × List UInt8 × Nat := l.foldl (stepH kind) s
def goodH (s : List Int × List UInt8 × Nat) : Prop := s.1.length = 8 ∧ s.2.1.length = 64 ∧ s.2.2 < 64
def hashS (kind : Int) (s : List Int × List UInt8 × Nat) (all : Int) : List Value := hashC kind s.1 s.2.1 (s.2.2 : Int) all

theorem addW_length (ws vs : List Int) (j : Nat) (h1 : j ≤ ws.length) (h2 : j ≤ vs.length) : (addW ws vs j).length = ws.length := by
  simp [addW]; omega
theorem comp_length (kind : Int) (ws : List Int) (rest : List UInt8) (h : ws.length = 8) : (comp kind ws rest).length = 8 := by
  unfold comp
  split
  · unfold comp1
    rw [addW_length _ _ _ (by omega) (by simp), h]
  · unfold comp2
    rw [addW_length _ _ _ (by omega) (by rw [rnds2_length _ _ h]; omega), h]
theorem goodH_step (kind : Int) {s : List Int × List UInt8 × Nat} (c : UInt8) (h : goodH s) : goodH (stepH kind s c) := by
  obtain ⟨h1, h2, h3⟩ := h
  unfold stepH
  split
  · exact ⟨h1, by simpa using h2, by assumption⟩
  · exact ⟨comp_length _ _ _ h1, by simpa using h2, by show 0 < 64; omega⟩
theorem goodH_feed (kind : Int) (l : List UInt8) : ∀ {s : List Int × List UInt8 × Nat}, goodH s → goodH (feedH kind s l) := by
  induction l with
  | nil => intro s h; exact h
  | cons c l ih => intro s h; exact ih (goodH_step kind c h)
theorem feedH_append (kind : Int) (s : List Int × List UInt8 × Nat) (l m : List UInt8) : feedH kind s (l ++ m) = feedH kind (feedH kind s l) m := by
  simp [feedH, List.foldl_append]
theorem feedH_take (kind : Int) (s : List Int × List UInt8 × Nat) (l : List UInt8) (k : Nat) (hk : k < l.length) :
    feedH kind s (l.take (k + 1)) = stepH kind (feedH kind s (l.take k)) (l.getD k 0) := by
  rw [List.take_add_one, feedH_append, List.getElem?_eq_getElem hk, List.getD_eq_getElem?_getD, List.getElem?_eq_getElem hk]
  rfl

theorem hashC_n {kind : Int} {ws : List Int} {rest : List UInt8} {n all : Int} (h1 : ws.length = 8) (h2 : rest.length = 64) : (hashC kind ws rest n all)[73]? = some (.int .i64 n) := by
  rw [hashC, List.getElem?_cons_succ, List.getElem?_append_right (by simp [h1]), List.getElem?_append_right (by simp [h1, bc_length, h2])]
  simp [h1, bc_length, h2]
theorem hashC_all {kind : Int} {ws : List Int} {rest : List UInt8} {n all : Int} (h1 : ws.length = 8) (h2 : rest.length = 64) : (hashC kind ws rest n all)[74]? = some (.int .i64 all) := by
  rw [hashC, List.getElem?_cons_succ, List.getElem?_append_right (by simp [h1]), List.getElem?_append_right (by simp [h1, bc_length, h2])]
  simp [h1, bc_length, h2]
theorem hashC_rest {kind : Int} {ws : List Int} {rest : List UInt8} {n all : Int} (h1 : ws.length = 8) (h2 : rest.length = 64) (j : Nat) (hj : j < 64) : (hashC kind ws rest n all)[9 + j]? = some (.int .u8 ((rest.getD j 0).toNat : Int)) := by
  rw [hashC, show 9 + j = (8 + j) + 1 by omega, List.getElem?_cons_succ, List.getElem?_append_right (by simp [h1]), List.length_map, h1, show 8 + j - 8 = j by omega, List.getElem?_append_left (by rw [bc_length]; omega), bc_get _ _ (by omega)]
theorem hashC_set_n {kind : Int} {ws : List Int} {rest : List UInt8} {n all m : Int} (h1 : ws.length = 8) (h2 : rest.length = 64) : (hashC kind ws rest n all).set 73 (.int .i64 m) = hashC kind ws rest m all := by
  rw [hashC, List.set_cons_succ, List.set_append_right _ _ (by simp [h1]), List.set_append_right _ _ (by simp [h1, bc_length, h2])]
  simp [h1, bc_length, h2, hashC]
theorem hashC_set_all {kind : Int} {ws : List Int} {rest : List UInt8} {n all m : Int} (h1 : ws.length = 8) (h2 : rest.length = 64) : (hashC kind ws rest n all).set 74 (.int .i64 m) = hashC kind ws rest n m := by
  rw [hashC, List.set_cons_succ, List.set_append_right _ _ (by simp [h1]), List.set_append_right _ _ (by simp [h1, bc_length, h2])]
  simp [h1, bc_length, h2, hashC]
theorem hashC_set_rest {kind : Int} {ws : List Int} {rest : List UInt8} {n all : Int} (h1 : ws.length = 8) (h2 : rest.length = 64) (j : Nat) (hj : j < 64) (c : UInt8) : (hashC kind ws rest n all).set (9 + j) (.int .u8 (c.toNat : Int)) = hashC kind ws (rest.set j c) n all := by
  rw [hashC, show 9 + j = (8 + j) + 1 by omega, List.set_cons_succ, List.set_append_right _ _ (by simp [h1]), List.length_map, h1, show 8 + j - 8 = j by omega, List.set_append_left _ _ (by rw [bc_length]; omega)]
  simp [hashC, bc, List.map_set]

set_option maxRecDepth 100000 in
set_option maxHeartbeats 2000000 in
theorem add_c (w : World) (h : Nat) (kind : Int) (s : List Int × List UInt8 × Nat) (all : Int) (v : Value) (l : List UInt8) (H : BoxF w h (hashS kind s all)) (hg : goodH s) (hr : Rd w v l) (hne : l ≠ [] → v.ownBlock ≠ some h) :
    Calls Tryz.prog 202 #[.pointer (some ⟨h, 0, none⟩), v] w fun e w' => e = .returned (.tuple #[]) ∧ On h w w' ∧ BoxF w' h (hashS kind (feedH kind s l) all) := by
  have hmx := hr.le
  unfold maxLen at hmx
  have HR := Lib.hid hr
  obtain ⟨A, cap, rfl, hle, hm, hA, hc⟩ := id hr
  clear hr
  have H0 := Lib.hid H
  have HG := Lib.hid hg
  have HN := Lib.hid hne
  clear H hg hne hA hc
  obtain ⟨N, hN⟩ : ∃ N, N = l.length := ⟨_, rfl⟩
  rw [← hN] at hle hmx ⊢
  have HNN := Lib.hid hN
  clear hN
  go_enter Tryz.func202, Tryz.ntmps202
  go_wp2_with fail
  go_loopw [5, 8] (fun _ i W => ∃ k : Nat, k ≤ N ∧ i = .int .i64 k ∧ On h w W ∧ BoxF W h (hashS kind (feedH kind s (l.take k)) all)) (fun _ i _ => N - (intOf i).toNat)
  case atStart => exact ⟨0, Nat.zero_le _, rfl, On.refl _ _, H0.out⟩
  case round =>
    obtain ⟨k, hk, rfl, O, B⟩ := hrel
    by_cases hkN : k < N
    · have hb : (k : Int) < (N : Int) := by omega
      have hT := feedH_take kind s l k (by have := HNN.out; omega)
      have hG := goodH_feed kind (l.take k) HG.out
      obtain ⟨b, o, rfl, hcs⟩ : ∃ b o, A = some ⟨b, o, none⟩ ∧ ∀ j, j < l.length → wr.cell? ⟨b, o + j, none⟩ = some (.int .u8 ((l.getD j 0).toNat : Int)) := by
        have h4 := HR.out.onB O (HN.out (by intro e; have := HNN.out; subst e; simp at this; omega))
        obtain ⟨A', cap', hv, _, _, _, h4⟩ := h4
        injection hv with e1 e2 e3
        subst e1
        exact h4 (by intro e; have := HNN.out; subst e; simp at this; omega)
      have hck := hcs k (by have := HNN.out; omega)
      clear hcs
      generalize l.getD k 0 = c at hck hT
      obtain ⟨ws, r, n, hst⟩ : ∃ ws r n, feedH kind s (l.take k) = (ws, r, n) := ⟨_, _, _, rfl⟩
      rw [hst] at B hG hT
      obtain ⟨hw8, hr64, hn64⟩ := hG
      dsimp only at hw8 hr64 hn64
      have HT := Lib.hid hT
      clear hT hst
      unfold hashS at B
      dsimp only at B
      have hni : (n : Int) < 64 := by omega
      have p73 := B.at (hashC_n hw8 hr64)
      have q9 := B.at (hashC_rest (n := n) (kind := kind) (all := all) hw8 hr64 n hn64)
      have f9 := B.free (9 + n) (by rw [hashC_length, hw8, hr64]; omega)
      have B1 := (B.set (9 + n) (.int .u8 (c.toNat : Int))).ext (Ext.refl _).drew
      rw [hashC_set_rest hw8 hr64 n hn64] at B1
      have O1 := (O.set (9 + n) (.int .u8 (c.toNat : Int))).ext (Ext.refl _).drew
      have HW := Lib.hid hw8
      have HR6 := Lib.hid hr64
      have hr64' : (r.set n c).length = 64 := by simpa using hr64
      clear hw8 hr64
      go_wp2_with fail
      go_region
      all_goals
        clear p73 q9 f9 hck
        generalize World.drew (wr.setCell ⟨h, 9 + n, none⟩ (.int .u8 (c.toNat : Int))) = W1 at B1 O1 ⊢
        have p1 := B1.at (hashC_n HW.out hr64')
        have f1 := B1.free 73 (by rw [hashC_length, HW.out, hr64']; omega)
        have T1 : ∀ W : World, BoxF W h (hashC kind ws (r.set n c) ((n : Int) + 1) all) → n + 1 < 64 → BoxF W h (hashS kind (feedH kind s (l.take (k + 1))) all) := by
          intro W B h63
          rw [HT.out, stepH]
          dsimp only
          rw [if_pos h63]
          exact B
        have T2 : ∀ W : World, BoxF W h (hashC kind (comp kind ws (r.set n c)) (r.set n c) 0 all) → ¬ n + 1 < 64 → BoxF W h (hashS kind (feedH kind s (l.take (k + 1))) all) := by
          intro W B h63
          rw [HT.out, stepH]
          dsimp only
          rw [if_neg h63]
          exact B
        by_cases h63 : n + 1 < 64
        · have hni2 : (n : Int) + 1 < 64 := by omega
          go_wp2_with (first
            | ((with_reducible show wpList _ _ _ (⟨none, Op.store _ (Operand.tmp 27) _, _, _, _, _⟩ :: _) _ _); refine wpl_store_cell rfl _ _ _ rfl h 73 (.int .i64 ((n : Int) + 1)) rfl rfl rfl rfl (by kernel_rfl) B1 (by rw [hashC_length, HW.out, hr64']; omega) ?_; intro W2 B2 O2; rw [hashC_set_n HW.out hr64'] at B2; have p2 := B2.at (hashC_n HW.out hr64'))
            | fail)
          go_roundw
          case rel => exact ⟨k + 1, by omega, by go_num, O1.trans O2, T1 _ B2 h63⟩
          case measure => simp [intOf]; omega
        · obtain rfl : n = 63 := by omega
          by_cases hk1 : kind = 1
          · have hkb : (kind == 1) = true := by simpa using hk1
            go_wp2_with (first
              | ((with_reducible show wpList _ _ _ (⟨none, Op.store _ (Operand.tmp 27) _, _, _, _, _⟩ :: _) _ _); refine wpl_store_cell rfl _ _ _ rfl h 73 (.int .i64 64) rfl rfl rfl rfl (by kernel_rfl) B1 (by rw [hashC_length, HW.out, hr64']; omega) ?_; intro W2 B2 O2; rw [hashC_set_n HW.out hr64'] at B2; have p2 := B2.at (hashC_n HW.out hr64'))
              | ((with_reducible show wpList _ _ _ (⟨none, Op.store _ (Operand.tmp 35) _, _, _, _, _⟩ :: _) _ _); refine wpl_store_cell rfl _ _ _ rfl h 73 (.int .i64 0) rfl rfl rfl rfl (by kernel_rfl) B2 (by rw [hashC_length, HW.out, hr64']; omega) ?_; intro W3 B3 O3; rw [hashC_set_n HW.out hr64'] at B3; have p3 : W3.cell? ⟨h, 0, none⟩ = some (.int .i64 kind) := B3.at rfl)
              | (go_at_call 209; refine (block1_c _ h kind ws _ _ _ B3 HW.out hr64').mono ?_; rintro e W4 ⟨rfl, O4, B4⟩)
              | fail)
            go_roundw
            case rel => exact ⟨k + 1, by omega, by go_num, ((O1.trans O2).trans O3).trans O4, T2 _ (by rw [comp, if_pos hk1]; exact B4) h63⟩
            case measure => simp [intOf]; omega
          · have hkb : (kind == 1) = false := by simpa using hk1
            go_wp2_with (first
              | ((with_reducible show wpList _ _ _ (⟨none, Op.store _ (Operand.tmp 27) _, _, _, _, _⟩ :: _) _ _); refine wpl_store_cell rfl _ _ _ rfl h 73 (.int .i64 64) rfl rfl rfl rfl (by kernel_rfl) B1 (by rw [hashC_length, HW.out, hr64']; omega) ?_; intro W2 B2 O2; rw [hashC_set_n HW.out hr64'] at B2; have p2 := B2.at (hashC_n HW.out hr64'))
              | ((with_reducible show wpList _ _ _ (⟨none, Op.store _ (Operand.tmp 35) _, _, _, _, _⟩ :: _) _ _); refine wpl_store_cell rfl _ _ _ rfl h 73 (.int .i64 0) rfl rfl rfl rfl (by kernel_rfl) B2 (by rw [hashC_length, HW.out, hr64']; omega) ?_; intro W3 B3 O3; rw [hashC_set_n HW.out hr64'] at B3; have p3 : W3.cell? ⟨h, 0, none⟩ = some (.int .i64 kind) := B3.at rfl)
              | (go_at_call 210; refine (block2_c _ h kind ws _ _ _ B3 HW.out hr64').mono ?_; rintro e W4 ⟨rfl, O4, B4⟩)
              | fail)
            go_roundw
            case rel => exact ⟨k + 1, by omega, by go_num, ((O1.trans O2).trans O3).trans O4, T2 _ (by rw [comp, if_neg hk1]; exact B4) h63⟩
            case measure => simp [intOf]; omega
    · obtain rfl : k = N := by omega
      rw [HNN.out, List.take_length] at B
      go_wp2_with fail
      refine bodyPost_end (results_none rfl _ _ _) rfl ?_
      exact ⟨rfl, O, B⟩
end Go.Proofs.YtbodppfpmpmadaaGreat

namespace Go.Proofs.YtbodppfpmpmadaaGreat
open Go.RowKit

def start (kind : Int) : List Int := if kind = 1 then [1732584193, 4023233417, 2562383102, 271733878, 3285377520, 0, 0, 0] else [1779033703, 3144134277, 1013904242, 2773480762, 1359893119, 2600822924, 528734635, 1541459225]
theorem start_length (kind : Int) : (start kind).length = 8 := by unfold start; split <;> rfl
def initH (kind : Int) : List Int × List UInt8 × Nat := (start kind, List.replicate 64 0, 0)
theorem goodH_init (kind : Int) : goodH (initH kind) := ⟨start_length kind, rfl, by show 0 < 64; omega⟩

set_option maxRecDepth 100000 in
set_option maxHeartbeats 1000000 in
theorem starts_c (w : World) (kind : Int) : Calls Tryz.prog 200 #[.int .i64 kind] w fun e w' => e = .returned (.agg (wc (start kind)).toArray) ∧ Ext w w' := by
  by_cases hk : kind = 1
  · subst hk
    go_enter Tryz.func200, Tryz.ntmps200
    go_wp2_with (first
      | ((with_reducible show wpList _ _ _ (⟨some 2, Op.alloc _, _, _, _, _⟩ :: _) _ _); refine wpl_alloc rfl _ rfl (wc [0, 0, 0, 0, 0, 0, 0, 0]) (by kernel_rfl) ?_; intro w1 B1 hx1)
      | ((with_reducible show wpList _ _ _ (⟨none, Op.store _ _ _, _, _, _, _⟩ :: _) _ _); refine wpl_store_box rfl _ _ _ rfl w.heap.size (wc (start 1)) rfl rfl B1 (by kernel_rfl) (by kernel_rfl) (by kernel_rfl) ?_; intro w2 B2 O2)
      | fail)
    exact ret_box1 (p := 2) (ty := 183) rfl rfl rfl B2 Tryz.underlying183 rfl (by kernel_rfl) ⟨rfl, hx1.on O2 (Nat.le_refl _)⟩
  · have hkb : (kind == 1) = false := by simpa using hk
    have e : start kind = [1779033703, 3144134277, 1013904242, 2773480762, 1359893119, 2600822924, 528734635, 1541459225] := by rw [start, if_neg hk]
    rw [e]
    clear e
    go_enter Tryz.func200, Tryz.ntmps200
    go_wp2_with (first
      | ((with_reducible show wpList _ _ _ (⟨some 2, Op.alloc _, _, _, _, _⟩ :: _) _ _); refine wpl_alloc rfl _ rfl (wc [0, 0, 0, 0, 0, 0, 0, 0]) (by kernel_rfl) ?_; intro w1 B1 hx1)
      | ((with_reducible show wpList _ _ _ (⟨none, Op.store _ _ _, _, _, _, _⟩ :: _) _ _); refine wpl_store_box rfl _ _ _ rfl w.heap.size (wc [1779033703, 3144134277, 1013904242, 2773480762, 1359893119, 2600822924, 528734635, 1541459225]) rfl rfl B1 (by kernel_rfl) (by kernel_rfl) (by kernel_rfl) ?_; intro w2 B2 O2)
      | fail)
    exact ret_box1 (p := 2) (ty := 183) rfl rfl rfl B2 Tryz.underlying183 rfl (by kernel_rfl) ⟨rfl, hx1.on O2 (Nat.le_refl _)⟩

set_option maxRecDepth 100000 in
set_option maxHeartbeats 1000000 in
theorem new_c (w : World) (kind : Int) (hk : kind = 1 ∨ kind = 2) : Calls Tryz.prog 180 #[.int .i64 kind] w fun e w' => ∃ g, e = .returned (.tuple #[.pointer (some ⟨g, 0, none⟩), .int .i64 0]) ∧ w.heap.size ≤ g ∧ Ext w w' ∧ BoxF w' g (hashS kind (initH kind) 0) := by
  rcases hk with rfl | rfl
  · go_enter Tryz.func180, Tryz.ntmps180
    go_wp2_with (first
      | (go_at_call 200; refine (starts_c _ _).mono ?_; rintro e w1 ⟨rfl, hx1⟩)
      | fail)
    go_ret2
    exact ⟨_, rfl, Ext.size hx1, hx1.alloc _, BoxF.new w1 (hashS 1 (initH 1) 0) _⟩
  · go_enter Tryz.func180, Tryz.ntmps180
    go_wp2_with (first
      | (go_at_call 200; refine (starts_c _ _).mono ?_; rintro e w1 ⟨rfl, hx1⟩)
      | fail)
    go_ret2
    exact ⟨_, rfl, Ext.size hx1, hx1.alloc _, BoxF.new w1 (hashS 2 (initH 2) 0) _⟩

theorem none_c (w : World) (h : Nat) (kind : Int) (hk : kind ≠ 0) (hc : w.cell? ⟨h, 0, none⟩ = some (.int .i64 kind)) : Calls Tryz.prog 201 #[.pointer (some ⟨h, 0, none⟩)] w fun e w' => e = .returned (.bool false) ∧ w = w' := by
  have e1 : (kind == 0) = false := by simpa using hk
  go_enter Tryz.func201, Tryz.ntmps201
  go_wp2_with fail
  go_ret
  exact ⟨rfl, rfl⟩
set_option maxRecDepth 100000 in
set_option maxHeartbeats 1000000 in
theorem write_c (w : World) (h : Nat) (kind : Int) (s : List Int × List UInt8 × Nat) (all : Nat) (v : Value) (l : List UInt8) (H : BoxF w h (hashS kind s (all : Int))) (hg : goodH s) (hk : kind ≠ 0) (hr : Rd w v l) (hne : l ≠ [] → v.ownBlock ≠ some h) (hall : all + l.length ≤ 100000000) :
    Calls Tryz.prog 181 #[.pointer (some ⟨h, 0, none⟩), v] w fun e w' => e = .returned (.int .i64 0) ∧ On h w w' ∧ BoxF w' h (hashS kind (feedH kind s l) ((all + l.length : Nat) : Int)) := by
  have HK := Lib.hid hk
  have p0 : w.cell? ⟨h, 0, none⟩ = some (.int .i64 kind) := H.at rfl
  have P0 := Lib.hid p0
  have H0 := Lib.hid H
  have HG := Lib.hid hg
  obtain ⟨A, cap, rfl, hle, hm, hA, hc⟩ := id hr
  clear hk H hg p0 hA hc
  obtain ⟨N, hN⟩ : ∃ N, N = l.length := ⟨_, rfl⟩
  rw [← hN] at hall hle hr hne ⊢
  have HR := Lib.hid hr
  have HN := Lib.hid hne
  clear hr hne
  have HNN := Lib.hid hN
  clear hN
  have hG := goodH_feed kind l HG.out
  have HG1 := Lib.hid hG.1
  have HG2 := Lib.hid hG.2.1
  clear hG
  have hsum : ((all + N : Nat) : Int) = (all : Int) + (N : Int) := by omega
  rw [hsum]
  clear hsum
  go_enter Tryz.func181, Tryz.ntmps181
  go_wp2_with (first
    | (go_at_call 201; refine (none_c _ h kind HK.out P0.out).mono ?_; rintro e w1 ⟨rfl, rfl⟩)
    | (go_at_call 202; refine (add_c _ h kind s _ _ l H0.out HG.out HR.out HN.out).mono ?_; rintro e w1 ⟨rfl, O1, B1⟩; unfold hashS at B1; have p74 := B1.at (hashC_all HG1.out HG2.out))
    | ((with_reducible show wpList _ _ _ (⟨none, Op.store _ _ _, _, _, _, _⟩ :: _) _ _); refine wpl_store_cell rfl _ _ _ rfl h 74 (.int .i64 ((all : Int) + (N : Int))) rfl rfl rfl rfl (by kernel_rfl) B1 (by rw [hashC_length, HG1.out, HG2.out]; omega) ?_; intro W2 B2 O2; rw [hashC_set_all HG1.out HG2.out] at B2)
    | fail)
  go_ret
  exact ⟨rfl, O1.trans O2, B2⟩
end Go.Proofs.YtbodppfpmpmadaaGreat

namespace Go.Proofs.YtbodppfpmpmadaaGreat
open Go.RowKit

def lenC (all i : Nat) : UInt8 := UInt8.ofNat (all * 8 / 2 ^ (8 * i) % 256)
def tailH (all : Nat) : List UInt8 := [lenC all 7, lenC all 6, lenC all 5, lenC all 4, lenC all 3, lenC all 2, lenC all 1, lenC all 0]
def leftN (n : Nat) : Nat := (120 - n) % 64
def leftW (W : World) (g : Nat) : Nat := match W.cell? ⟨g, 73, none⟩ with | some (.int _ n) => leftN n.toNat | _ => 0
def padH (kind : Int) (s : List Int × List UInt8 × Nat) : List Int × List UInt8 × Nat := feedH kind (stepH kind s 128) (List.replicate (leftN (stepH kind s 128).2.2) 0)
def finH (kind : Int) (s : List Int × List UInt8 × Nat) (all : Nat) : List Int × List UInt8 × Nat := feedH kind (padH kind s) (tailH all)
def u8 (x : Int) : UInt8 := UInt8.ofNat (x % 256).toNat
def u4 (x : Int) : List UInt8 := [u8 (x / 16777216), u8 (x / 65536), u8 (x / 256), u8 x]
def outH (ws : List Int) : List UInt8 := ws.flatMap u4
def sumH (kind : Int) (s : List Int × List UInt8 × Nat) (all : Nat) : List UInt8 := outH (if kind = 1 then (finH kind s all).1.take 5 else (finH kind s all).1)

theorem goodH_pad (kind : Int) {s : List Int × List UInt8 × Nat} (h : goodH s) : goodH (padH kind s) := goodH_feed kind _ (goodH_step kind _ h)
theorem goodH_fin (kind : Int) {s : List Int × List UInt8 × Nat} (all : Nat) (h : goodH s) : goodH (finH kind s all) := goodH_feed kind _ (goodH_pad kind h)
theorem leftW_of {W : World} {g : Nat} {kind : Int} {s : List Int × List UInt8 × Nat} {all : Int} (B : BoxF W g (hashS kind s all)) (hg : goodH s) : leftW W g = leftN s.2.2 := by
  unfold leftW
  rw [B.at (hashC_n hg.1 hg.2.1)]
  rfl
theorem leftN_step (kind : Int) (s : List Int × List UInt8 × Nat) (c : UInt8) (hg : goodH s) (hn : s.2.2 ≠ 56) : leftN (stepH kind s c).2.2 + 1 = leftN s.2.2 := by
  have h := hg.2.2
  unfold stepH leftN
  split
  · dsimp only
    omega
  · dsimp only
    omega

theorem add1_c (w : World) (h : Nat) (kind : Int) (s : List Int × List UInt8 × Nat) (all : Int) (c : UInt8) (x : Int) (hx : x = (c.toNat : Int)) (H : BoxF w h (hashS kind s all)) (hg : goodH s) :
    Calls Tryz.prog 202 #[.pointer (some ⟨h, 0, none⟩), .slice (some ⟨w.heap.size, 0, none⟩) 1 1] (w.alloc (.cells #[.int .u8 x] 5)) fun e w' => e = .returned (.tuple #[]) ∧ On h w w' ∧ BoxF w' h (hashS kind (stepH kind s c) all) := by
  subst hx
  have hlt := H.lt
  refine (add_c _ h kind s all _ [c] (H.ext ((Ext.refl w).alloc _)) hg (rd_new w _ [c] rfl 1 rfl (by unfold maxLen; simp)) (fun _ => by simp [Value.ownBlock]; omega)).mono ?_
  rintro e w' ⟨rfl, O, B⟩
  exact ⟨rfl, (On.of ((Ext.refl w).alloc _)).trans O, B⟩

theorem lenC_int (all i : Nat) : ((lenC all i).toNat : Int) = (all : Int) * 8 / ((2 ^ (8 * i) : Nat) : Int) % 256 := by
  unfold lenC
  rw [UInt8.toNat_ofNat', Nat.mod_mod, Int.natCast_emod, Int.natCast_ediv, Int.natCast_mul]
  rfl
theorem feedH_tail (kind : Int) (S : List Int × List UInt8 × Nat) (all k : Nat) (c : UInt8) (hk : (tailH all)[k]? = some c) : feedH kind S ((tailH all).take (k + 1)) = stepH kind (feedH kind S ((tailH all).take k)) c := by
  rw [List.take_add_one, hk, feedH_append]
  rfl

theorem hashC_word {kind : Int} {ws : List Int} {rest : List UInt8} {n all : Int} (h1 : ws.length = 8) (j : Nat) (hj : j < 8) : (hashC kind ws rest n all)[1 + j]? = some (.int .u32 (ws.getD j 0)) := by
  rw [hashC, show 1 + j = j + 1 by omega, List.getElem?_cons_succ, List.getElem?_append_left (by simp [h1]; omega), List.getElem?_map, List.getElem?_eq_getElem (by omega), List.getD_eq_getElem?_getD, List.getElem?_eq_getElem (by omega)]
  rfl
theorem u8_int (x : Int) : ((u8 x).toNat : Int) = x % 256 := by
  unfold u8
  rw [UInt8.toNat_ofNat']
  omega
theorem u4_cells (x : Int) : (#[.int .u8 (x / 16777216 % 256), .int .u8 (x / 65536 % 256), .int .u8 (x / 256 % 256), .int .u8 (x % 256)] : Array Value) = (bc (u4 x)).toArray := by
  show _ = (#[Value.int .u8 ((u8 (x / 16777216)).toNat : Int), Value.int .u8 ((u8 (x / 65536)).toNat : Int), Value.int .u8 ((u8 (x / 256)).toNat : Int), Value.int .u8 ((u8 x).toNat : Int)] : Array Value)
  rw [u8_int, u8_int, u8_int, u8_int]
theorem outH_length (l : List Int) : (outH l).length = 4 * l.length := by
  induction l with
  | nil => rfl
  | cons x l ih => rw [outH, List.flatMap_cons, List.length_append, ← outH, ih]; simp [u4]; omega
theorem outH_take (l : List Int) (j : Nat) (hj : j < l.length) : outH (l.take (j + 1)) = outH (l.take j) ++ u4 (l.getD j 0) := by
  rw [List.take_add_one, List.getElem?_eq_getElem hj, List.getD_eq_getElem?_getD, List.getElem?_eq_getElem hj, outH, List.flatMap_append]
  simp [outH]

def hash0 : List Value := hashC 0 [0, 0, 0, 0, 0, 0, 0, 0] (List.replicate 64 0) 0 0

set_option maxRecDepth 100000 in
set_option maxHeartbeats 2000000 in
theorem sum_c (w : World) (h : Nat) (kind : Int) (s : List Int × List UInt8 × Nat) (all : Nat) (H : BoxF w h (hashS kind s (all : Int))) (hg : goodH s) (hk : kind ≠ 0) (hall : all ≤ 100000000) :
    Calls Tryz.prog 182 #[.pointer (some ⟨h, 0, none⟩)] w fun e w' => ∃ v, e = .returned v ∧ Own w' w.heap.size v (sumH kind s all) ∧ Ext w w' := by
  have HK := Lib.hid hk
  have p0 : w.cell? ⟨h, 0, none⟩ = some (.int .i64 kind) := H.at rfl
  have P0 := Lib.hid p0
  have H0 := Lib.hid H
  have HG := Lib.hid hg
  have hlen : (hashS kind s (all : Int)).length = 75 := by rw [hashS, hashC_length, hg.1, hg.2.1]
  have HL := Lib.hid hlen
  have hlt := H.lt
  have HLT := Lib.hid hlt
  clear hk H hg p0 hlen hlt
  have hone : (hashS kind s (all : Int)).all (·.oneCell') = true := by
    simp only [hashS, hashC, List.all_cons, List.all_append, List.all_eq_true, Bool.and_eq_true]
    refine ⟨rfl, ?_, ?_, rfl, rfl, fun _ h => by cases h⟩
    · intro x hx
      obtain ⟨b, _, rfl⟩ := List.mem_map.1 hx
      rfl
    · exact bc_one _
  go_enter Tryz.func182, Tryz.ntmps182
  go_wp2_with (first
    | (go_at_call 201; refine (none_c _ h kind HK.out P0.out).mono ?_; rintro e w1 ⟨rfl, rfl⟩)
    | ((with_reducible show wpList _ _ _ (⟨some 14, Op.load _ _, _, _, _, _⟩ :: _) _ _); refine wpl_load_box rfl _ _ rfl h rfl H0.out Tryz.underlying186 rfl (by rw [HL.out]; rfl) ?_)
    | ((with_reducible show wpList _ _ _ (⟨some 3, Op.alloc _, _, _, _, _⟩ :: _) _ _); refine wpl_alloc rfl _ rfl hash0 (by kernel_rfl) ?_; intro w1 B1 hx1)
    | ((with_reducible show wpList _ _ _ (⟨none, Op.store _ (Operand.tmp 3) (Operand.tmp 14), _, _, _, _⟩ :: _) _ _); refine wpl_store_box rfl _ _ _ rfl w.heap.size (hashS kind s (all : Int)) rfl rfl B1 (by rw [HL.out]; rfl) (by rw [HL.out]; rfl) hone ?_; intro w2 B2 O2)
    | (go_at_call 202; refine (add1_c _ w.heap.size kind s _ 128 _ rfl B2 HG.out).mono ?_; rintro e w3 ⟨rfl, O3, B3⟩)
    | fail)
  have hx2 := hx1.on O2 (Nat.le_refl _)
  have hx3 := hx2.on O3 (Nat.le_refl _)
  have hG3 := goodH_step kind 128 HG.out
  have HG3 := Lib.hid hG3
  obtain ⟨s1, hs1⟩ : ∃ s1, s1 = stepH kind s 128 := ⟨_, rfl⟩
  rw [← hs1] at B3 HG3
  have HS1 := Lib.hid hs1
  clear hs1 hG3
  obtain ⟨z, hz⟩ : ∃ z, z = leftN s1.2.2 := ⟨_, rfl⟩
  have HZ := Lib.hid hz
  clear hz
  go_loopw [18] (fun _ W => ∃ k : Nat, k + leftN (feedH kind s1 (List.replicate k 0)).2.2 = z ∧ BoxF W w.heap.size (hashS kind (feedH kind s1 (List.replicate k 0)) (all : Int)) ∧ Ext w W) (fun _ W => leftW W w.heap.size)
  case atStart => exact ⟨0, by rw [HZ.out]; exact Nat.zero_add _, B3, hx3⟩
  case round =>
    clear B1 hx1 B2 O2 B3 O3 hx2 hx3 hone
    obtain ⟨k, hkz, B, hx⟩ := hrel
    have hT : feedH kind s1 (List.replicate (k + 1) 0) = stepH kind (feedH kind s1 (List.replicate k 0)) 0 := by
      rw [List.replicate_succ', feedH_append]
      rfl
    have hG := goodH_feed kind (List.replicate k 0) HG3.out
    have hlw := leftW_of B hG
    obtain ⟨S, hS⟩ : ∃ S, S = feedH kind s1 (List.replicate k 0) := ⟨_, rfl⟩
    rw [← hS] at hkz B hT hG hlw
    have HB := Lib.hid B
    have HT := Lib.hid hT
    have HGS := Lib.hid hG
    have HLW := Lib.hid hlw
    have p73 := B.at (hashC_n hG.1 hG.2.1)
    have HS := Lib.hid hS
    clear hS hT B hG hlw
    by_cases h56 : S.2.2 = 56
    · have hn : ((S.2.2 : Int) != 56) = false := by simp [h56]
      have hk0 : k = leftN s1.2.2 := by rw [h56] at hkz; have := HZ.out; unfold leftN at hkz; simp at hkz; omega
      have p74 := (H0.out.ext hx).at (hashC_all HG.out.1 HG.out.2.1)
      have hall2 : (all : Int) ≤ 100000000 := by omega
      go_wp2_with fail
      have hpad : padH kind s = S := by
        rw [padH, ← HS1.out, ← hk0]
        exact HS.out.symm
      have HPAD := Lib.hid hpad
      have HX := Lib.hid hx
      have BB := HB.out
      clear hkz HT HLW p73 hn hk0 p74 hpad hx HZ
      go_loopw [5] (fun i W => ∃ k : Nat, k ≤ 8 ∧ i = .int .i64 (7 - (k : Int)) ∧ BoxF W w.heap.size (hashS kind (feedH kind S ((tailH all).take k)) (all : Int)) ∧ Ext w W) (fun i _ => (intOf i + 1).toNat)
      case atStart => exact ⟨0, Nat.zero_le _, rfl, BB, HX.out⟩
      case round =>
        clear BB
        obtain ⟨k, hk8, rfl, B, hx⟩ := hrel
        have hG := goodH_feed kind ((tailH all).take k) HGS.out
        have h8 : k = 0 ∨ k = 1 ∨ k = 2 ∨ k = 3 ∨ k = 4 ∨ k = 5 ∨ k = 6 ∨ k = 7 ∨ k = 8 := by omega
        rcases h8 with rfl | rfl | rfl | rfl | rfl | rfl | rfl | rfl | rfl
        · go_wp2_with (first
            | (go_at_call 202; refine (add1_c _ w.heap.size kind _ _ (lenC all 7) _ ?hx B hG).mono ?_; (case hx => (have e := lenC_int all 7; rw [show ((2 ^ (8 * 7) : Nat) : Int) = 72057594037927936 from rfl] at e; omega)); rintro e w3 ⟨rfl, O3, B3⟩)
            | fail)
          go_roundw
          case rel => exact ⟨1, by omega, rfl, by rw [feedH_tail kind S all 0 _ rfl]; exact B3, hx.on O3 (Nat.le_refl _)⟩
          case measure => simp [intOf]
        · go_wp2_with (first
            | (go_at_call 202; refine (add1_c _ w.heap.size kind _ _ (lenC all 6) _ ?hx B hG).mono ?_; (case hx => (have e := lenC_int all 6; rw [show ((2 ^ (8 * 6) : Nat) : Int) = 281474976710656 from rfl] at e; omega)); rintro e w3 ⟨rfl, O3, B3⟩)
            | fail)
          go_roundw
          case rel => exact ⟨2, by omega, rfl, by rw [feedH_tail kind S all 1 _ rfl]; exact B3, hx.on O3 (Nat.le_refl _)⟩
          case measure => simp [intOf]
        · go_wp2_with (first
            | (go_at_call 202; refine (add1_c _ w.heap.size kind _ _ (lenC all 5) _ ?hx B hG).mono ?_; (case hx => (have e := lenC_int all 5; rw [show ((2 ^ (8 * 5) : Nat) : Int) = 1099511627776 from rfl] at e; omega)); rintro e w3 ⟨rfl, O3, B3⟩)
            | fail)
          go_roundw
          case rel => exact ⟨3, by omega, rfl, by rw [feedH_tail kind S all 2 _ rfl]; exact B3, hx.on O3 (Nat.le_refl _)⟩
          case measure => simp [intOf]
        · go_wp2_with (first
            | (go_at_call 202; refine (add1_c _ w.heap.size kind _ _ (lenC all 4) _ ?hx B hG).mono ?_; (case hx => (have e := lenC_int all 4; rw [show ((2 ^ (8 * 4) : Nat) : Int) = 4294967296 from rfl] at e; omega)); rintro e w3 ⟨rfl, O3, B3⟩)
            | fail)
          go_roundw
          case rel => exact ⟨4, by omega, rfl, by rw [feedH_tail kind S all 3 _ rfl]; exact B3, hx.on O3 (Nat.le_refl _)⟩
          case measure => simp [intOf]
        · go_wp2_with (first
            | (go_at_call 202; refine (add1_c _ w.heap.size kind _ _ (lenC all 3) _ ?hx B hG).mono ?_; (case hx => (have e := lenC_int all 3; rw [show ((2 ^ (8 * 3) : Nat) : Int) = 16777216 from rfl] at e; omega)); rintro e w3 ⟨rfl, O3, B3⟩)
            | fail)
          go_roundw
          case rel => exact ⟨5, by omega, rfl, by rw [feedH_tail kind S all 4 _ rfl]; exact B3, hx.on O3 (Nat.le_refl _)⟩
          case measure => simp [intOf]
        · go_wp2_with (first
            | (go_at_call 202; refine (add1_c _ w.heap.size kind _ _ (lenC all 2) _ ?hx B hG).mono ?_; (case hx => (have e := lenC_int all 2; rw [show ((2 ^ (8 * 2) : Nat) : Int) = 65536 from rfl] at e; omega)); rintro e w3 ⟨rfl, O3, B3⟩)
            | fail)
          go_roundw
          case rel => exact ⟨6, by omega, rfl, by rw [feedH_tail kind S all 5 _ rfl]; exact B3, hx.on O3 (Nat.le_refl _)⟩
          case measure => simp [intOf]
        · go_wp2_with (first
            | (go_at_call 202; refine (add1_c _ w.heap.size kind _ _ (lenC all 1) _ ?hx B hG).mono ?_; (case hx => (have e := lenC_int all 1; rw [show ((2 ^ (8 * 1) : Nat) : Int) = 256 from rfl] at e; omega)); rintro e w3 ⟨rfl, O3, B3⟩)
            | fail)
          go_roundw
          case rel => exact ⟨7, by omega, rfl, by rw [feedH_tail kind S all 6 _ rfl]; exact B3, hx.on O3 (Nat.le_refl _)⟩
          case measure => simp [intOf]
        · go_wp2_with (first
            | (go_at_call 202; refine (add1_c _ w.heap.size kind _ _ (lenC all 0) _ ?hx B hG).mono ?_; (case hx => (have e := lenC_int all 0; rw [show ((2 ^ (8 * 0) : Nat) : Int) = 1 from rfl] at e; omega)); rintro e w3 ⟨rfl, O3, B3⟩)
            | fail)
          go_roundw
          case rel => exact ⟨8, by omega, rfl, by rw [feedH_tail kind S all 7 _ rfl]; exact B3, hx.on O3 (Nat.le_refl _)⟩
          case measure => simp [intOf]
        · rw [show ((7 : Int) - ((8 : Nat) : Int)) = -1 from rfl]
          have p0 : wr.cell? ⟨h, 0, none⟩ = some (.int .i64 kind) := (H0.out.ext hx).at rfl
          have hfin : feedH kind S (List.take 8 (tailH all)) = finH kind s all := by
            rw [finH, HPAD.out]
            rfl
          rw [hfin] at B hG
          have hsum : sumH kind s all = outH (if kind = 1 then (finH kind s all).1.take 5 else (finH kind s all).1) := rfl
          unfold hashS at B
          obtain ⟨hw8, hr64, _⟩ := hG
          generalize (finH kind s all).1 = ws at B hw8 hsum
          generalize (finH kind s all).2.1 = rst at B hr64
          generalize ((finH kind s all).2.2 : Int) = nn at B
          have HSUM := Lib.hid hsum
          clear hsum hfin
          by_cases hk1 : kind = 1
          · have hkb : (kind == 1) = true := by simpa using hk1
            have HK1 := Lib.hid hk1
            clear hk1
            go_wp2_with fail
            clear p0
            have OW0 : Own wr wr.heap.size (.slice none 0 0) (outH (ws.take 0)) := Own.nil wr _
            have BX0 : Box wr w.heap.size (hashC kind ws rst nn (all : Int)) := B.box
            have BL0 := Below.refl wr.heap.size wr
            go_loopw [7, 9, 50] (fun v _ i W => ∃ j : Nat, j ≤ 5 ∧ i = .int .i64 (j : Int) ∧ Own W wr.heap.size v (outH (ws.take j)) ∧ Box W w.heap.size (hashC kind ws rst nn (all : Int)) ∧ Below wr.heap.size wr W) (fun _ _ i _ => 5 - (intOf i).toNat)
            case atStart => exact ⟨0, Nat.zero_le _, rfl, OW0, BX0, BL0⟩
            case round =>
              clear OW0 BX0 BL0
              obtain ⟨j, hj, rfl, OW, BX, BL⟩ := hrel
              by_cases hjM : j < 5
              · have hji : (j : Int) < 5 := by omega
                have pj := BX.range (1 + j) _ (hashC_word hw8 j (by omega))
                rw [Nat.zero_add] at pj
                have ht := outH_take ws j (by omega)
                have hl := outH_length (ws.take j)
                rw [List.length_take, Nat.min_eq_left (by omega)] at hl
                generalize ws.getD j 0 = x at pj ht
                have hlen : (outH (ws.take j)).length + (u4 x).length ≤ 100000000 := by rw [hl]; simp [u4]; omega
                have HT := Lib.hid ht
                clear ht hl
                go_wp2_with (first
                  | ((with_reducible show AtS 67); refine wpl_append_rd bt (OW.ext ((Ext.refl _).alloc _)) (rd_new _ _ (u4 x) (u4_cells x) 4 rfl (by unfold maxLen; simp [u4])) rfl _ _ rfl rfl rfl hlen (Nat.le_trans (Below.size BL) (by simp)) ?_; intro v' w' OW' BL'; have BL2 := (BL.alloc (Below.size BL) _).trans BL'; have BX2 := (BX.ext ((Ext.refl _).alloc _)).below BL' B.lt)
                  | fail)
                go_roundw
                case rel => exact ⟨j + 1, by omega, by go_num, by rw [HT.out]; exact OW', BX2, BL2⟩
                case measure => simp [intOf]; omega
              · obtain rfl : j = 5 := by omega
                simp only [Int.cast_ofNat_Int]
                go_wp2_with fail
                go_ret
                refine ⟨_, rfl, ?_, hx.below BL (Ext.size hx)⟩
                rw [HSUM.out]
                rw [if_pos HK1.out]
                exact OW.more (Ext.size hx)
          · have hkb : (kind == 1) = false := by simpa using hk1
            have HK1 := Lib.hid hk1
            clear hk1
            go_wp2_with fail
            clear p0
            have OW0 : Own wr wr.heap.size (.slice none 0 0) (outH (ws.take 0)) := Own.nil wr _
            have BX0 : Box wr w.heap.size (hashC kind ws rst nn (all : Int)) := B.box
            have BL0 := Below.refl wr.heap.size wr
            go_loopw [7, 9, 50] (fun v _ i W => ∃ j : Nat, j ≤ 8 ∧ i = .int .i64 (j : Int) ∧ Own W wr.heap.size v (outH (ws.take j)) ∧ Box W w.heap.size (hashC kind ws rst nn (all : Int)) ∧ Below wr.heap.size wr W) (fun _ _ i _ => 8 - (intOf i).toNat)
            case atStart => exact ⟨0, Nat.zero_le _, rfl, OW0, BX0, BL0⟩
            case round =>
              clear OW0 BX0 BL0
              obtain ⟨j, hj, rfl, OW, BX, BL⟩ := hrel
              by_cases hjM : j < 8
              · have hji : (j : Int) < 8 := by omega
                have pj := BX.range (1 + j) _ (hashC_word hw8 j (by omega))
                rw [Nat.zero_add] at pj
                have ht := outH_take ws j (by omega)
                have hl := outH_length (ws.take j)
                rw [List.length_take, Nat.min_eq_left (by omega)] at hl
                generalize ws.getD j 0 = x at pj ht
                have hlen : (outH (ws.take j)).length + (u4 x).length ≤ 100000000 := by rw [hl]; simp [u4]; omega
                have HT := Lib.hid ht
                clear ht hl
                go_wp2_with (first
                  | ((with_reducible show AtS 67); refine wpl_append_rd bt (OW.ext ((Ext.refl _).alloc _)) (rd_new _ _ (u4 x) (u4_cells x) 4 rfl (by unfold maxLen; simp [u4])) rfl _ _ rfl rfl rfl hlen (Nat.le_trans (Below.size BL) (by simp)) ?_; intro v' w' OW' BL'; have BL2 := (BL.alloc (Below.size BL) _).trans BL'; have BX2 := (BX.ext ((Ext.refl _).alloc _)).below BL' B.lt)
                  | fail)
                go_roundw
                case rel => exact ⟨j + 1, by omega, by go_num, by rw [HT.out]; exact OW', BX2, BL2⟩
                case measure => simp [intOf]; omega
              · obtain rfl : j = 8 := by omega
                simp only [Int.cast_ofNat_Int]
                go_wp2_with fail
                go_ret
                refine ⟨_, rfl, ?_, hx.below BL (Ext.size hx)⟩
                rw [HSUM.out]
                rw [if_neg HK1.out]
                rw [List.take_of_length_le (by omega)] at OW
                exact OW.more (Ext.size hx)
    · have hn : ((S.2.2 : Int) != 56) = true := by simp; omega
      go_wp2_with (first
        | (go_at_call 202; refine (add1_c _ w.heap.size kind S _ 0 _ rfl HB.out HGS.out).mono ?_; rintro e w3 ⟨rfl, O3, B3⟩)
        | fail)
      go_roundw
      case rel => exact ⟨k + 1, by rw [HT.out]; have := leftN_step kind S 0 HGS.out h56; omega, by rw [HT.out]; exact B3, hx.on O3 (Nat.le_refl _)⟩
      case measure =>
        have := leftN_step kind S 0 HGS.out h56
        have h2 := leftW_of B3 (goodH_step kind 0 HGS.out)
        have h1 := HLW.out
        omega
end Go.Proofs.YtbodppfpmpmadaaGreat

namespace Go.Proofs.YtbodppfpmpmadaaGreat
open Go.RowKit

def sumP (kind : Int) (l : List UInt8) : List UInt8 := sumH kind (feedH kind (initH kind) l) l.length

end Go.Proofs.YtbodppfpmpmadaaGreat

namespace Go.Proofs.YtbodppfpmpmadaaGreat
open Go.RowKit

def checkE (n : List UInt8) : Int := if n.length = 20 ∧ n.contains 0 = false ∧ n.contains 36 = false then 0 else 2
def xorL (a b : List UInt8) : List UInt8 := List.zipWith (fun x y => x ^^^ y) a b
def storedP (kind : Int) (pw : List UInt8) : List UInt8 := if (kind = 1 ∨ kind = 2) ∧ pw ≠ [] then sumP kind (sumP kind pw) else []
def storedE (kind : Int) : Int := if kind = 1 ∨ kind = 2 then 0 else 2
def mixP (kind : Int) (nonce stored : List UInt8) : List UInt8 := if kind = 1 then sumP kind (nonce ++ stored) else sumP kind (stored ++ nonce)
def respP (kind : Int) (pw nonce : List UInt8) : List UInt8 := if checkE nonce = 0 ∧ pw ≠ [] then xorL (sumP kind pw) (mixP kind nonce (storedP kind pw)) else []
def sizeK (kind : Int) : Nat := if kind = 1 then 20 else if kind = 2 then 32 else 0
theorem checkE_or (n : List UInt8) : checkE n = 0 ∨ checkE n = 2 := by unfold checkE; split <;> simp
theorem checkE_len {n : List UInt8} (h : checkE n = 0) : n.length = 20 := by
  unfold checkE at h
  split at h
  · rename_i hh; exact hh.1
  · cases h
theorem sumP_len (kind : Int) (l : List UInt8) (hk : kind = 1 ∨ kind = 2) : (sumP kind l).length = sizeK kind := by
  have h := (goodH_fin kind (s := feedH kind (initH kind) l) l.length (goodH_feed kind l (goodH_init kind))).1
  unfold sumP sumH
  rw [outH_length]
  rcases hk with rfl | rfl
  · rw [if_pos rfl, List.length_take]; simp [sizeK]; omega
  · rw [if_neg (by decide)]; simp [sizeK]; omega
theorem sizeK_le (kind : Int) : sizeK kind ≤ 32 := by unfold sizeK; split <;> (try split) <;> omega
theorem mixP_len (kind : Int) (a b : List UInt8) (hk : kind = 1 ∨ kind = 2) : (mixP kind a b).length = sizeK kind := by
  unfold mixP; split <;> exact sumP_len kind _ hk
theorem xorL_length (a b : List UInt8) : (xorL a b).length = min a.length b.length := by simp [xorL]
theorem storedP_le (kind : Int) (pw : List UInt8) : (storedP kind pw).length ≤ 32 := by
  unfold storedP
  split
  · rename_i h; rw [sumP_len kind _ h.1]; exact sizeK_le kind
  · simp
theorem xorL_take (a b : List UInt8) (k : Nat) (h1 : k < a.length) (h2 : k < b.length) : xorL (a.take (k + 1)) (b.take (k + 1)) = xorL (a.take k) (b.take k) ++ [a.getD k 0 ^^^ b.getD k 0] := by
  unfold xorL
  rw [List.take_add_one, List.take_add_one, List.getElem?_eq_getElem h1, List.getElem?_eq_getElem h2, List.getD_eq_getElem?_getD, List.getD_eq_getElem?_getD, List.getElem?_eq_getElem h1, List.getElem?_eq_getElem h2]
  simp only [Option.toList_some, Option.getD_some]
  rw [List.zipWith_append (by rw [List.length_take, List.length_take]; omega)]
  rfl
theorem idx_has (c : UInt8) : ∀ l : List UInt8, (l.contains c = true → 0 ≤ Lib.indexByte l c) ∧ (l.contains c = false → Lib.indexByte l c = -1)
  | [] => by simp [Lib.indexByte]
  | a :: t => by
    have ih := idx_has c t
    unfold Lib.indexByte
    by_cases ha : a = c
    · subst ha; simp
    · have h1 : (a == c) = false := by simpa using ha
      have h3 : (a :: t).contains c = t.contains c := by
        rw [List.contains_cons]
        have : (c == a) = false := by simpa using Ne.symm ha
        rw [this, Bool.false_or]
      rw [h1, h3]
      by_cases hc : t.contains c = true
      · have h2 := ih.1 hc
        have : (Lib.indexByte t c == -1) = false := by rw [beq_eq_false_iff_ne]; omega
        rw [hc, this]
        exact ⟨fun _ => by show 0 ≤ Lib.indexByte t c + 1; omega, (fun h => by cases h)⟩
      · have hc' : t.contains c = false := by simpa using hc
        rw [hc', ih.2 hc']
        exact ⟨(fun h => by cases h), fun _ => rfl⟩
end Go.Proofs.YtbodppfpmpmadaaGreat

