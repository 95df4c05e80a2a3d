import Derived.Test.YtbodppfpmpmadaaGreatL8C
import Derived.Deep.RegionHeld3
import Derived.Test.YtbodppfpmpmadaaGreatL7C
import Derived.Test.YtbodppfpmpmadaaGreatL4C
namespace Go.Proofs.YtbodppfpmpmadaaGreat
open Go.RowKit

def hasC (c x : Int) : Bool := bits .and .u32 c x == x
theorem has_g (w : World) (c x : Int) (b : Bool) (h : hasC c x = b) : Calls Tryz.prog 83 #[.int .u32 c, .int .u32 x] w fun e w' => e = .returned (.bool b) ∧ w = w' := by
  have HB := Lib.hid h
  clear h
  go_enter Tryz.func83, Tryz.ntmps83
  go_wp2_with fail
  go_ret
  exact ⟨by rw [← HB.out]; rfl, rfl⟩

def Texts (w : World) (v : Value) (ss : List (List UInt8)) : Prop :=
  ∃ (A : Option Addr) (cap : Nat), v = .slice A ss.length cap ∧ ss.length ≤ cap ∧ cap ≤ maxLen ∧ (ss ≠ [] → ∃ b o, A = some ⟨b, o, none⟩ ∧ ∀ j, j < ss.length → w.cell? ⟨b, o + j, none⟩ = some (.string (strL (ss.getD j []))))
theorem Texts.at_ {w : World} {A : Option Addr} {n cap : Nat} {ss : List (List UInt8)} (h : Texts w (.slice A n cap) ss) (hn : 0 < n) : ∃ b o, A = some ⟨b, o, none⟩ ∧ n = ss.length ∧ ∀ j, j < n → w.cell? ⟨b, o + j, none⟩ = some (.string (strL (ss.getD j []))) := by
  obtain ⟨A', cap', hv, _, _, h4⟩ := h
  injection hv with e1 e2 e3
  subst e1 e2
  obtain ⟨b, o, rfl, hc⟩ := h4 (by intro e; subst e; simp at hn)
  exact ⟨b, o, rfl, rfl, hc⟩
theorem texts_new (w : World) (ss : List (List UInt8)) (cs : Array Value) (hc : cs = (ss.map (fun s => Value.string (strL s))).toArray) (t : TypeId) (g n : Nat) (hg : g = w.heap.size) (hn : n = ss.length) (hs : ss.length ≤ 1000) : Texts (w.alloc (.cells cs t)) (.slice (some ⟨g, 0, none⟩) n n) ss := by
  subst hg hc hn
  refine ⟨_, ss.length, rfl, Nat.le_refl _, by unfold maxLen; omega, fun _ => ⟨_, 0, rfl, fun j hj => ?_⟩⟩
  rw [Nat.zero_add]
  have := (Box.new w (ss.map (fun s => Value.string (strL s))) t) j (by simpa using hj)
  rw [this, List.getD_eq_getElem?_getD, List.getElem?_map, List.getElem?_eq_getElem hj, List.getD_eq_getElem?_getD, List.getElem?_eq_getElem hj]
  rfl
def plainP (ss : List (List UInt8)) : Bool := ss.all fun s => !s.contains 0

theorem idx_t (w : World) (s : List UInt8) (r : Int) (h : Lib.indexByte s 0 = r) : Calls Tryz.prog 178 #[.string (strL s), .int .u8 0] w fun e w' => e = .returned (.int .i64 r) ∧ w = w' := by
  subst h
  exact idx_s w (strL s) 0

set_option maxRecDepth 100000 in
theorem plain_g (w : World) (v : Value) (ss : List (List UInt8)) (b : Bool) (h : Texts w v ss) (hb : plainP ss = b) : Calls Tryz.prog 143 #[v] w fun e w' => e = .returned (.bool b) ∧ w = w' := by
  have H := Lib.hid h
  obtain ⟨A, cap, rfl, hle, hm, hz⟩ := h
  clear hz
  unfold maxLen at hm
  obtain ⟨N, hN⟩ : ∃ N, N = ss.length := ⟨_, rfl⟩
  rw [← hN] at H hle ⊢
  have HN := Lib.hid hN
  have HB := Lib.hid hb
  clear hN hb
  go_enter Tryz.func143, Tryz.ntmps143
  go_wp2_with fail
  go_loop [4, 7] (fun _ i => ∃ k : Nat, k ≤ N ∧ i = .int .i64 k ∧ Hid (∀ j, j < k → (ss.getD j []).contains 0 = false)) (fun _ i => N - (intOf i).toNat)
  case atStart => exact ⟨0, Nat.zero_le _, rfl, Lib.hid (fun j hj => absurd hj (by omega))⟩
  case round =>
    obtain ⟨k, hk, rfl, HG⟩ := hrel
    by_cases hkN : k < N
    · have hbk : (k : Int) < (N : Int) := by omega
      obtain ⟨b0, o0, rfl, hn2, hcs⟩ := H.out.at_ (by omega)
      have hck := hcs k hkN
      have hmem : ss.getD k [] ∈ ss := by rw [List.getD_eq_getElem?_getD, List.getElem?_eq_getElem (by have := HN.out; omega)]; exact List.getElem_mem _
      have hgood : (ss.getD k []).contains 0 = false → ∀ j, j < k + 1 → (ss.getD j []).contains 0 = false := fun h1 j hj => by
        rcases Nat.lt_or_ge j k with h | h
        · exact HG.out j h
        · obtain rfl : j = k := by omega
          exact h1
      clear hcs hn2
      generalize ss.getD k [] = s at hck hmem hgood
      have HM := Lib.hid hmem
      have HO := Lib.hid hgood
      clear hmem hgood
      by_cases hc : s.contains 0 = true
      · have h0 := (idx_has 0 s).1 hc
        obtain rfl : b = false := by
          rw [← HB.out]
          unfold plainP
          rw [List.all_eq_false]
          exact ⟨s, HM.out, by rw [hc]; simp⟩
        generalize hq : Lib.indexByte s 0 = q at h0
        have HQ := Lib.hid hq
        have hd : decide (0 ≤ q) = true := by simpa using h0
        clear hq hc
        go_wp2_with (go_at_call 178; refine (idx_t _ s q HQ.out).mono ?_; rintro e w1 ⟨rfl, rfl⟩)
        go_ret
        exact ⟨rfl, rfl⟩
      · have hc' : s.contains 0 = false := by simpa using hc
        have h0 := (idx_has 0 s).2 hc'
        have HQ := Lib.hid h0
        have HG2 := Lib.hid (HO.out hc')
        clear h0 hc hc'
        go_wp2_with (go_at_call 178; refine (idx_t _ s (-1) HQ.out).mono ?_; rintro e w1 ⟨rfl, rfl⟩)
        go_round
        case rel => exact ⟨k + 1, by omega, by go_num, HG2⟩
        case measure => simp [intOf]; omega
    · obtain rfl : k = N := by omega
      obtain rfl : b = true := by
        rw [← HB.out]
        unfold plainP
        rw [List.all_eq_true]
        intro s hs
        obtain ⟨j, hj, rfl⟩ := List.getElem_of_mem hs
        have := HG.out j (by have := HN.out; omega)
        rw [List.getD_eq_getElem?_getD, List.getElem?_eq_getElem hj] at this
        simpa using this
      go_wp2_with fail
      go_ret
      exact ⟨rfl, rfl⟩

theorem fixedA_g (w : World) (v : Value) (l : List UInt8) (x n : Int) (hr : Rd w v l) (hl : l.length ≤ 9000000) (h : fixOk x n = true) :
    Calls Tryz.prog 98 #[v, .int .u64 x, .int .i64 n] w (RetB w (l ++ fixB x n.toNat)) := by
  have HR := Lib.hid hr
  have hf : fixR l x n = (l ++ fixB x n.toNat, 0) := by unfold fixR; rw [if_pos h]
  have HF := Lib.hid hf
  clear hr hf h
  go_enter Tryz.func98, Tryz.ntmps98
  go_wp2_with (go_at_call 153; refine (appendFixed_at_len _ _ l _ _ _ _ HR.out hl HF.out).mono ?_; rintro e w1 ⟨v1, rfl, ho, hx⟩)
  go_ret
  exact ⟨_, rfl, ho, hx⟩
theorem endedA_g (w : World) (v : Value) (l s : List UInt8) (hr : Rd w v l) (hs : s.length ≤ 1000000) (hl : l.length ≤ 7000000) (h : s.contains 0 = false) :
    Calls Tryz.prog 96 #[v, .string (strL s)] w (RetB w (l ++ (s ++ [0]))) := by
  have HR := Lib.hid hr
  have HH := Lib.hid h
  have HZ := Lib.hid (show (strL s).size ≤ 1000000 by rw [strL_size]; exact hs)
  clear hr h
  go_enter Tryz.func96, Tryz.ntmps96
  go_wp2_with (go_at_call 152; refine (appendEnded_len _ _ l _ HR.out HZ.out hl).mono ?_; rintro e w1 hrz; obtain ⟨v1, rfl, ho, hx⟩ := hrz.2 HH.out)
  go_ret
  rw [strL_toList, List.append_assoc] at ho
  exact ⟨_, rfl, ho, hx⟩

set_option maxRecDepth 100000 in
set_option maxHeartbeats 1000000 in
theorem zeros_g1 (a w : World) (g : Nat) (s s' : List UInt8 × Int) (h : Rdr a w g s) (hx : r0 1 s = s') :
    Calls Tryz.prog 154 #[.pointer (some ⟨g, 0, none⟩), .int .i64 1] w (RetR a w g (.tuple #[]) s') := by
  obtain ⟨y, s1, hq⟩ : ∃ y s1, rB 1 s = (y, s1) := ⟨_, _, rfl⟩
  unfold r0 at hx
  rw [hq] at hx
  dsimp only at hx
  obtain ⟨c, hc⟩ : ∃ c, (y == List.replicate 1 0) = c := ⟨_, rfl⟩
  have hx2 : rW (!c) s1 = s' := by rw [← hx, ← hc]; rfl
  have HQ := Lib.hid hq
  have HC := Lib.hid hc
  have HX := Lib.hid hx2
  have H := Lib.hid h
  have hne := h.lt
  clear h hq hc hx hx2
  have hmk : ∀ w : World, (Instr.makeSlice 22 (.int .i64 1) (.int .i64 1)).run Tryz.prog w = .ok (.slice (some ⟨w.heap.size, 0, none⟩) 1 1) (w.alloc (.cells #[.int .u8 0] 5)) := fun _ => by kernel_rfl
  go_enter Tryz.func154, Tryz.ntmps154
  go_region_held3 (fun W' => On g w W')
    ((first | exact (On.refl g w).ext (Ext.refl _).drew | exact (On.refl g w).ext ((Ext.refl _).alloc _).drew | exact On.ext (by assumption) ((Ext.refl _).alloc _) | assumption | fail))
    (first
      | (go_at_call 80; go_must (refine (take_g a _ g s 1 y s1 ?_ (by omega) HQ.out).mono ?_; (first | exact H.out.grow (Ext.refl _).drew | exact H.out.grow ((Ext.refl _).alloc _).drew); rintro e wt ⟨vt, rfl, ht, Rt, Ot⟩; have hw := On.trans (by assumption) Ot))
      | (go_at_call 184; go_must (refine (equal_c _ _ _ y (List.replicate 1 0) ?_ ?_ c HC.out).mono ?_; (first | exact ht.rd | exact ht.rd.ext ((Ext.refl _).alloc _)); (first | exact ((rd_lit w _ (List.replicate 1 0) (by rfl) (by simp) 1 _ (by rfl) (by rfl)).ext (Ext.refl _).drew).onB Ot (by simp [Value.ownBlock]; omega) | exact rd_lit wt _ (List.replicate 1 0) (by rfl) (by simp) 1 _ (by rfl) (by rfl)); rintro e wq ⟨rfl, rfl⟩))
      | (go_at_call 79; go_must (refine (bad_g a _ g s1 s' (!c) ?_ HX.out).mono ?_; (first | exact Rt | exact Rt.grow ((Ext.refl _).alloc _)); rintro e wb ⟨rfl, Rb, Ob⟩; have hw := On.trans (by assumption) Ob))
      | fail)
  all_goals
    go_wp2_with fail
    refine bodyPost_end (results_none rfl _ _ _) rfl ?_
    exact ⟨rfl, Rb, by assumption⟩

set_option maxRecDepth 100000 in
set_option maxHeartbeats 1000000 in
theorem zeros_g10 (a w : World) (g : Nat) (s s' : List UInt8 × Int) (h : Rdr a w g s) (hx : r0 10 s = s') :
    Calls Tryz.prog 154 #[.pointer (some ⟨g, 0, none⟩), .int .i64 10] w (RetR a w g (.tuple #[]) s') := by
  obtain ⟨y, s1, hq⟩ : ∃ y s1, rB 10 s = (y, s1) := ⟨_, _, rfl⟩
  unfold r0 at hx
  rw [hq] at hx
  dsimp only at hx
  obtain ⟨c, hc⟩ : ∃ c, (y == List.replicate 10 0) = c := ⟨_, rfl⟩
  have hx2 : rW (!c) s1 = s' := by rw [← hx, ← hc]; rfl
  have HQ := Lib.hid hq
  have HC := Lib.hid hc
  have HX := Lib.hid hx2
  have H := Lib.hid h
  have hne := h.lt
  clear h hq hc hx hx2
  have hmk : ∀ w : World, (Instr.makeSlice 22 (.int .i64 10) (.int .i64 10)).run Tryz.prog w = .ok (.slice (some ⟨w.heap.size, 0, none⟩) 10 10) (w.alloc (.cells #[.int .u8 0, .int .u8 0, .int .u8 0, .int .u8 0, .int .u8 0, .int .u8 0, .int .u8 0, .int .u8 0, .int .u8 0, .int .u8 0] 5)) := fun _ => by kernel_rfl
  go_enter Tryz.func154, Tryz.ntmps154
  go_region_held3 (fun W' => On g w W')
    ((first | exact (On.refl g w).ext (Ext.refl _).drew | exact (On.refl g w).ext ((Ext.refl _).alloc _).drew | exact On.ext (by assumption) ((Ext.refl _).alloc _) | assumption | fail))
    (first
      | (go_at_call 80; go_must (refine (take_g a _ g s 10 y s1 ?_ (by omega) HQ.out).mono ?_; (first | exact H.out.grow (Ext.refl _).drew | exact H.out.grow ((Ext.refl _).alloc _).drew); rintro e wt ⟨vt, rfl, ht, Rt, Ot⟩; have hw := On.trans (by assumption) Ot))
      | (go_at_call 184; go_must (refine (equal_c _ _ _ y (List.replicate 10 0) ?_ ?_ c HC.out).mono ?_; (first | exact ht.rd | exact ht.rd.ext ((Ext.refl _).alloc _)); (first | exact ((rd_lit w _ (List.replicate 10 0) (by rfl) (by simp) 10 _ (by rfl) (by rfl)).ext (Ext.refl _).drew).onB Ot (by simp [Value.ownBlock]; omega) | exact rd_lit wt _ (List.replicate 10 0) (by rfl) (by simp) 10 _ (by rfl) (by rfl)); rintro e wq ⟨rfl, rfl⟩))
      | (go_at_call 79; go_must (refine (bad_g a _ g s1 s' (!c) ?_ HX.out).mono ?_; (first | exact Rt | exact Rt.grow ((Ext.refl _).alloc _)); rintro e wb ⟨rfl, Rb, Ob⟩; have hw := On.trans (by assumption) Ob))
      | fail)
  all_goals
    go_wp2_with fail
    refine bodyPost_end (results_none rfl _ _ _) rfl ?_
    exact ⟨rfl, Rb, by assumption⟩

set_option maxRecDepth 100000 in
set_option maxHeartbeats 1000000 in
theorem zeros_g23 (a w : World) (g : Nat) (s s' : List UInt8 × Int) (h : Rdr a w g s) (hx : r0 23 s = s') :
    Calls Tryz.prog 154 #[.pointer (some ⟨g, 0, none⟩), .int .i64 23] w (RetR a w g (.tuple #[]) s') := by
  obtain ⟨y, s1, hq⟩ : ∃ y s1, rB 23 s = (y, s1) := ⟨_, _, rfl⟩
  unfold r0 at hx
  rw [hq] at hx
  dsimp only at hx
  obtain ⟨c, hc⟩ : ∃ c, (y == List.replicate 23 0) = c := ⟨_, rfl⟩
  have hx2 : rW (!c) s1 = s' := by rw [← hx, ← hc]; rfl
  have HQ := Lib.hid hq
  have HC := Lib.hid hc
  have HX := Lib.hid hx2
  have H := Lib.hid h
  have hne := h.lt
  clear h hq hc hx hx2
  have hmk : ∀ w : World, (Instr.makeSlice 22 (.int .i64 23) (.int .i64 23)).run Tryz.prog w = .ok (.slice (some ⟨w.heap.size, 0, none⟩) 23 23) (w.alloc (.cells #[.int .u8 0, .int .u8 0, .int .u8 0, .int .u8 0, .int .u8 0, .int .u8 0, .int .u8 0, .int .u8 0, .int .u8 0, .int .u8 0, .int .u8 0, .int .u8 0, .int .u8 0, .int .u8 0, .int .u8 0, .int .u8 0, .int .u8 0, .int .u8 0, .int .u8 0, .int .u8 0, .int .u8 0, .int .u8 0, .int .u8 0] 5)) := fun _ => by kernel_rfl
  go_enter Tryz.func154, Tryz.ntmps154
  go_region_held3 (fun W' => On g w W')
    ((first | exact (On.refl g w).ext (Ext.refl _).drew | exact (On.refl g w).ext ((Ext.refl _).alloc _).drew | exact On.ext (by assumption) ((Ext.refl _).alloc _) | assumption | fail))
    (first
      | (go_at_call 80; go_must (refine (take_g a _ g s 23 y s1 ?_ (by omega) HQ.out).mono ?_; (first | exact H.out.grow (Ext.refl _).drew | exact H.out.grow ((Ext.refl _).alloc _).drew); rintro e wt ⟨vt, rfl, ht, Rt, Ot⟩; have hw := On.trans (by assumption) Ot))
      | (go_at_call 184; go_must (refine (equal_c _ _ _ y (List.replicate 23 0) ?_ ?_ c HC.out).mono ?_; (first | exact ht.rd | exact ht.rd.ext ((Ext.refl _).alloc _)); (first | exact ((rd_lit w _ (List.replicate 23 0) (by rfl) (by simp) 23 _ (by rfl) (by rfl)).ext (Ext.refl _).drew).onB Ot (by simp [Value.ownBlock]; omega) | exact rd_lit wt _ (List.replicate 23 0) (by rfl) (by simp) 23 _ (by rfl) (by rfl)); rintro e wq ⟨rfl, rfl⟩))
      | (go_at_call 79; go_must (refine (bad_g a _ g s1 s' (!c) ?_ HX.out).mono ?_; (first | exact Rt | exact Rt.grow ((Ext.refl _).alloc _)); rintro e wb ⟨rfl, Rb, Ob⟩; have hw := On.trans (by assumption) Ob))
      | fail)
  all_goals
    go_wp2_with fail
    refine bodyPost_end (results_none rfl _ _ _) rfl ?_
    exact ⟨rfl, Rb, by assumption⟩

end Go.Proofs.YtbodppfpmpmadaaGreat

namespace Go.Proofs.YtbodppfpmpmadaaGreat
open Go.RowKit

abbrev Pairs := List (List UInt8 × List UInt8)
def pairC (p : List UInt8 × List UInt8) : List Value := [.string (strL p.1), .string (strL p.2)]
def pairsC (ps : Pairs) : List (List Value) := ps.map pairC
def Attrs (w : World) (v : Value) (ps : Pairs) : Prop := Recs w 2 v (pairsC ps)
def OwnA (w : World) (base : Nat) (v : Value) (ps : Pairs) : Prop := OwnR 149 2 w base v (pairsC ps)
def attrB (p : List UInt8 × List UInt8) : List UInt8 := textB p.1 ++ textB p.2
def attrsB (ps : Pairs) : List UInt8 := ps.flatMap attrB
theorem pairsC_length (ps : Pairs) : (pairsC ps).length = ps.length := by simp [pairsC]
theorem pairsC_getD (ps : Pairs) (k : Nat) (h : k < ps.length) : (pairsC ps).getD k [] = pairC (ps.getD k ([], [])) := by
  simp [pairsC, List.getD_eq_getElem?_getD, List.getElem?_eq_getElem h]
theorem attrsB_take (ps : Pairs) (k : Nat) (h : k < ps.length) : attrsB (ps.take (k + 1)) = attrsB (ps.take k) ++ (textB (ps.getD k ([], [])).1 ++ textB (ps.getD k ([], [])).2) := by
  unfold attrsB
  rw [List.take_add_one, List.getElem?_eq_getElem h, List.getD_eq_getElem?_getD, List.getElem?_eq_getElem h, List.flatMap_append]
  simp [attrB]
theorem attrsB_le (ps : Pairs) (k : Nat) : (attrsB (ps.take k)).length ≤ (attrsB ps).length := by
  conv => rhs; rw [← List.take_append_drop k ps, attrsB, List.flatMap_append, List.length_append]
  show _ ≤ (attrsB _).length + _
  omega
theorem textB_len (s : List UInt8) : s.length ≤ (textB s).length := by unfold textB; rw [List.length_append]; omega
theorem text_a (w : World) (v : Value) (l s : List UInt8) (hr : Rd w v l) (hs : s.length ≤ 1000000) (hl : l.length ≤ 7000000) :
    Calls Tryz.prog 149 #[v, .string (strL s)] w (RetB w (l ++ textB s)) := appendText_len w v l (strL s) hr (by rw [strL_size]; exact hs) hl
theorem Attrs.ext {w w' : World} {v : Value} {ps : Pairs} (h : Attrs w v ps) (k : Ext w w') : Attrs w' v ps := Recs.ext h k

set_option maxRecDepth 100000 in
set_option maxHeartbeats 1000000 in
theorem attrsA_g (w : World) (v va : Value) (l : List UInt8) (ps : Pairs) (hr : Rd w v l) (ha : Attrs w va ps) (hl : l.length ≤ 5000000) (ht : (attrsB ps).length ≤ 900000) :
    Calls Tryz.prog 150 #[v, va] w (RetB w (l ++ textB (attrsB ps))) := by
  have HR := Lib.hid hr
  have HA := Lib.hid ha
  obtain ⟨A, cap, hva, hle, hm⟩ := ha.shape
  rw [pairsC_length] at hva hle
  unfold maxLen at hm
  obtain ⟨N, hN⟩ : ∃ N, N = ps.length := ⟨_, rfl⟩
  rw [← hN] at hva hle
  subst hva
  have HN := Lib.hid hN
  clear hr ha hN
  go_enter Tryz.func150, Tryz.ntmps150
  go_wp2_with fail
  have OW0 : Own w w.heap.size (.slice none 0 0) (attrsB (ps.take 0)) := Own.nil w _
  go_loopw [5, 7, 10] (fun u _ i W => ∃ k : Nat, k ≤ N ∧ i = .int .i64 k ∧ Own W w.heap.size u (attrsB (ps.take k)) ∧ Ext w W) (fun _ _ i _ => N - (intOf i).toNat)
  case atStart => exact ⟨0, Nat.zero_le _, rfl, OW0, Ext.refl _⟩
  case round =>
    clear OW0
    obtain ⟨k, hk, rfl, OW, hx⟩ := hrel
    by_cases hkN : k < N
    · have hbk : (k : Int) < (N : Int) := by omega
      obtain ⟨b0, o0, rfl, hn2, hcs⟩ := (HA.out.ext hx).at_ (by omega)
      have hck := hcs k hkN
      rw [pairsC_getD ps k (by have := HN.out; omega)] at hck
      have hB := attrsB_take ps k (by have := HN.out; omega)
      have hB2 := attrsB_le ps (k + 1)
      generalize ps.getD k ([], []) = p at hck hB
      obtain ⟨s1, s2⟩ := p
      have hs12 : (attrsB (ps.take (k + 1))).length = (attrsB (ps.take k)).length + ((textB s1).length + (textB s2).length) := by rw [hB, List.length_append, List.length_append]
      have hl1 := textB_len s1
      have hl2 := textB_len s2
      have HCK := Lib.hid hck
      have HB := Lib.hid hB
      have HOW := Lib.hid OW
      have hq1 : s1.length ≤ 1000000 ∧ s2.length ≤ 1000000 ∧ (attrsB (ps.take k)).length ≤ 1000000 ∧ (textB s1).length ≤ 1000000 := by omega
      have HQ := Lib.hid hq1
      clear hn2 hcs hck hB hB2 hs12 hl1 hl2 OW hq1
      go_wp2_with (first
        | ((with_reducible show AtS 13); refine wpl_load_rec rfl _ _ rfl b0 _ rfl HCK.out Tryz.underlying149 rfl (by kernel_rfl) ?_)
        | ((with_reducible show wpList _ _ _ (⟨some 7, Op.alloc _, _, _, _, _⟩ :: _) _ _); refine wpl_alloc rfl _ rfl [.string ByteArray.empty, .string ByteArray.empty] (by kernel_rfl) ?_; intro w1 B1 hx1)
        | ((with_reducible show wpList _ _ _ (⟨none, Op.store _ _ _, _, _, _, _⟩ :: _) _ _); refine wpl_store_box rfl _ _ _ rfl wr.heap.size (pairC (s1, s2)) rfl rfl B1 (by kernel_rfl) (by kernel_rfl) (by kernel_rfl) ?_; intro w2 B2 O2; have hx2 := hx1.on O2 (Nat.le_refl _))
        | fail)
      have c0 : w2.cell? ⟨wr.heap.size, 0, none⟩ = some (.string (strL s1)) := B2.at (j := 0) rfl
      have c1 : w2.cell? ⟨wr.heap.size, 1, none⟩ = some (.string (strL s2)) := B2.at (j := 1) rfl
      have HX2 := Lib.hid hx2
      have HC0 := Lib.hid c0
      have HC1 := Lib.hid c1
      have HX := Lib.hid (hx.trans hx2)
      have tok1 : True := trivial
      clear hx1 B1 O2 B2 hx2 c0 c1 hx
      go_region_held3 (fun W' => W'.cell? ⟨wr.heap.size, 0, none⟩ = some (.string (strL s1)) ∧ W'.cell? ⟨wr.heap.size, 1, none⟩ = some (.string (strL s2)) ∧ Ext w2 W')
        ((refine (fun h => ⟨Ext.cell h HC0.out, Ext.cell h HC1.out, h⟩) ?_; first | exact (Ext.refl _).drew | exact hx5 | exact hx4 | fail))
        (first
          | (go_at_call 149; have _t := tok1; go_must (go_split_ands; refine (text_a _ _ _ s1 (HOW.out.rd.ext (HX2.out.drew)) HQ.out.1 (by have := HQ.out.2.2.1; omega)).mono ?_; rintro e w4 ⟨v4, rfl, ho4, hy4⟩; have hx4 : Ext w2 w4 := Ext.trans (by assumption) hy4; clear tok1))
          | (go_at_call 149; go_must (go_split_ands; refine (text_a _ _ _ s2 ho4.rd HQ.out.2.1 (by rw [List.length_append]; have := HQ.out.2.2.1; have := HQ.out.2.2.2; omega)).mono ?_; rintro e w5 ⟨v5, rfl, ho5, hy5⟩; have hx5 : Ext w2 w5 := Ext.trans hx4 hy5))
          | fail)
      all_goals
        go_split_ands
        go_wp2_with fail
        rw [List.append_assoc, ← HB.out] at ho5
        go_roundw
        case rel => exact ⟨k + 1, by omega, by go_num, ho5.more (Ext.size (HX.out.trans hx4)), HX.out.trans hx5⟩
        case measure => simp [intOf]; omega
    · obtain rfl : k = N := by omega
      have e : ps.take k = ps := List.take_of_length_le (by have := HN.out; omega)
      rw [e] at OW
      clear e
      go_wp2_with (first
        | ((with_reducible show AtS 24); refine wpl_str bt OW.rd rfl _ rfl rfl ?_)
        | (go_at_call 149; refine (text_a _ _ _ (attrsB ps) (HR.out.ext hx) (by omega) (by omega)).mono ?_; rintro e w4 ⟨v4, rfl, ho4, hy4⟩)
        | fail)
      go_ret
      exact ⟨_, rfl, ho4.more (Ext.size hx), hx.trans hy4⟩
end Go.Proofs.YtbodppfpmpmadaaGreat

namespace Go.Proofs.YtbodppfpmpmadaaGreat
open Go.RowKit

def inA : Nat → List UInt8 × Int → Pairs × (List UInt8 × Int)
  | 0, s => ([], s)
  | n + 1, s => if 0 < s.1.length ∧ s.2 = 0 then (((rU s).1, (rU (rU s).2).1) :: (inA n (rU (rU s).2).2).1, (inA n (rU (rU s).2).2).2) else ([], s)
def badA (r : Pairs × (List UInt8 × Int)) : Bool := decide (r.2.2 ≠ 0) || decide (64 < r.1.length)
def rA (s : List UInt8 × Int) : Pairs × (List UInt8 × Int) :=
  if (rU s).2.2 = 0 then ((inA (rU s).1.length ((rU s).1, 0)).1, rW (badA (inA (rU s).1.length ((rU s).1, 0))) (rU s).2) else ([], (rU s).2)
theorem inA_end (n : Nat) (s : List UInt8 × Int) (h : ¬ (0 < s.1.length ∧ s.2 = 0)) : inA n s = ([], s) := by
  cases n with
  | zero => rfl
  | succ n => rw [inA, if_neg h]
theorem readT_pos {l x : List UInt8} {n : Nat} (h : readT l = (x, n, 0)) : 1 ≤ n := by
  obtain ⟨y, m, r, hq⟩ : ∃ y m r, readI l = (y, m, r) := ⟨_, _, _, rfl⟩
  unfold readT at h
  rw [hq] at h
  dsimp only at h
  split at h
  · rename_i h0
    subst h0
    have := readI_ok hq
    split at h
    · simp at h
    · simp only [Prod.mk.injEq] at h
      omega
  · rename_i h0
    simp only [Prod.mk.injEq] at h
    exact absurd h.2.2 h0
theorem rU_less {s s' : List UInt8 × Int} {x : List UInt8} (h : rU s = (x, s')) (h0 : s.2 = 0) (he : s'.2 = 0) : s'.1.length < s.1.length ∧ x.length ≤ s.1.length := by
  obtain ⟨y, m, r, hq⟩ : ∃ y m r, readT s.1 = (y, m, r) := ⟨_, _, _, rfl⟩
  unfold rU at h
  rw [if_pos h0, hq] at h
  dsimp only at h
  by_cases hr : r = 0
  · subst hr
    rw [if_pos rfl] at h
    have h1 := readT_pos hq
    have h2 := readT_le hq
    have h3 : y.length ≤ s.1.length := by
      unfold readT at hq
      split at hq
      · split at hq
        · simp at hq
        · simp only [Prod.mk.injEq] at hq
          rw [← hq.1, List.length_drop, List.length_take]
          omega
      · simp only [Prod.mk.injEq] at hq
        rw [← hq.1]; simp
    cases h
    exact ⟨by rw [List.length_drop]; omega, h3⟩
  · rw [if_neg hr] at h
    cases h
    exact absurd he hr
theorem rU_err {s : List UInt8 × Int} (h : s.2 ≠ 0) : rU s = ([], s) := by unfold rU; rw [if_neg h]
theorem rU_len (s : List UInt8 × Int) : (rU s).1.length ≤ s.1.length ∧ (rU s).2.1.length ≤ s.1.length := by
  obtain ⟨x, s', hq⟩ : ∃ x s', rU s = (x, s') := ⟨_, _, rfl⟩
  rw [hq]
  by_cases h0 : s.2 = 0
  · by_cases he : s'.2 = 0
    · have := rU_less hq h0 he; dsimp only; omega
    · unfold rU at hq
      rw [if_pos h0] at hq
      split at hq
      · cases hq; exact absurd rfl he
      · cases hq; simp
  · rw [rU_err h0] at hq
    cases hq
    simp
theorem On.onNew {g g2 : Nat} {b c d : World} (h : On g b c) (k : On g2 c d) (hg : b.heap.size ≤ g2) : On g b d :=
  ⟨k.os.trans h.os, k.tape.trans h.tape, k.output.trans h.output, Nat.le_trans h.size k.size, fun i hi hne => (k.block i (Nat.lt_of_lt_of_le hi h.size) (by intro e; cases e; omega)).trans (h.block i hi hne)⟩
theorem On.below {g B : Nat} {b c d : World} (h : On g b c) (k : Below B c d) (hg : b.heap.size ≤ B) : On g b d :=
  ⟨k.os.trans h.os, k.tape.trans h.tape, k.output.trans h.output, Nat.le_trans h.size (Below.size k), fun i hi hne => (k.block i (by omega)).trans (h.block i hi hne)⟩

def lenV (u : Value) : Nat := match u with | .slice _ n _ => n | _ => 0
def RetAt (a w : World) (g : Nat) (ps : Pairs) (s : List UInt8 × Int) (e : Ending) (w' : World) : Prop := ∃ v, e = .returned v ∧ OwnA w' w.heap.size v ps ∧ Rdr a w' g s ∧ On g w w'

set_option maxRecDepth 100000 in
set_option maxHeartbeats 2000000 in
theorem attrs_g (a w : World) (g : Nat) (s : List UInt8 × Int) (ps : Pairs) (s' : List UInt8 × Int) (h : Rdr a w g s) (hl : s.1.length ≤ 900000) (hx : rA s = (ps, s')) :
    Calls Tryz.prog 84 #[.pointer (some ⟨g, 0, none⟩)] w (RetAt a w g ps s') := by
  obtain ⟨x, s1, hq⟩ : ∃ x s1, rU s = (x, s1) := ⟨_, _, rfl⟩
  have hxl := (rU_len s).1
  unfold rA at hx
  rw [hq] at hx hxl
  dsimp only at hx hxl
  have H := Lib.hid h
  have HQ := Lib.hid hq
  have hgw := h.lt
  have hag := h.lo
  clear h hq
  by_cases he : s1.2 = 0
  · rw [if_pos he] at hx
    injection hx with hp hs'
    have HP := Lib.hid hp
    have HS' := Lib.hid hs'
    have HE := Lib.hid he
    have hsz : (strL x).size ≤ maxLen := by rw [strL_size]; unfold maxLen; omega
    have HSZ := Lib.hid hsz
    clear hp hs' hsz
    go_enter Tryz.func84, Tryz.ntmps84
    go_wp2_with (first
      | (go_at_call 137; refine (counted_g a _ g s x s1 H.out HQ.out).mono ?_; rintro e w1 ⟨rfl, R1, O1⟩; have c1 := R1.c1; rw [HE.out] at c1)
      | ((with_reducible show AtS 14); refine wpl_bytes bt _ HSZ.out rfl _ rfl rfl ?_; intro A2 m2 k2 w2 hr2 _ hx2; rw [strL_toList] at hr2)
      | fail)
    have R2 := Rdr.new hr2 0 114
    generalize hW3 : w2.alloc _ = W3 at R2 ⊢
    have hx3 : Ext w2 W3 := by rw [← hW3]; exact (Ext.refl _).alloc _
    have hsz3 : W3.heap.size = w2.heap.size + 1 := by rw [← hW3]; simp
    have RO : Rdr a W3 g s1 := R1.grow (hx2.trans hx3)
    have OO : On g w W3 := (O1.ext hx2).ext hx3
    have hg2 : w.heap.size ≤ w2.heap.size := Nat.le_trans O1.size (Ext.size hx2)
    have OA : OwnA W3 W3.heap.size (.slice none 0 0) [] := OwnR.nil _ _ _ _
    have hW23 : w2.heap.size ≤ W3.heap.size := by omega
    have hwW3 : w.heap.size ≤ W3.heap.size := by omega
    have hgW3 : g < W3.heap.size := by omega
    generalize hgg : w2.heap.size = g2 at R2 hsz3 hg2 ⊢
    have HSZ3 := Lib.hid hsz3
    clear hW3 hx3 hsz3 hgg hr2 hx2 c1 R1 O1
    go_loopw [5] (fun u W => ∃ done : Pairs, ∃ st : List UInt8 × Int, ∃ fuel : Nat, OwnA W W3.heap.size u done ∧ Rdr w2 W g2 st ∧ Rdr a W g s1 ∧ On g w W ∧ W3.heap.size ≤ W.heap.size ∧ done.length + fuel = x.length ∧ Hid (st.2 = 0 → st.1.length ≤ fuel) ∧ Hid (inA x.length (x, 0) = (done ++ (inA fuel st).1, (inA fuel st).2))) (fun u _ => x.length - lenV u)
    case atStart => exact ⟨[], (x, 0), x.length, OA, R2, RO, OO, Nat.le_refl _, by simp, Lib.hid (fun _ => Nat.le_refl _), Lib.hid rfl⟩
    case round =>
      clear R2 RO OO OA
      obtain ⟨done, st, fuel, OA, R2, RO, OO, hW, hlen, HF, HI⟩ := hrel
      obtain ⟨sl, se⟩ := st
      obtain ⟨Ad, cd, rfl, hd1, hd2⟩ := OA.recs.shape
      rw [pairsC_length] at OA hd1 ⊢
      unfold maxLen at hd2
      obtain ⟨vi, ci0, hri⟩ := R2.c0
      have ci1 := R2.c1
      dsimp only at hri ci1
      obtain ⟨Ai, ki, rfl, hli, hmi, _, _⟩ := hri
      unfold maxLen at hmi
      have HOA := Lib.hid OA
      have HR2 := Lib.hid R2
      have HRO := Lib.hid RO
      have HOO := Lib.hid OO
      have hlen2 : done.length ≤ x.length := by omega
      have HL := Lib.hid hlen
      clear OA R2 RO OO hlen
      by_cases h1 : 0 < sl.length
      · have h1i : 0 < (sl.length : Int) := by omega
        by_cases h2 : se = 0
        · subst h2
          have hfu := HF.out rfl
          dsimp only at hfu
          obtain ⟨f, rfl⟩ : ∃ f, fuel = f + 1 := ⟨fuel - 1, by omega⟩
          obtain ⟨x1, t1, hu1⟩ : ∃ x1 t1, rU (sl, 0) = (x1, t1) := ⟨_, _, rfl⟩
          obtain ⟨x2, t2, hu2⟩ : ∃ x2 t2, rU t1 = (x2, t2) := ⟨_, _, rfl⟩
          have hin : inA (f + 1) (sl, 0) = ((x1, x2) :: (inA f t2).1, (inA f t2).2) := by rw [inA, if_pos ⟨h1, rfl⟩, hu1, hu2]
          have hnew : inA x.length (x, 0) = ((done ++ [(x1, x2)]) ++ (inA f t2).1, (inA f t2).2) := by rw [HI.out, hin, List.append_assoc]; rfl
          have hful : t2.2 = 0 → t2.1.length ≤ f := fun h => by
            have e1 : t1.2 = 0 := by
              rcases Int.decEq t1.2 0 with h3 | h3
              · rw [rU_err h3] at hu2; cases hu2; exact absurd h h3
              · exact h3
            have := rU_less hu1 rfl e1
            have := rU_less hu2 e1 h
            dsimp only at *
            omega
          have HNEW := Lib.hid hnew
          have HFUL := Lib.hid hful
          have HU1 := Lib.hid hu1
          have HU2 := Lib.hid hu2
          have tok1 : True := trivial
          have hne : g ≠ g2 := by omega
          have hlt2 : g2 < W3.heap.size := by have := HSZ3.out; omega
          have hltg : g < W3.heap.size := by omega
          have HNE := Lib.hid hne
          clear hin hnew hful hu1 hu2 hfu hne
          go_wp2_with (first
            | (go_at_call 137; have _t := tok1; refine (counted_g w2 _ g2 _ x1 t1 HR2.out HU1.out).mono ?_; rintro e w4 ⟨rfl, R4, O4⟩; clear tok1)
            | (go_at_call 137; refine (counted_g w2 _ g2 _ x2 t2 R4 HU2.out).mono ?_; rintro e w5 ⟨rfl, R5, O5⟩; have OA5 := ((HOA.out.on O4 hlt2).on O5 hlt2); have hW5 := Nat.le_trans (Nat.le_trans hW O4.size) O5.size)
            | ((with_reducible show AtS 37); refine wpl_append_rec (z := .agg #[.string ByteArray.empty, .string ByteArray.empty]) (bytes := 32) Tryz.underlying73 (by kernel_rfl) (by kernel_rfl) (by omega) (by omega) OA5 (pairC (x1, x2)) rfl (by kernel_rfl) rfl _ _ rfl rfl _ rfl rfl (by rw [pairsC_length]; omega) hW5 ?_; intro v6 w6 OA6 hb6)
            | fail)
          have e6 : pairsC done ++ [pairC (x1, x2)] = pairsC (done ++ [(x1, x2)]) := by simp [pairsC]
          rw [e6] at OA6
          obtain ⟨A6, c6, hv6, _, _⟩ := OA6.recs.shape
          have hm6 : lenV v6 = done.length + 1 := by rw [hv6, pairsC_length]; simp [lenV]
          have R6 : Rdr w2 w6 g2 t2 := ⟨R5.lo, R5.ext.below hb6 (by have := Ext.size R5.ext; have := HSZ3.out; omega), (hb6.frozen hlt2).trans R5.f0, (hb6.frozen hlt2).trans R5.f1, (hb6.cell (p := ⟨g2, 1, none⟩) hlt2).trans R5.c1, by obtain ⟨v0, hc, hr⟩ := R5.c0; exact ⟨v0, (hb6.cell (p := ⟨g2, 0, none⟩) hlt2).trans hc, hr⟩⟩
          have RO5 := (HRO.out.on O4 HNE.out (by omega)).on O5 HNE.out (by omega)
          have RO6 : Rdr a w6 g s1 := ⟨RO5.lo, RO5.ext.below hb6 (by omega), (hb6.frozen hltg).trans RO5.f0, (hb6.frozen hltg).trans RO5.f1, (hb6.cell (p := ⟨g, 1, none⟩) hltg).trans RO5.c1, by obtain ⟨v0, hc, hr⟩ := RO5.c0; exact ⟨v0, (hb6.cell (p := ⟨g, 0, none⟩) hltg).trans hc, hr⟩⟩
          have OO6 : On g w w6 := ((HOO.out.onNew O4 hg2).onNew O5 hg2).below hb6 (by have := HSZ3.out; omega)
          have hW6 : W3.heap.size ≤ w6.heap.size := Nat.le_trans hW5 (Below.size hb6)
          go_roundw
          case rel => exact ⟨done ++ [(x1, x2)], t2, f, OA6, R6, RO6, OO6, hW6, by have := HL.out; rw [List.length_append]; simp; omega, HFUL, HNEW⟩
          case measure =>
            rw [hm6]
            show x.length - (done.length + 1) < x.length - done.length
            have := HL.out
            omega
        · have hb : (se != 0) = true := by simpa using h2
          have hb2 : (se == 0) = false := by simpa using h2
          have hin := inA_end fuel (sl, se) (fun h => h2 h.2)
          have hi := HI.out
          rw [hin, List.append_nil] at hi
          obtain rfl : ps = done := by rw [← HP.out, hi]
          have hbad : rW true s1 = s' := by
            rw [← HS'.out, hi]
            unfold badA
            rw [show decide ((ps, (sl, se)).2.2 ≠ 0) = true by simpa using h2, Bool.true_or]
          have HBAD := Lib.hid hbad
          clear hin hi hbad h2
          go_wp2_with (go_at_call 79; refine (bad_g a _ g s1 s' true HRO.out HBAD.out).mono ?_; rintro e w9 ⟨rfl, R9, O9⟩)
          go_ret
          exact ⟨_, rfl, (HOA.out.on O9 (by omega)).more (by have := HSZ3.out; omega), R9, HOO.out.trans O9⟩
      · obtain rfl : sl = [] := List.eq_nil_of_length_eq_zero (by omega)
        have hin := inA_end fuel (([] : List UInt8), se) (fun h => absurd h.1 (by simp))
        have hi := HI.out
        rw [hin, List.append_nil] at hi
        obtain rfl : ps = done := by rw [← HP.out, hi]
        by_cases h2 : se = 0
        · subst h2
          by_cases h64 : 64 < ps.length
          · have h64i : 64 < (ps.length : Int) := by omega
            have hbad : rW true s1 = s' := by
              rw [← HS'.out, hi]
              unfold badA
              rw [show decide (64 < (ps, (([] : List UInt8), (0 : Int))).1.length) = true by simpa using h64, Bool.or_true]
            have HBAD := Lib.hid hbad
            clear hin hi hbad h64
            go_wp2_with (go_at_call 79; refine (bad_g a _ g s1 s' true HRO.out HBAD.out).mono ?_; rintro e w9 ⟨rfl, R9, O9⟩)
            go_ret
            exact ⟨_, rfl, (HOA.out.on O9 (by omega)).more (by have := HSZ3.out; omega), R9, HOO.out.trans O9⟩
          · have h64i : ¬ 64 < (ps.length : Int) := by omega
            have hbad : rW false s1 = s' := by
              rw [← HS'.out, hi]
              unfold badA
              rw [show decide (64 < (ps, (([] : List UInt8), (0 : Int))).1.length) = false by simpa using h64, Bool.or_false]
              rfl
            have HBAD := Lib.hid hbad
            clear hin hi hbad h64
            go_wp2_with (go_at_call 79; refine (bad_g a _ g s1 s' false HRO.out HBAD.out).mono ?_; rintro e w9 ⟨rfl, R9, O9⟩)
            go_ret
            exact ⟨_, rfl, (HOA.out.on O9 (by omega)).more (by have := HSZ3.out; omega), R9, HOO.out.trans O9⟩
        · have hb : (se != 0) = true := by simpa using h2
          have hbad : rW true s1 = s' := by
            rw [← HS'.out, hi]
            unfold badA
            rw [show decide ((ps, (([] : List UInt8), se)).2.2 ≠ 0) = true by simpa using h2, Bool.true_or]
          have HBAD := Lib.hid hbad
          clear hin hi hbad h2
          go_wp2_with (go_at_call 79; refine (bad_g a _ g s1 s' true HRO.out HBAD.out).mono ?_; rintro e w9 ⟨rfl, R9, O9⟩)
          go_ret
          exact ⟨_, rfl, (HOA.out.on O9 (by omega)).more (by have := HSZ3.out; omega), R9, HOO.out.trans O9⟩
  · rw [if_neg he] at hx
    injection hx with h1 h2
    subst h1
    subst h2
    have hb : (s1.2 != 0) = true := by simpa using he
    clear he
    go_enter Tryz.func84, Tryz.ntmps84
    go_wp2_with (go_at_call 137; refine (counted_g a _ g s x s1 H.out HQ.out).mono ?_; rintro e w1 ⟨rfl, R1, O1⟩; have c1 := R1.c1)
    go_ret
    exact ⟨_, rfl, OwnR.nil _ _ _ _, R1, O1⟩
end Go.Proofs.YtbodppfpmpmadaaGreat

namespace Go.Proofs.YtbodppfpmpmadaaGreat
open Go.RowKit

theorem textB_size (s : List UInt8) : (textB s).length = sizeI s.length + s.length := by unfold textB; rw [List.length_append, intB_length]
theorem readT_cutG (s : List UInt8) (hs : s.length ≤ 100000000) (k : Nat) (hk : k < (textB s).length) : (readT ((textB s).take k)).2.2 = 4 := by
  have hl := intB_length s.length
  rw [textB_size] at hk
  by_cases h : k < (intB (s.length : Int)).length
  · have e : (textB s).take k = (intB (s.length : Int)).take k := by unfold textB; exact List.take_append_of_le_length (by omega)
    unfold readT
    rw [e, readI_take _ k h]
    dsimp only
    rw [if_neg (by decide)]
  · have e : (textB s).take k = intB (s.length : Int) ++ s.take (k - sizeI s.length) := by
      unfold textB
      rw [List.take_append, List.take_of_length_le (by omega), hl]
    rw [e]
    have hr := readI_intB (s.length : Int) (by omega) (by omega) (s.take (k - sizeI s.length))
    unfold readT
    rw [hr]
    dsimp only
    rw [if_pos rfl, if_pos]
    rw [List.length_append, hl, List.length_take]
    omega
theorem Sticky.rU : Sticky rU := fun s h => by rw [rU_err h]
theorem Eats.rU (s : List UInt8) (hs : s.length ≤ 100000000) : Eats rU (textB s) s := by
  refine ⟨fun t => ?_, fun k hk => ?_⟩
  · unfold Proofs.YtbodppfpmpmadaaGreat.rU
    rw [if_pos rfl]
    have := readT_textB s t (by omega)
    rw [this, if_pos rfl]
    dsimp only
    rw [← textB_size, List.drop_left]
  · have h4 := readT_cutG s hs k hk
    unfold Proofs.YtbodppfpmpmadaaGreat.rU
    rw [if_pos rfl, if_neg (by dsimp only; rw [h4]; decide)]
    exact h4
theorem readT_form {l x : List UInt8} {n : Nat} (h : readT l = (x, n, 0)) : (textB x).length ≤ n ∧ n ≤ l.length := by
  refine ⟨?_, readT_le h⟩
  obtain ⟨y, m, r, hq⟩ : ∃ y m r, readI l = (y, m, r) := ⟨_, _, _, rfl⟩
  unfold readT at h
  rw [hq] at h
  dsimp only at h
  split at h
  · rename_i h0
    subst h0
    have h1 := sizeI_of_readI hq
    have h2 := readI_ok hq
    split at h
    · simp at h
    · rename_i h3
      simp only [Prod.mk.injEq] at h
      rw [textB_size, ← h.1, List.length_drop, List.length_take]
      have e : (((min (m + y.toNat) l.length - m : Nat)) : Int) = y := by omega
      rw [e]
      omega
  · rename_i h0
    simp only [Prod.mk.injEq] at h
    exact absurd h.2.2 h0
theorem Inv.rU : Inv rU (fun c v => (textB v).length ≤ c.length) := fun l v l' h => by
  obtain ⟨y, m, r, hq⟩ : ∃ y m r, readT l = (y, m, r) := ⟨_, _, _, rfl⟩
  unfold Proofs.YtbodppfpmpmadaaGreat.rU at h
  rw [if_pos rfl, hq] at h
  dsimp only at h
  by_cases hr : r = 0
  · subst hr
    rw [if_pos rfl] at h
    injection h with h1 h2
    injection h2 with h3 _
    obtain ⟨h4, h5⟩ := readT_form hq
    refine ⟨l.take m, by rw [← h3, List.take_append_drop], ?_⟩
    show (textB v).length ≤ (l.take m).length
    rw [← h1, List.length_take]
    omega
  · rw [if_neg hr] at h
    injection h with _ h2
    injection h2 with _ h3
    exact absurd h3 hr

theorem attrB_pos (p : List UInt8 × List UInt8) : 2 ≤ (attrB p).length := by
  unfold attrB
  have h1 := (sizeI_le p.1.length).1
  have h2 := (sizeI_le p.2.length).1
  rw [List.length_append, textB_size, textB_size]
  omega
theorem inA_back : ∀ (ps : Pairs) (n : Nat), ps.length ≤ n → (∀ p ∈ ps, p.1.length ≤ 100000000 ∧ p.2.length ≤ 100000000) → inA n (attrsB ps, 0) = (ps, ([], 0))
  | [], n, _, _ => by
    have : attrsB [] = [] := rfl
    rw [this, inA_end n _ (by simp)]
  | p :: ps, 0, h, _ => by simp at h
  | p :: ps, n + 1, h, ho => by
    obtain ⟨h1, h2⟩ := ho p (by simp)
    have e : attrsB (p :: ps) = textB p.1 ++ (textB p.2 ++ attrsB ps) := by unfold attrsB; rw [List.flatMap_cons]; unfold attrB; rw [List.append_assoc]
    have hp := attrB_pos p
    have hl : 0 < (attrsB (p :: ps)).length := by
      rw [e, List.length_append, List.length_append]; unfold attrB at hp; rw [List.length_append] at hp; omega
    have g1 := (Eats.rU p.1 h1).1 (textB p.2 ++ attrsB ps)
    have g2 := (Eats.rU p.2 h2).1 (attrsB ps)
    rw [inA, if_pos ⟨hl, rfl⟩, e, g1]
    dsimp only
    rw [g2]
    dsimp only
    rw [inA_back ps n (by simpa using h) (fun q hq => ho q (by simp [hq]))]
theorem attrsB_len : ∀ ps : Pairs, ps.length ≤ (attrsB ps).length
  | [] => by simp
  | p :: ps => by
    have := attrsB_len ps
    have h2 := attrB_pos p
    unfold attrsB at this ⊢
    rw [List.flatMap_cons, List.length_append, List.length_cons]
    omega
def smallA (ps : Pairs) : Prop := ∀ p ∈ ps, p.1.length ≤ 100000000 ∧ p.2.length ≤ 100000000
theorem Sticky.rA : Sticky rA := fun s h => by
  unfold Proofs.YtbodppfpmpmadaaGreat.rA
  rw [rU_err h, if_neg h]
theorem Eats.rA (ps : Pairs) (h64 : ps.length ≤ 64) (hs : smallA ps) (hl : (attrsB ps).length ≤ 100000000) : Eats rA (textB (attrsB ps)) ps := by
  refine ⟨fun t => ?_, fun k hk => ?_⟩
  · have g := (Eats.rU (attrsB ps) hl).1 t
    unfold Proofs.YtbodppfpmpmadaaGreat.rA
    rw [g]
    dsimp only
    rw [if_pos rfl, inA_back ps _ (attrsB_len ps) hs]
    have hb : badA (ps, ([], 0)) = false := by unfold badA; simp; omega
    rw [hb, rW_false]
  · have g := (Eats.rU (attrsB ps) hl).2 k hk
    unfold Proofs.YtbodppfpmpmadaaGreat.rA
    rw [if_neg (by rw [g]; decide)]
    exact g
theorem rU_inv {s s' : List UInt8 × Int} {x : List UInt8} (h : rU s = (x, s')) (h0 : s.2 = 0) (he : s'.2 = 0) : (textB x).length + s'.1.length ≤ s.1.length := by
  obtain ⟨l, e⟩ := s
  obtain ⟨l', e'⟩ := s'
  dsimp only at h0 he
  subst h0 he
  obtain ⟨c, h1, h2⟩ := Inv.rU l x l' h
  dsimp only
  rw [h1, List.length_append]
  omega
theorem inA_inv : ∀ (n : Nat) (s : List UInt8 × Int), s.1.length ≤ n → s.2 = 0 → (inA n s).2.2 = 0 → (attrsB (inA n s).1).length ≤ s.1.length
  | 0, s, _, _, _ => by show (attrsB []).length ≤ _; simp [attrsB]
  | n + 1, s, h, h0, he => by
    by_cases hp : 0 < s.1.length
    · rw [inA, if_pos ⟨hp, h0⟩] at he ⊢
      dsimp only at he ⊢
      obtain ⟨x, s1, h1⟩ : ∃ x s1, rU s = (x, s1) := ⟨_, _, rfl⟩
      rw [h1] at he ⊢
      dsimp only at he ⊢
      obtain ⟨y, s2, h2⟩ : ∃ y s2, rU s1 = (y, s2) := ⟨_, _, rfl⟩
      rw [h2] at he ⊢
      dsimp only at he ⊢
      have e2 : s2.2 = 0 := by
        by_cases hc : s2.2 = 0
        · exact hc
        · rw [inA_end n s2 (fun hh => hc hh.2)] at he
          exact absurd he hc
      have e1 : s1.2 = 0 := by
        by_cases hc : s1.2 = 0
        · exact hc
        · have := Sticky.rU s1 hc
          rw [h2] at this
          exact absurd (this.symm.trans e2) hc
      have k1 := rU_inv h1 h0 e1
      have k2 := rU_inv h2 e1 e2
      have k3 := rU_less h1 h0 e1
      have k4 := rU_less h2 e1 e2
      have ih := inA_inv n s2 (by omega) e2 he
      have e : attrsB ((x, y) :: (inA n s2).1) = textB x ++ (textB y ++ attrsB (inA n s2).1) := by unfold attrsB; rw [List.flatMap_cons]; unfold attrB; rw [List.append_assoc]
      rw [e, List.length_append, List.length_append]
      omega
    · rw [inA_end _ s (fun hh => hp hh.1)]
      show (attrsB []).length ≤ _
      simp [attrsB]
theorem sizeI_mono {a b : Nat} (h : a ≤ b) : sizeI (a : Int) ≤ sizeI (b : Int) := by
  rcases intB_cases (a : Int) with ⟨h1, _, e1⟩ | ⟨h1, h2, _, e1⟩ | ⟨h1, h2, _, e1⟩ | ⟨h1, _, e1⟩ <;> rcases intB_cases (b : Int) with ⟨k1, _, f1⟩ | ⟨k1, k2, _, f1⟩ | ⟨k1, k2, _, f1⟩ | ⟨k1, _, f1⟩ <;> rw [e1, f1] <;> omega
theorem textB_mono {a b : List UInt8} (h : a.length ≤ b.length) : (textB a).length ≤ (textB b).length := by
  rw [textB_size, textB_size]
  have := sizeI_mono h
  omega
theorem Inv.rA : Inv rA (fun c v => (textB (attrsB v)).length ≤ c.length ∧ v.length ≤ 64 ∧ (attrsB v).length ≤ c.length) := fun l v l' h => by
  obtain ⟨x, s1, h1⟩ : ∃ x s1, Proofs.YtbodppfpmpmadaaGreat.rU (l, 0) = (x, s1) := ⟨_, _, rfl⟩
  unfold Proofs.YtbodppfpmpmadaaGreat.rA at h
  rw [h1] at h
  dsimp only at h
  obtain ⟨l1, e1⟩ := s1
  by_cases he : e1 = 0
  · subst he
    rw [if_pos rfl] at h
    injection h with h2 h3
    obtain ⟨c, hc, hr⟩ := Inv.rU l x l1 h1
    cases hb : badA (inA x.length (x, 0)) with
    | true => rw [hb, rW_true] at h3; simp [rE] at h3
    | false =>
      rw [hb, rW_false] at h3
      injection h3 with h4 _
      unfold badA at hb
      simp at hb
      rw [h2] at hb
      have hi := inA_inv x.length (x, 0) (Nat.le_refl _) rfl hb.1
      rw [h2] at hi
      dsimp only at hi
      have hm := textB_mono hi
      have hx := textB_len x
      exact ⟨c, by rw [hc, h4], by omega, by omega, by omega⟩
  · rw [if_neg he] at h
    injection h with _ h2
    injection h2 with _ h3
    exact absurd h3 he

section
variable {α : Type} {p : Rdp α} {z v : α} {c l : List UInt8}
theorem over_full (h : ∀ t, p (c ++ t, 0) = (v, (t, 0))) (f : List UInt8 × Int → List UInt8 × Int) (hf : f = rO) : (if (f (p (c, 0)).2).2 = 0 then (p (c, 0)).1 else z, (f (p (c, 0)).2).2) = (v, 0) := by
  subst hf
  have h1 := h []
  rw [List.append_nil] at h1
  rw [h1]
  have : rO ([], (0 : Int)) = ([], 0) := rfl
  dsimp only
  rw [this, if_pos rfl]
theorem over_inv {R : List UInt8 → α → Prop} (h : Inv p R) (hz : (rO (p (l, 0)).2).2 = 0) : R l (p (l, 0)).1 := by
  obtain ⟨v, l', e, hq⟩ : ∃ v l' e, p (l, 0) = (v, (l', e)) := ⟨_, _, _, rfl⟩
  rw [hq] at hz ⊢
  dsimp only at hz ⊢
  unfold rO rW at hz
  dsimp only at hz
  by_cases he : e = 0
  · subst he
    by_cases hl : 0 < l'.length
    · rw [if_pos ⟨rfl, by simpa using hl⟩] at hz
      simp at hz
    · have hl0 : l' = [] := List.eq_nil_of_length_eq_zero (by omega)
      subst hl0
      obtain ⟨c, hc, hr⟩ := h l v [] hq
      rw [List.append_nil] at hc
      rw [hc]
      exact hr
  · rw [if_neg (fun hh => he hh.1)] at hz
    exact absurd hz he
end
end Go.Proofs.YtbodppfpmpmadaaGreat

