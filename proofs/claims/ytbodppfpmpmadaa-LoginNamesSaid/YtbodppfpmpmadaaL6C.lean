import Derived.Test.YtbodppfpmpmadaaL5C
import Derived.Test.YtbodppfpmpmadaaL1C
import Derived.IntWalk
import Derived.Test.YtbodppfpmpmadaaL2C
import Derived.Laws.OwnMore
import Derived.Deep.QuietTactic
import Derived.BigQuiet
import Derived.Deep.RegionHeld3
import Derived.Test.YtbodppfpmpmadaaL4C
/- The contracts of the small functions of the package on replies: is a capability there, a fixed number behind bytes; an ERR, a file. -/
namespace Go.Proofs.Ytbodppfpmpmadaa
open Go.RowKit

/-- Is a capability there? -/
def hasB (c x : Int) : Bool := bits .and .u32 c x != 0

theorem has_at (w : World) (c x : Int) (r : Bool) (h : hasB c x = r) :
    Calls Try.prog 96 #[.int .u32 c, .int .u32 x] w fun e w' => e = .returned (.bool r) ∧ w = w' := by
  have H := Lib.hid h
  clear h
  go_enter Try.func96, Try.ntmps96
  go_wp2_with fail
  go_ret
  rw [← H.out]
  exact ⟨rfl, rfl⟩

theorem fixed_c (w : World) (v : Value) (l : List UInt8) (x n : Int) (hr : Rd w v l) (hl : l.length ≤ 9000000) (h : fixOk x n = true) :
    Calls Try.prog 94 #[v, .int .u64 x, .int .i64 n] w (RetB w (l ++ fixB x n.toNat)) := by
  have HR := Lib.hid hr
  have HK := Lib.hid h
  clear hr h
  go_enter Try.func94, Try.ntmps94
  go_wp2_with (go_at_call 55; refine (appendFixed_good_len _ _ _ _ _ HR.out hl HK.out).mono ?_; rintro e w1 ⟨v1, rfl, ho, hx⟩)
  go_ret
  exact ⟨_, rfl, ho, hx⟩

/-- An ERR. -/
def errB (c : Int) (s t : List UInt8) : List UInt8 := [255] ++ fixB c 2 ++ [35] ++ s ++ t

set_option maxRecDepth 100000 in
set_option maxHeartbeats 1000000 in
theorem appendErr_bad (w : World) (v : Value) (c : Int) (s t : ByteArray) (h : (s.size : Int) ≠ 5) (_hs : s.size ≤ 9223372036854775807) :
    Calls Try.prog 86 #[v, .agg #[.int .u16 c, .string s, .string t]] w (RetBE w [] 2) := by
  have hb : ((s.size : Int) == 5) = false := by simpa using h
  clear h
  go_enter Try.func86, Try.ntmps86
  go_wp2_with fail
  go_ret2
  exact ⟨_, rfl, Own.nil _ _, (Ext.refl _).alloc _⟩

theorem Box.held0 {W0 W : World} {g : Nat} {cs : List Value} {v : Value} (h : Box W0 g cs) (hv : cs.head? = some v) (k : Ext W0 W) : W.cell? ⟨g, 0, none⟩ = some v ∧ Ext W0 W := by
  cases cs with
  | nil => simp at hv
  | cons a b => simp at hv; subst hv; exact ⟨(h.ext k) 0 (by simp), k⟩

theorem Box.held2 {W0 W : World} {g j k : Nat} {cs : List Value} {v u : Value} (h : Box W0 g cs) (hv : cs[j]? = some v) (hu : cs[k]? = some u) (e : Ext W0 W) : W.cell? ⟨g, j, none⟩ = some v ∧ W.cell? ⟨g, k, none⟩ = some u ∧ Ext W0 W := by
  obtain ⟨hj, hv⟩ := List.getElem?_eq_some_iff.1 hv
  obtain ⟨hk, hu⟩ := List.getElem?_eq_some_iff.1 hu
  have h1 := (h.ext e) j hj
  have h2 := (h.ext e) k hk
  simp [List.getD, hj, hv] at h1
  simp [List.getD, hk, hu] at h2
  exact ⟨h1, h2, e⟩

set_option maxRecDepth 100000 in
set_option maxHeartbeats 1000000 in
theorem appendErr_good (w : World) (v : Value) (l : List UInt8) (c : Int) (s t : ByteArray) (hr : Rd w v l) (hl : l.length ≤ 1000000) (h : s.size = 5) (ht : t.size ≤ 1000000) (hc : 0 ≤ c ∧ c < 65536) :
    Calls Try.prog 86 #[v, .agg #[.int .u16 c, .string s, .string t]] w (RetBE w (l ++ errB c s.data.toList t.data.toList) 0) := by
  have HR := Lib.hid hr
  clear hr
  have hb : ((s.size : Int) == 5) = true := by simp [h]
  have HW := Lib.hid (show IntKind.u64.wrap c = c from IntWalk.u64_in c (by omega))
  have HK := Lib.hid (show fixOk c 2 = true by simp [fixOk]; omega)
  go_enter Try.func86, Try.ntmps86
  go_wp2_with fail
  generalize hW0 : w.alloc _ = W0
  have hbox : Box W0 w.heap.size [.int .u16 c, .string s, .string t] := by rw [← hW0]; exact Box.new w _ _
  have hx0 : Ext w W0 := by rw [← hW0]; exact (Ext.refl w).alloc _
  clear hW0
  have hlt : w.heap.size < W0.heap.size := World.block_lt_of_cell? W0 _ (hbox 0 (by simp))
  go_region_held3 (fun W' => W'.cell? ⟨w.heap.size, 0, none⟩ = some (.int .u16 c) ∧ Ext W0 W') ((go_split_ands; refine Box.held0 hbox (by simp) ?_; first | exact (Ext.refl _).drew | exact ((Ext.refl _).alloc _).drew | exact Ext.trans (by assumption) hx1 | exact Ext.below (by assumption) hb2 (Nat.le_refl _) | exact Ext.trans (by assumption) hx3 | exact Ext.alloc (by assumption) _))
    (first
      | (go_at_call 34; go_must (go_split_ands; refine (clone_c _ _ _ (HR.out.ext (hx0.trans (by assumption))) ?_).mono ?_; omega; rintro e w1 ⟨v1, rfl, ho1', hx1⟩; have ho1 := ho1'.more (base' := W0.heap.size) (Ext.size (by assumption)); clear ho1'))
      | (go_at_call 94; rw [HW.out]; go_must (go_split_ands; refine (fixed_c _ _ _ c 2 ho2.rd ?_ HK.out).mono ?_; (simp; omega); rintro e w3 ⟨v3, rfl, ho3', hx3⟩; have ho3 := ho3'.more (base' := W0.heap.size) (Ext.size (by assumption)); clear ho3'))
      | ((with_reducible show (if Region.wanted (⟨some 14, _, _, _, _, _⟩ : Oper) _ = true then _ else _)); go_split_ands; refine step_append_rd bt (ho1.ext ((Ext.refl _).alloc _)) (rd_lit w1 _ [255] (by rfl) (by simp) 1 _ (by rfl) (by rfl)) (by rfl) _ _ (by rfl) (by rfl) (by rfl) ?_ ?_ ?_; (simp; omega); (exact Ext.size (by assumption)); intro v2 w2 ho2 hb2)
      | ((with_reducible show (if Region.wanted (⟨some 14, _, _, _, _, _⟩ : Oper) _ = true then _ else _)); go_split_ands; refine step_append_rd bt ho1 ((rd_lit _ _ [255] (by rfl) (by simp) 1 _ (by rfl) (by rfl)).ext ((Ext.refl _).drew.trans hx1)) (by rfl) _ _ (by rfl) (by rfl) (by rfl) ?_ ?_ ?_; (simp; omega); (exact Ext.size (by assumption)); intro v2 w2 ho2 hb2))
  all_goals
    go_split_ands
    rename Ext W0 w3 => hx03
    have hc1 := (hbox.ext hx03) 1 (by simp)
    have hc2 := (hbox.ext hx03) 2 (by simp)
    have hf : (fixB c 2).length = 2 := fixB_length c 2
    clear hx1 hb2 hx3 ho1 ho2
    go_wp2_with fail
    go_region_held3 (fun W' => W'.cell? ⟨w.heap.size, 1, none⟩ = some (.string s) ∧ W'.cell? ⟨w.heap.size, 2, none⟩ = some (.string t) ∧ Ext W0 W') ((go_split_ands; refine Box.held2 hbox (j := 1) (k := 2) (by simp) (by simp) ?_; first | exact hx03.drew | exact (hx03.alloc _).drew | exact Ext.below (by assumption) hb4 (Nat.le_refl _)))
      (first
        | ((with_reducible show (if Region.wanted (⟨some 21, _, _, _, _, _⟩ : Oper) _ = true then _ else _)); go_split_ands; refine step_append_rd bt (ho3.ext (((Ext.refl _).alloc _).drew)) ((rd_lit w3 _ [35] (by rfl) (by simp) 1 _ (by rfl) (by rfl)).ext (Ext.refl _).drew) (by rfl) _ _ (by rfl) (by rfl) (by rfl) ?_ ?_ ?_; (simp; omega); (exact Ext.size (by assumption)); intro v4 w4 ho4 hb4)
        | ((with_reducible show (if Region.wanted (⟨some 24, _, _, _, _, _⟩ : Oper) _ = true then _ else _)); go_split_ands; refine step_append_st bt s ho4 (by rfl) _ _ (by rfl) (by rfl) (by rfl) ?_ ?_ ?_; (simp; omega); (exact Ext.size (by assumption)); clear hb4; intro v5 w5 ho5 hb4)
        | ((with_reducible show (if Region.wanted (⟨some 27, _, _, _, _, _⟩ : Oper) _ = true then _ else _)); go_split_ands; refine step_append_st bt t ho5 (by rfl) _ _ (by rfl) (by rfl) (by rfl) ?_ ?_ ?_; (simp; omega); (exact Ext.size (by assumption)); clear hb4; intro v6 w6 ho6 hb4))
    go_split_ands
    rename Ext W0 w6 => hx06
    clear hb4 ho5 ho4
    go_wp2_with fail
    go_ret2
    refine ⟨_, rfl, ?_, hx0.trans hx06⟩
    have := ho6.more (base' := w.heap.size) (by omega)
    simpa [errB] using this
end Go.Proofs.Ytbodppfpmpmadaa
/- Logins: a plugin's response; errors that are told. -/
namespace Go.Proofs.Ytbodppfpmpmadaa
open Go.RowKit

/-- A plugin's response. -/
def respPl (pl pw n : List UInt8) : List UInt8 := if pl == fastL then respP 2 pw n else respP 1 pw n
set_option maxHeartbeats 1000000 in
theorem dresponse_c (w : World) (pl pw : List UInt8) (vn : Value) (n : List UInt8) (hp : pw.length ≤ 1000000) (hn : Rd w vn n) :
    Calls Try.prog 70 #[.string (strL pl), .string (strL pw), vn] w fun e w' => ∃ v', e = .returned v' ∧ Rd w' v' (respPl pl pw n) ∧ Ext w w' := by
  have HN := Lib.hid hn
  have HP := Lib.hid (show (strL pw).size ≤ 1000000 by rw [strL_size]; exact hp)
  obtain ⟨q5, e5⟩ : ∃ q, q = (pl == fastL) := ⟨_, rfl⟩
  have g5 : ((strL pl).toList == [99, 97, 99, 104, 105, 110, 103, 95, 115, 104, 97, 50, 95, 112, 97, 115, 115, 119, 111, 114, 100]) = q5 := by rw [strL_tl]; exact e5.symm
  unfold respPl
  rw [← e5]
  clear e5 hn
  cases q5 with
  | true =>
    go_enter Try.func70, Try.ntmps70
    go_wp2_with (first
      | (go_at_call 87; refine (fast_c _ (strL pw) _ n HP.out HN.out).mono ?_; rintro e w1 ⟨v1, rfl, hr1, hx1⟩)
      | fail)
    go_ret
    exact ⟨_, rfl, hr1, hx1⟩
  | false =>
    go_enter Try.func70, Try.ntmps70
    go_wp2_with (first
      | (go_at_call 5; refine (ntv_c _ (strL pw) _ n HP.out HN.out).mono ?_; rintro e w1 ⟨v1, rfl, hr1, hx1⟩)
      | fail)
    go_ret
    exact ⟨_, rfl, hr1, hx1⟩
end Go.Proofs.Ytbodppfpmpmadaa
/- Logins: errors that are told. -/
namespace Go.Proofs.Ytbodppfpmpmadaa
open Go.RowKit

/-- A list of lists of bytes, all of it in blocks from base on. -/
def ListsN (w : World) (base : Nat) (v : Value) (ls : List (List UInt8)) : Prop :=
  ∃ (A : Option Addr) (cap : Nat), v = .slice A ls.length cap ∧ ls.length ≤ cap ∧ cap ≤ maxLen ∧
    (ls ≠ [] → ∃ b o, A = some ⟨b, o, none⟩ ∧ base ≤ b ∧ ∀ j, j < ls.length → ∃ u, w.cell? ⟨b, o + j, none⟩ = some u ∧ Own w base u (ls.getD j []))
theorem ListsN.lists {w : World} {base : Nat} {v : Value} {ls : List (List UInt8)} (h : ListsN w base v ls) : Lists w v ls := by
  obtain ⟨A, cap, h1, h2, h3, h4⟩ := h
  refine ⟨A, cap, h1, h2, h3, fun hn => ?_⟩
  obtain ⟨b, o, hA, _, hc⟩ := h4 hn
  refine ⟨b, o, hA, fun j hj => ?_⟩
  obtain ⟨u, hu, ho⟩ := hc j hj
  exact ⟨u, hu, ho.rd⟩
theorem own_far {g base : Nat} {w w' : World} {v : Value} {l : List UInt8} (h : Own w base v l) (k : On g w w') (hg : g < base) : Own w' base v l :=
  World.ownsRow.kept h k (.inr (fun e => by have := (World.ownsRow.lt h g e).1; omega))
theorem ListsN.on {g : Nat} {w w' : World} {base : Nat} {v : Value} {ls : List (List UInt8)} (h : ListsN w base v ls) (k : On g w w') (hg : g < base) : ListsN w' base v ls := by
  obtain ⟨A, cap, h1, h2, h3, h4⟩ := h
  refine ⟨A, cap, h1, h2, h3, fun hn => ?_⟩
  obtain ⟨b, o, hA, hb, hc⟩ := h4 hn
  refine ⟨b, o, hA, hb, fun j hj => ?_⟩
  obtain ⟨u, hu, ho⟩ := hc j hj
  exact ⟨u, k.cell hu (by show b ≠ g; omega), own_far ho k hg⟩
theorem ListsN.more {w : World} {base base' : Nat} {v : Value} {ls : List (List UInt8)} (h : ListsN w base v ls) (hb : base' ≤ base) : ListsN w base' v ls := by
  obtain ⟨A, cap, h1, h2, h3, h4⟩ := h
  refine ⟨A, cap, h1, h2, h3, fun hn => ?_⟩
  obtain ⟨b, o, hA, hB, hc⟩ := h4 hn
  refine ⟨b, o, hA, by omega, fun j hj => ?_⟩
  obtain ⟨u, hu, ho⟩ := hc j hj
  exact ⟨u, hu, ho.more hb⟩
theorem lists_one {w : World} {base g : Nat} {u : Value} {l : List UInt8} (hg : base ≤ g) (hb : w.cell? ⟨g, 0, none⟩ = some u) (hr : Own w base u l) : ListsN w base (.slice (some ⟨g, 0, none⟩) 1 1) [l] := by
  refine ⟨_, 1, rfl, Nat.le_refl _, by unfold maxLen; simp, fun _ => ⟨g, 0, rfl, hg, fun j hj => ?_⟩⟩
  have e : j = 0 := by simpa using hj
  subst e
  exact ⟨u, hb, hr⟩
/-- A list of lists is given. -/
def RetL (w : World) (ls : List (List UInt8)) (e : Ending) (w' : World) : Prop := ∃ v, e = .returned v ∧ ListsN w' w.heap.size v ls ∧ Ext w w'
set_option maxHeartbeats 1000000 in
theorem wrong_c (w : World) (c : Int) (s t : ByteArray) (hs : s.size = 5) (ht : t.size ≤ 1000000) (hc : 0 ≤ c ∧ c < 65536) :
    Calls Try.prog 64 #[.int .u16 c, .string s, .string t] w (RetL w [errB c s.data.toList t.data.toList]) := by
  have HS := Lib.hid hs
  have HT := Lib.hid ht
  have HC := Lib.hid hc
  clear hs ht hc
  go_enter Try.func64, Try.ntmps64
  go_wp2_with (go_at_call 86; refine (appendErr_good _ _ [] c s t (Rd.nil _) (by simp) HS.out HT.out HC.out).mono ?_; rintro e w1 ⟨v1, rfl, ho1, hx1⟩; obtain ⟨A1, c1, hv1, _⟩ := id ho1.rd; subst hv1)
  go_ret
  refine ⟨_, rfl, lists_one (u := _) (Ext.size hx1) (Box.new w1 [_] _ 0 (by simp)) (ho1.ext ((Ext.refl _).alloc _)), hx1.trans ((Ext.refl _).alloc _)⟩
def oddL : List UInt8 := errB 1043 [48, 56, 83, 48, 49] [98, 97, 100, 32, 104, 97, 110, 100, 115, 104, 97, 107, 101]
def refusedL : List UInt8 := errB 1045 [50, 56, 48, 48, 48] [97, 99, 99, 101, 115, 115, 32, 100, 101, 110, 105, 101, 100]
theorem odd_c (w : World) : Calls Try.prog 39 #[] w (RetL w [oddL]) := by
  go_enter Try.func39, Try.ntmps39
  go_wp2_with (go_at_call 64; refine (wrong_c _ 1043 _ _ rfl (by decide) (by omega)).mono ?_; rintro e w1 ⟨v1, rfl, hl1, hx1⟩)
  go_ret
  exact ⟨_, rfl, hl1, hx1⟩
theorem refused_c (w : World) : Calls Try.prog 67 #[] w (RetL w [refusedL]) := by
  go_enter Try.func67, Try.ntmps67
  go_wp2_with (go_at_call 64; refine (wrong_c _ 1045 _ _ rfl (by decide) (by omega)).mono ?_; rintro e w1 ⟨v1, rfl, hl1, hx1⟩)
  go_ret
  exact ⟨_, rfl, hl1, hx1⟩
end Go.Proofs.Ytbodppfpmpmadaa
/- The contracts of the functions that write and read counted texts. -/
namespace Go.Proofs.Ytbodppfpmpmadaa
open Go.RowKit

/-- Three results of a text's reading; nothing turns. -/
def RetT (w : World) (r : List UInt8 × Nat × Int) (e : Ending) (w' : World) : Prop := e = .returned (.tuple #[.string (strL r.1), .int .i64 (r.2.1 : Int), .int .i64 r.2.2]) ∧ w = w'

set_option maxHeartbeats 400000 in
theorem appendText_len (w : World) (v : Value) (l : List UInt8) (s : ByteArray) (hr : Rd w v l) (hs : s.size ≤ 1000000) (hl : l.length ≤ 7000000) :
    Calls Try.prog 45 #[v, .string s] w (RetB w (l ++ textB s.data.toList)) := by
  have HR := Lib.hid hr
  clear hr
  have hi := intB_length (s.size : Int)
  have hi2 := sizeI_le (s.size : Int)
  rw [← hi] at hi2
  clear hi
  have HE := Lib.hid (show intB (s.size : Int) ++ s.data.toList = textB s.data.toList by unfold textB; rw [size_toList])
  go_enter Try.func45, Try.ntmps45
  go_wp2_with (first | (go_at_call 74; refine (appendInt_len _ _ _ (s.size : Int) HR.out (by omega) (by omega) (by omega)).mono ?_; rintro e w1 ⟨v1, rfl, ho1, hx1⟩) | (at_builtin; refine wpl_append_st bt s ho1 rfl _ _ rfl rfl rfl (by rw [List.length_append]; omega) (Ext.size hx1) ?_; intro v2 w2 ho2 hb2))
  go_ret
  refine ⟨_, rfl, ?_, hx1.below hb2 (Nat.le_refl _)⟩
  rw [← HE.out, ← List.append_assoc]
  exact ho2

theorem readInt_at_len (w : World) (v : Value) (l : List UInt8) (x : Int) (n : Nat) (r : Int) (hr : Rd w v l) (h : readI l = (x, n, r)) :
    Calls Try.prog 93 #[v] w fun e w' => e = .returned (.tuple #[.int .u64 x, .int .i64 n, .int .i64 r]) ∧ w = w' := by
  have := readInt_len w v l hr
  rw [h] at this
  exact this

set_option maxHeartbeats 1000000 in
theorem readText_len (w : World) (v : Value) (l : List UInt8) (hr : Rd w v l) :
    Calls Try.prog 85 #[v] w (RetT w (readT l)) := by
  obtain ⟨x, n, r, h⟩ : ∃ x n r, readI l = (x, n, r) := ⟨_, _, _, rfl⟩
  have H := Lib.hid h
  have HR := Lib.hid hr
  obtain ⟨A, cap, rfl, hle, hm, hA, hc⟩ := hr
  clear hA hc
  unfold maxLen at hm
  rcases readI_err h with rfl | ⟨rfl, rfl, rfl | rfl⟩
  · obtain ⟨hn1, hn2, hx0⟩ := readI_ok h
    by_cases hx : (l.length : Int) - n < x
    · have HT := Lib.hid (show readT l = ([], 0, 4) by unfold readT; rw [h]; exact (if_pos rfl).trans (if_pos hx))
      clear h
      rw [HT.out]
      go_enter Try.func85, Try.ntmps85
      go_wp2_with (go_at_call 93; refine (readInt_at_len _ _ _ _ _ _ HR.out H.out).mono ?_; rintro e w1 ⟨rfl, rfl⟩)
      go_ret3
      exact ⟨rfl, rfl⟩
    · have HT := Lib.hid (show readT l = ((l.take (n + x.toNat)).drop n, n + x.toNat, 0) by unfold readT; rw [h]; exact (if_pos rfl).trans (if_neg hx))
      clear h
      have hx2 : x ≤ (l.length : Int) - n := by omega
      obtain ⟨X, rfl⟩ : ∃ X : Nat, x = X := ⟨x.toNat, by omega⟩
      rw [HT.out]
      clear hx
      go_enter Try.func85, Try.ntmps85
      go_wp2_with (first | (go_at_call 93; refine (readInt_at_len _ _ _ _ _ _ HR.out H.out).mono ?_; rintro e w1 ⟨rfl, rfl⟩) | ((with_reducible show wpList _ _ _ (_ :: _) _ _); refine wpl_slice_lohi bt HR.out (n : Int) ((n : Int) + (X : Int)) (by omega) (by omega) (by omega) rfl _ _ _ _ _ rfl rfl rfl rfl ?_; intro v2 hr2) | ((with_reducible show wpList _ _ _ (_ :: _) _ _); refine wpl_str bt hr2 rfl _ rfl rfl ?_))
      go_ret3
      refine ⟨?_, rfl⟩
      have e2 : ((n + X : Nat) : Int) = (n : Int) + (X : Int) := by omega
      simp only [Int.toNat_natCast, e2]
      rfl
  all_goals
    have HT := Lib.hid (show readT l = ([], 0, (readI l).2.2) by unfold readT; rw [h]; simp)
    clear h
    rw [HT.out, H.out]
    go_enter Try.func85, Try.ntmps85
    go_wp2_with (go_at_call 93; refine (readInt_at_len _ _ _ _ _ _ HR.out H.out).mono ?_; rintro e w1 ⟨rfl, rfl⟩)
    go_ret3
    exact ⟨rfl, rfl⟩

end Go.Proofs.Ytbodppfpmpmadaa
/- The contract of the function that writes an OK. -/
namespace Go.Proofs.Ytbodppfpmpmadaa
open Go.RowKit

/-- Does the OK bear a change of the session's state? -/
def trackB (c st : Int) : Bool := hasB c 8388608 && (bits .and .u16 st 16384 != 0)

theorem Box.six {W0 W : World} {g : Nat} {a b c d e f : Value} (h : Box W0 g [a, b, c, d, e, f]) (k : Ext W0 W) :
    W.cell? ⟨g, 0, none⟩ = some a ∧ W.cell? ⟨g, 1, none⟩ = some b ∧ W.cell? ⟨g, 2, none⟩ = some c ∧ W.cell? ⟨g, 3, none⟩ = some d ∧ W.cell? ⟨g, 4, none⟩ = some e ∧ W.cell? ⟨g, 5, none⟩ = some f :=
  ⟨(h.ext k) 0 (by simp), (h.ext k) 1 (by simp), (h.ext k) 2 (by simp), (h.ext k) 3 (by simp), (h.ext k) 4 (by simp), (h.ext k) 5 (by simp)⟩

set_option maxHeartbeats 400000 in
theorem tracked_c (w : World) (c a i st wn : Int) (info : ByteArray) (vt : Value) (r : Bool) (h : trackB c st = r) :
    Calls Try.prog 95 #[.int .u32 c, .agg #[.int .u64 a, .int .u64 i, .int .u16 st, .int .u16 wn, .string info, vt]] w fun e w' => e = .returned (.bool r) ∧ Ext w w' := by
  cases hk : hasB c 8388608 with
  | false =>
    have hr : r = false := by rw [← h]; simp [trackB, hk]
    subst hr
    have HK := Lib.hid hk
    clear hk h
    go_enter Try.func95, Try.ntmps95
    go_wp2_with (go_at_call 96; refine (has_at _ _ _ false HK.out).mono ?_; rintro e w1 ⟨rfl, rfl⟩)
    go_ret
    exact ⟨rfl, (Ext.refl _).alloc _⟩
  | true =>
    have hr : (bits .and .u16 st 16384 != 0) = r := by rw [← h]; simp [trackB, hk]
    have HK := Lib.hid hk
    have HQ := Lib.hid hr
    clear hk h hr
    go_enter Try.func95, Try.ntmps95
    go_wp2_with (go_at_call 96; refine (has_at _ _ _ true HK.out).mono ?_; rintro e w1 ⟨rfl, rfl⟩)
    go_ret
    rw [← HQ.out]
    exact ⟨rfl, (Ext.refl _).alloc _⟩

theorem textB_le (s : ByteArray) : (textB s.data.toList).length ≤ s.size + 9 := by
  have h1 := intB_length (s.size : Int)
  have h2 := sizeI_le (s.size : Int)
  rw [← h1] at h2
  simp only [textB, List.length_append, size_toList]
  omega

/-- An OK's head. -/
def okHead (k : Bool) (a i st wn : Int) : List UInt8 := (if k then 254 else 0) :: (intB a ++ (intB i ++ (fixB st 2 ++ fixB wn 2)))
def okTail (c st : Int) (info trk : List UInt8) : List UInt8 := if hasB c 8388608 then textB info ++ (if trackB c st then textB trk else []) else info

set_option maxRecDepth 100000 in
set_option maxHeartbeats 1000000 in
theorem appendOk_bad (w : World) (v vt : Value) (trk : List UInt8) (c a i st wn : Int) (info : ByteArray) (k : Bool) (ht : Rd w vt trk) (h0 : 0 < trk.length) (h : trackB c st = false) :
    Calls Try.prog 88 #[v, .int .u32 c, .agg #[.int .u64 a, .int .u64 i, .int .u16 st, .int .u16 wn, .string info, vt], .bool k] w (RetBE w [] 2) := by
  have hb : decide (0 < (trk.length : Int)) = true := by simpa using h0
  have HT := Lib.hid h
  obtain ⟨A, cap, rfl, h1, h2, h3, h4⟩ := ht
  clear h h3 h4
  go_enter Try.func88, Try.ntmps88
  go_wp2_with (go_at_call 95; refine (tracked_c _ _ _ _ _ _ _ _ _ HT.out).mono ?_; rintro e w1 ⟨rfl, hx1⟩)
  go_ret2
  exact ⟨_, rfl, Own.nil _ _, ((Ext.refl _).alloc _).trans hx1⟩

set_option maxRecDepth 100000 in
set_option maxHeartbeats 4000000 in
theorem appendOk_good (w : World) (v vt : Value) (l trk : List UInt8) (c a i st wn : Int) (info : ByteArray) (k : Bool) (hr : Rd w v l) (ht : Rd w vt trk) (hl : l.length ≤ 1000000) (hi : info.size ≤ 100000) (htl : trk.length ≤ 100000)
    (ha : 0 ≤ a ∧ a < 18446744073709551616) (hii : 0 ≤ i ∧ i < 18446744073709551616) (hst : 0 ≤ st ∧ st < 65536) (hwn : 0 ≤ wn ∧ wn < 65536) (h : trk = [] ∨ trackB c st = true) :
    Calls Try.prog 88 #[v, .int .u32 c, .agg #[.int .u64 a, .int .u64 i, .int .u16 st, .int .u16 wn, .string info, vt], .bool k] w (RetBE w (l ++ (okHead k a i st wn ++ okTail c st info.data.toList trk)) 0) := by
  obtain ⟨q, hq⟩ : ∃ q, hasB c 8388608 = q := ⟨_, rfl⟩
  obtain ⟨t, htr⟩ : ∃ t, trackB c st = t := ⟨_, rfl⟩
  have hcase : (¬ 0 < trk.length ∧ q = false ∧ t = false) ∨ (¬ 0 < trk.length ∧ q = true ∧ t = false) ∨ (¬ 0 < trk.length ∧ q = true ∧ t = true) ∨ (0 < trk.length ∧ q = true ∧ t = true) := by
    have h1 : q = false → t = false := by intro hh; rw [← htr, trackB, hq, hh]; rfl
    rcases h with rfl | h
    · cases q <;> cases t <;> simp_all
    · have h2 : t = true := htr.symm.trans h
      have h3 : q = true := by cases q <;> simp_all
      rcases Nat.eq_zero_or_pos trk.length with h4 | h4
      · exact .inr (.inr (.inl ⟨by omega, h3, h2⟩))
      · exact .inr (.inr (.inr ⟨h4, h3, h2⟩))
  have hia := intB_length a
  have hib := sizeI_le a
  rw [← hia] at hib
  have hja := intB_length i
  have hjb := sizeI_le i
  rw [← hja] at hjb
  clear hia hja h
  have htx : (textB info.data.toList).length ≤ info.size + 9 := textB_le info
  have hf1 : (fixB st 2).length = 2 := fixB_length st 2
  have hf2 : (fixB wn 2).length = 2 := fixB_length wn 2
  have HR := Lib.hid hr
  have HV := Lib.hid ht
  have HQ := Lib.hid hq
  have HT := Lib.hid htr
  have HW1 := Lib.hid (show IntKind.u64.wrap st = st from IntWalk.u64_in st (by omega))
  have HW2 := Lib.hid (show IntKind.u64.wrap wn = wn from IntWalk.u64_in wn (by omega))
  have HK1 := Lib.hid (show fixOk st 2 = true by simp [fixOk]; omega)
  have HK2 := Lib.hid (show fixOk wn 2 = true by simp [fixOk]; omega)
  obtain ⟨A, cap, hvt, h1, h2, h3, h4⟩ := ht
  clear h3 h4 hr hq htr
  subst hvt
  cases k
  all_goals rcases hcase with ⟨hpos, rfl, rfl⟩ | ⟨hpos, rfl, rfl⟩ | ⟨hpos, rfl, rfl⟩ | ⟨hpos, rfl, rfl⟩
  all_goals
    go_enter Try.func88, Try.ntmps88
    go_wp2_with fail
    generalize hW0 : w.alloc _ = W0
    have hbox : Box W0 w.heap.size [.int .u64 a, .int .u64 i, .int .u16 st, .int .u16 wn, .string info, .slice A trk.length cap] := by rw [← hW0]; exact Box.new w _ _
    have hx0 : Ext w W0 := by rw [← hW0]; exact (Ext.refl w).alloc _
    clear hW0
    have hE := Ext.refl W0
    have hlt : w.heap.size < W0.heap.size := World.block_lt_of_cell? W0 _ (hbox 0 (by simp))
    obtain ⟨c0, c1, c2, c3, c4, c5⟩ := hbox.six hE
    go_wp2_with (first
      | (go_at_call 95; refine (tracked_c _ _ _ _ _ _ _ _ _ HT.out).mono ?_; rintro e w1 ⟨rfl, hx1⟩; replace hE := hE.trans hx1; clear c0 c1 c2 c3 c4 c5; obtain ⟨c0, c1, c2, c3, c4, c5⟩ := hbox.six hE)
      | (go_at_call 34; (refine (clone_c _ _ _ (HR.out.ext (hx0.trans hE)) (by omega)).mono ?_; rintro e w2 ⟨v2, rfl, ho', hx2⟩; have ho := ho'.more (base' := W0.heap.size) hE.size; clear ho'; replace hE := hE.trans hx2))
      | (at_builtin; (first | refine wpl_append_one bt 0 ho (by omega) (by omega) rfl _ _ rfl rfl rfl (by omega) hE.size ?_ | refine wpl_append_one bt 254 ho (by omega) (by omega) rfl _ _ rfl rfl rfl (by omega) hE.size ?_); intro v3 w3 ho3 hb3; replace hE := hE.below hb3 (Nat.le_refl _); clear ho hb3))
    clear c0 c1 c2 c3 c4 c5
    go_region_held3 (fun W' => W'.cell? ⟨w.heap.size, 0, none⟩ = some (.int .u64 a) ∧ W'.cell? ⟨w.heap.size, 1, none⟩ = some (.int .u64 i) ∧ Ext W0 W') ((refine Box.held2 hbox (j := 0) (k := 1) (by simp) (by simp) ?_; first | exact hE | exact hE.drew))
      (first
        | ((with_reducible show Calls _ _ #[v3, _] _ _); go_at_call 74; refine (appendInt_len _ _ _ a (ho3.ext (Ext.refl _).drew).rd (by omega) (by omega) (by simp; omega)).mono ?_; rintro e w4 ⟨v4, rfl, ho', hx4⟩; have ho4 := ho'.more (base' := W0.heap.size) hE.size; clear ho'; replace hE := hE.drew.trans hx4)
        | ((with_reducible show Calls _ _ #[v4, _] _ _); go_at_call 74; refine (appendInt_len _ _ _ i ho4.rd (by omega) (by omega) (by simp; omega)).mono ?_; rintro e w5 ⟨v5, rfl, ho', hx5⟩; have ho5 := ho'.more (base' := W0.heap.size) hE.size; clear ho'; replace hE := hE.trans hx5))
    clear ho3 ho4
    go_wp2_with fail
    go_region_held3 (fun W' => W'.cell? ⟨w.heap.size, 2, none⟩ = some (.int .u16 st) ∧ W'.cell? ⟨w.heap.size, 3, none⟩ = some (.int .u16 wn) ∧ Ext W0 W') ((refine Box.held2 hbox (j := 2) (k := 3) (by simp) (by simp) ?_; first | exact hE | exact hE.drew))
      (first
        | ((with_reducible show Calls _ _ #[v5, _, _] _ _); go_at_call 94; rw [HW1.out]; refine (fixed_c _ _ _ st 2 (ho5.ext (Ext.refl _).drew).rd (by simp; omega) HK1.out).mono ?_; rintro e w6 ⟨v6, rfl, ho', hx6⟩; have ho6 := ho'.more (base' := W0.heap.size) hE.size; clear ho'; replace hE := hE.drew.trans hx6)
        | ((with_reducible show Calls _ _ #[v6, _, _] _ _); go_at_call 94; rw [HW2.out]; refine (fixed_c _ _ _ wn 2 ho6.rd (by simp; omega) HK2.out).mono ?_; rintro e w7 ⟨v7, rfl, ho', hx7⟩; have ho := ho'.more (base' := W0.heap.size) hE.size; clear ho'; replace hE := hE.trans hx7))
    clear ho5 ho6
    obtain ⟨c0, c1, c2, c3, c4, c5⟩ := hbox.six hE
    go_wp2_with (first
      | (go_at_call 96; refine (has_at _ _ _ _ HQ.out).mono ?_; rintro e wx ⟨rfl, rfl⟩)
      | (at_builtin; refine wpl_append_st bt info ho rfl _ _ rfl rfl rfl (by simp; omega) hE.size ?_; intro v8 w8 ho8 hb8; replace hE := hE.below hb8 (Nat.le_refl _); replace ho := ho8; clear ho8 hb8)
      | ((with_reducible show Calls _ _ #[_, .string info] _ _); go_at_call 45; refine (appendText_len _ _ _ info ho.rd (by omega) (by simp; omega)).mono ?_; rintro e w9 ⟨v9, rfl, ho', hx9⟩; replace ho := ho'.more (base' := W0.heap.size) hE.size; clear ho'; replace hE := hE.trans hx9; clear c0 c1 c2 c3 c4 c5; obtain ⟨c0, c1, c2, c3, c4, c5⟩ := hbox.six hE)
      | (go_at_call 95; refine (tracked_c _ _ _ _ _ _ _ _ _ HT.out).mono ?_; rintro e w10 ⟨rfl, hx10⟩; replace ho := ho.ext hx10; replace hE := hE.trans hx10; clear c0 c1 c2 c3 c4 c5; obtain ⟨c0, c1, c2, c3, c4, c5⟩ := hbox.six hE)
      | ((with_reducible show wpList _ _ _ (⟨some 61, _, _, _, _, _⟩ :: _) _ _); refine wpl_str bt (HV.out.ext (hx0.trans hE)) rfl _ rfl rfl ?_)
      | (go_at_call 45; refine (appendText_len _ _ _ (strL trk) ho.rd (by rw [strL_size]; omega) (by simp; omega)).mono ?_; rintro e w11 ⟨v11, rfl, ho', hx11⟩; replace ho := ho'.more (base' := W0.heap.size) hE.size; clear ho'; replace hE := hE.trans hx11))
    go_ret2
    refine ⟨_, rfl, ?_, hx0.trans hE⟩
    have := ho.more (base' := w.heap.size) (by omega)
    simpa [okHead, okTail, HQ.out, HT.out, strL_toList] using this
end Go.Proofs.Ytbodppfpmpmadaa
/- Slices of structs: what reads as a list of records; what the call owns of such. -/
namespace Go.Proofs.Ytbodppfpmpmadaa
open Go.RowKit

/-- A slice of structs of sz cells each reads as these. -/
def Recs (w : World) (sz : Nat) (v : Value) (rs : List (List Value)) : Prop :=
  ∃ (A : Option Addr) (cap : Nat), v = .slice A rs.length cap ∧ rs.length ≤ cap ∧ cap ≤ maxLen ∧
    (rs ≠ [] → ∃ b o, A = some ⟨b, o, none⟩ ∧ ∀ j, j < rs.length → w.rangeAt b (o + j * sz) (rs.getD j []))
theorem World.rangeAt.ext {w w' : World} {b o : Nat} {cs : List Value} (h : w.rangeAt b o cs) (k : Ext w w') : w'.rangeAt b o cs := fun j v hv => k.cell (h j v hv)
theorem World.rangeAt.on {g : Nat} {w w' : World} {b o : Nat} {cs : List Value} (h : w.rangeAt b o cs) (k : On g w w') (hne : b ≠ g) : w'.rangeAt b o cs := fun j v hv => k.cell (h j v hv) hne
theorem Recs.ext {w w' : World} {sz : Nat} {v : Value} {rs : List (List Value)} (h : Recs w sz v rs) (k : Ext w w') : Recs w' sz v rs := by
  obtain ⟨A, cap, h1, h2, h3, h4⟩ := h
  refine ⟨A, cap, h1, h2, h3, fun hn => ?_⟩
  obtain ⟨b, o, hA, hc⟩ := h4 hn
  exact ⟨b, o, hA, fun j hj => World.rangeAt.ext (hc j hj) k⟩
theorem Recs.at_ {w : World} {sz : Nat} {A : Option Addr} {n cap : Nat} {rs : List (List Value)} (h : Recs w sz (.slice A n cap) rs) (hn : 0 < n) : ∃ b o, A = some ⟨b, o, none⟩ ∧ n = rs.length ∧ ∀ j, j < n → w.rangeAt b (o + j * sz) (rs.getD j []) := by
  obtain ⟨A', cap', hv, _, _, h4⟩ := h
  injection hv with e1 e2 e3
  subst e1 e2
  obtain ⟨b, o, rfl, hc⟩ := h4 (by intro e; subst e; simp at hn)
  exact ⟨b, o, rfl, rfl, hc⟩
theorem Recs.nil (w : World) (sz : Nat) : Recs w sz (.slice none 0 0) [] := ⟨none, 0, rfl, Nat.le_refl _, by unfold maxLen; omega, fun h => absurd rfl h⟩
theorem Recs.shape {w : World} {sz : Nat} {v : Value} {rs : List (List Value)} (h : Recs w sz v rs) : ∃ A c, v = .slice A rs.length c ∧ rs.length ≤ c ∧ c ≤ maxLen := by obtain ⟨A, c, rfl, h1, h2, _⟩ := h; exact ⟨_, _, rfl, h1, h2⟩

/-- The call owns it. -/
def OwnR (t : TypeId) (sz : Nat) (w : World) (base : Nat) (v : Value) (rs : List (List Value)) : Prop := w.ownsRow base t sz v rs.length rs.flatten ∧ ∀ r ∈ rs, r.length = sz
theorem OwnR.nil (t : TypeId) (sz : Nat) (w : World) (base : Nat) : OwnR t sz w base (.slice none 0 0) [] := ⟨World.ownsRow_nil w base t sz, fun r h => by simp at h⟩
theorem OwnR.ext {t : TypeId} {sz : Nat} {w w' : World} {base : Nat} {v : Value} {rs : List (List Value)} (h : OwnR t sz w base v rs) (k : Ext w w') : OwnR t sz w' base v rs :=
  ⟨World.ownsRow.kept (row := none) h.1 ⟨k.os, k.tape, k.output, Ext.size k, fun i hi _ => k.block i hi⟩ (by cases hv : v.ownBlock <;> simp), h.2⟩
theorem OwnR.on {t : TypeId} {sz : Nat} {g : Nat} {w w' : World} {base : Nat} {v : Value} {rs : List (List Value)} (h : OwnR t sz w base v rs) (k : On g w w') (hg : g < base) : OwnR t sz w' base v rs := by
  refine ⟨World.ownsRow.kept h.1 k (.inr ?_), h.2⟩
  intro e
  have := (World.ownsRow.lt h.1 g e).1
  omega
theorem OwnR.more {t : TypeId} {sz : Nat} {w : World} {base base' : Nat} {v : Value} {rs : List (List Value)} (h : OwnR t sz w base v rs) (hb : base' ≤ base) : OwnR t sz w base' v rs := by
  obtain ⟨⟨h1, h2⟩, h3⟩ := h
  refine ⟨⟨h1, ?_⟩, h3⟩
  rcases h2 with h2 | ⟨g, cap, cur, hv, hg, r⟩
  · exact .inl h2
  · exact .inr ⟨g, cap, cur, hv, Nat.le_trans hb hg, r⟩
theorem flatten_at {sz : Nat} : ∀ (rs : List (List Value)), (∀ r ∈ rs, r.length = sz) → ∀ j, j < rs.length → ∀ i u, (rs.getD j [])[i]? = some u → rs.flatten[j * sz + i]? = some u
  | [], _, j, hj, _, _, _ => absurd hj (by simp)
  | r :: rs, h, 0, _, i, u, hu => by
    have hi : i < r.length := by
      rcases Nat.lt_or_ge i r.length with h | h
      · exact h
      · rw [List.getD_cons_zero, List.getElem?_eq_none h] at hu; cases hu
    rw [List.getD_cons_zero] at hu
    rw [Nat.zero_mul, Nat.zero_add, List.flatten_cons, List.getElem?_append_left hi, hu]
  | r :: rs, h, j + 1, hj, i, u, hu => by
    have hr := h r (by simp)
    have ih := flatten_at rs (fun x hx => h x (by simp [hx])) j (by simpa using hj) i u (by simpa using hu)
    rw [List.flatten_cons, List.getElem?_append_right (by rw [hr, Nat.succ_mul]; omega), hr, show (j + 1) * sz + i - sz = j * sz + i by rw [Nat.succ_mul]; omega]
    exact ih
theorem OwnR.recs {t : TypeId} {sz : Nat} {w : World} {base : Nat} {v : Value} {rs : List (List Value)} (h : OwnR t sz w base v rs) : Recs w sz v rs := by
  have hc := fun g hg => World.ownsRow.cells h.1 (g := g) hg
  rcases h.1.2 with ⟨rfl, h0⟩ | ⟨g, cap, cur, rfl, hb, hg, hn, hm, hs, ht⟩
  · have : rs = [] := List.eq_nil_of_length_eq_zero h0
    subst this
    exact Recs.nil w sz
  · refine ⟨_, cap, rfl, hn, hm, fun _ => ⟨g, 0, rfl, fun j hj i u hu => ?_⟩⟩
    have := hc g rfl (j * sz + i) u (flatten_at rs h.2 j hj i u hu)
    rw [addr0] at this
    rw [Nat.zero_add]
    exact this

section
variable {P : Program} {ops : Array Oper} {rest : List Oper} {o : Oper} {a : Act} {w : World} {Q : Exit → Act → World → Prop}
/-- 'append(l, T{..})', where the call owns l. -/
theorem wpl_append_rec {t sl : TypeId} {sz bytes : Nat} {z : Value} (hsl : P.underlying sl = some (.slice t)) (hinfo : (P.info? t).map (fun i => (i.zero, i.size, i.bytes)) = some (some z, sz, bytes)) (hzs : z.cells.size = sz) (hsz : 0 < sz) (hby : bytes ≤ 100)
    {base : Nat} {v : Value} {rs : List (List Value)} (hown : OwnR t sz w base v rs) (row : List Value) (hrow : row.length = sz) (h1 : row.all (·.oneCell') = true)
    (hgd : o.guard = none) (s x : Operand) (ho : o.op = .call { callee := .builtin .append, args := #[s, x], argTypes := #[sl, sl] })
    (hs : a.eval s = v) (C : Array Value) (hC : C = row.toArray) (hx : a.eval x = .slice (some ⟨w.heap.size, 0, none⟩) 1 1) (hlen : rs.length + 1 ≤ 1000000000) (hbase : base ≤ w.heap.size)
    (h : ∀ v' w', OwnR t sz w' base v' (rs ++ [row]) → Below base w w' → wpList P ops Q rest (a.put o.dst v') w') : wpList P ops Q (o :: rest) a (w.alloc (.cells C t)) := by
  subst hC
  refine wpList_plain hgd fun K hK => ?_
  obtain ⟨i, hi, hz, hs1, hb1⟩ := info_parts hinfo
  have hown' := (hown.ext ((Ext.refl w).alloc (.cells row.toArray t))).1
  obtain ⟨v', w', hrun, h2, h3, _⟩ := run_append_own (P := P) (w.alloc (.cells row.toArray t)) base sl o.type t i z sz bytes hsl hi hz hs1 hb1 hzs hsz v rs.length rs.flatten hown' ⟨w.heap.size, 0, none⟩ 1 1 row
    (by rw [hrow, Nat.one_mul]) (fun j u hj => by
      have hjl : j < row.length := by
        rcases Nat.lt_or_ge j row.length with h | h
        · exact h
        · rw [List.getElem?_eq_none h] at hj; cases hj
      rw [addr0, (Box.new w row t) j hjl, List.getD_eq_getElem?_getD, hj]
      rfl) (fun u hu => by rw [List.all_eq_true] at h1; exact h1 u hu) (by unfold maxLen; omega) (by
        have : (rs.length + 1) * bytes ≤ 1000000000 * 100 := Nat.mul_le_mul hlen hby
        omega) (Nat.le_trans hbase (by simp))
  have hb := (Below.refl base (w.alloc (.cells row.toArray t))).grown h3 (Nat.le_trans hbase (by simp)) (fun g hg => (World.ownsRow.lt hown' g hg).1)
  have hb' : Below base w w' := ((Below.refl base w).alloc hbase _).trans hb
  unfold Oper.wp execOp
  simp only [ho, resolve, invoke, builtin, Sem.run_bind, Sem.run_pure, Result.andThen_ok, List.map_toArray, List.map_cons, List.map_nil, hs, hx, hrun]
  refine hK _ _ (h v' w' ⟨?_, ?_⟩ hb')
  · rw [List.length_append, List.flatten_append, List.flatten_cons, List.flatten_nil, List.append_nil]
    exact h2
  · intro r hr
    rcases List.mem_append.1 hr with h | h
    · exact hown.2 r h
    · simp at h; rw [h]; exact hrow

/-- A struct among others is read whole. -/
theorem wpl_load_rec (hgd : o.guard = none) (ty : TypeId) (x : Operand) (ho : o.op = .load ty x) (b off : Nat) (hx : a.eval x = .pointer (some ⟨b, off, none⟩)) {cs : List Value} {d : TypeDesc} (R : w.rangeAt b off cs)
    (hu : P.underlying ty = some d) (hd : d.isRow = true) (hi : (P.info? ty).map (·.size) = some cs.length)
    (h : wpList P ops Q rest (a.put o.dst (.agg cs.toArray)) w) : wpList P ops Q (o :: rest) a w :=
  wpList_load_mid hgd ty x ho b off hx cs d R hu hd hi h
end
end Go.Proofs.Ytbodppfpmpmadaa
/- Logins: one is let in. -/
namespace Go.Proofs.Ytbodppfpmpmadaa
open Go.RowKit

/-- What is told to whom is let in. -/
def okL (c : Int) : List UInt8 := okHead false 0 0 2 0 ++ okTail c 2 [] []
theorem lists_of {w : World} {base : Nat} {v : Value} {us : List Value} {ls : List (List UInt8)} (h : OwnR 23 1 w base v (us.map fun u => [u])) (hl : us.length = ls.length) (hr : ∀ j, j < ls.length → Own w base (us.getD j undef) (ls.getD j [])) : ListsN w base v ls := by
  have hlt := fun g hg => World.ownsRow.lt h.1 g hg
  obtain ⟨A, cap, hv, h1, h2, h3⟩ := h.recs
  rw [List.length_map, hl] at hv h1 h3
  refine ⟨A, cap, hv, h1, h2, fun hn => ?_⟩
  obtain ⟨b, o, hA, hc⟩ := h3 (by intro e; exact hn (List.eq_nil_of_length_eq_zero (by rw [← hl]; have := congrArg List.length e; simpa using this)))
  refine ⟨b, o, hA, (hlt b (by rw [hv, hA]; rfl)).1, fun j hj => ⟨us.getD j undef, ?_, hr j hj⟩⟩
  have := hc j hj 0 (us.getD j undef) (by
    have hj2 : j < us.length := by omega
    simp [List.getD_eq_getElem?_getD, List.getElem?_map, List.getElem?_eq_getElem hj2])
  rw [Nat.mul_one, Nat.add_zero] at this
  exact this
set_option maxHeartbeats 1000000 in
theorem in_nil_c (w : World) (g : Nat) (cs : List Value) (c : Int) (B : BoxF w g cs) (hl : cs.length = 19) (hc : cs[10]? = some (.int .u32 c)) :
    Calls Try.prog 71 #[.pointer (some ⟨g, 0, none⟩), .slice none 0 0] w fun e w' => ∃ v, e = .returned v ∧ ListsN w' w.heap.size v [okL c] ∧ BoxF w' g (cs.set 9 (.int .i64 2)) ∧ On g w w' := by
  have HB := Lib.hid B
  have HL := Lib.hid hl
  have HC := Lib.hid (show (cs.set 9 (.int .i64 2))[10]? = some (.int .u32 c) by rw [List.getElem?_set_ne (by decide)]; exact hc)
  obtain ⟨F, hF⟩ : ∃ F, F = okL c := ⟨_, rfl⟩
  have HF := Lib.hid hF
  clear B hl hc hF
  go_enter Try.func71, Try.ntmps71
  go_wp2_with (first
    | ((with_reducible show wpList _ _ _ (⟨none, Op.store _ _ _, _, _, _, _⟩ :: _) _ _); refine wpl_store_cell rfl _ _ _ rfl g 9 (.int .i64 2) rfl rfl rfl rfl (by kernel_rfl) HB.out (by have := HL.out; omega) ?_; intro w1 B1 O1; have c10 := B1.at (j := 10) HC.out)
    | (go_at_call 88; refine (appendOk_good _ _ _ [] [] c 0 0 2 0 ByteArray.empty false (Rd.nil _) (Rd.nil _) (by simp) (by decide) (by simp) (by omega) (by omega) (by omega) (by omega) (.inl rfl)).mono ?_; rintro e w2 ⟨v2, rfl, ho2, hx2⟩; replace ho2 : Own w2 w1.heap.size v2 F := (by rw [HF.out]; exact ho2); obtain ⟨A2, c2, hv2, _⟩ := id ho2.rd; subst hv2)
    | ((with_reducible show wpList _ _ _ (⟨some 22, _, _, _, _, _⟩ :: _) _ _); go_loud (refine wpl_append_rec (sz := 1) (z := .slice none 0 0) (bytes := 24) Try.underlying42 (by kernel_rfl) (by kernel_rfl) (by omega) (by omega) (OwnR.nil 23 1 _ w2.heap.size) [.slice A2 F.length c2] rfl (by kernel_rfl) rfl _ _ rfl rfl _ rfl rfl (by simp) (Nat.le_refl _) ?_; intro v3 w3 ho3 hb3))
    | fail)
  go_ret
  rw [← HF.out]
  refine ⟨_, rfl, lists_of (us := [.slice A2 F.length c2]) (ho3.more (Nat.le_trans O1.size (Ext.size hx2))) rfl (fun j hj => ?_), (B1.ext hx2).ext hb3, (O1.ext hx2).ext hb3⟩
  have e : j = 0 := by simpa using hj
  subst e
  exact (ho2.more O1.size).ext hb3
end Go.Proofs.Ytbodppfpmpmadaa
/- Logins: the whole password. -/
namespace Go.Proofs.Ytbodppfpmpmadaa
open Go.RowKit

theorem strL_add0 (a : List UInt8) : (strL a ++ { data := #[0] } : ByteArray).toList = a ++ [0] := by
  rw [ByteArray.toList_eq, ByteArray.data_append]
  rw [Array.toList_append, strL_toList]
set_option maxHeartbeats 1000000 in
theorem full_c (w : World) (g : Nat) (cs : List Value) (c : Int) (pw l : List UInt8) (vb : Value) (B : BoxF w g cs) (hl : cs.length = 19) (hc : cs[10]? = some (.int .u32 c)) (hpw : cs[13]? = some (.string (strL pw))) (hr : Rd w vb l) (hp : pw.length ≤ 1000000) :
    Calls Try.prog 73 #[.pointer (some ⟨g, 0, none⟩), vb] w fun e w' => ∃ v, e = .returned v ∧
      ListsN w' w.heap.size v [if l == pw ++ [0] then okL c else refusedL] ∧ BoxF w' g (cs.set 9 (.int .i64 (if l == pw ++ [0] then 2 else 3))) ∧ On g w w' := by
  have HB := Lib.hid B
  have HL := Lib.hid hl
  have HC := Lib.hid hc
  obtain ⟨t, ht⟩ : ∃ t, t = strL pw := ⟨_, rfl⟩
  have hts : t.size ≤ 1000000 := by rw [ht, strL_size]; exact hp
  rw [← ht] at hpw
  have c13 := B.at (j := 13) hpw
  obtain ⟨q, hq⟩ : ∃ q, q = (l == pw ++ [0]) := ⟨_, rfl⟩
  have HQ := Lib.hid (show ((strL l).toList == (t ++ { data := #[0] }).toList) = q by rw [hq, ht, strL_tl, strL_add0])
  rw [← hq]
  have HR := Lib.hid hr
  obtain ⟨A, cap, rfl, _⟩ := hr
  clear B hl hc hpw ht hp hq
  go_enter Try.func73, Try.ntmps73
  go_wp2_with fail
  have t0 := run_str w bt HR.out
  have t1 := run_str w.drew bt (HR.out.ext (Ext.refl _).drew)
  (try dsimp only [Act.put])
  first | go_region | fail
  rw [HQ.out]
  clear t0 t1
  have hx0 : Ext w w.drew := (Ext.refl w).drew
  have HB1 := Lib.hid (HB.out.ext hx0)
  have HX0 := Lib.hid hx0
  generalize w.drew = w0 at hx0 HB1 HX0 ⊢
  clear hx0 c13
  cases q with
  | true =>
    go_wp2_with (first
      | (go_at_call 71; refine (in_nil_c _ g cs c HB1.out HL.out HC.out).mono ?_; rintro e w1 ⟨v1, rfl, hl1, B1, O1⟩)
      | fail)
    go_ret
    exact ⟨_, rfl, hl1.more (Ext.size HX0.out), B1, (On.of HX0.out).trans O1⟩
  | false =>
    go_wp2_with (first
      | (go_at_call 67; refine (refused_c _).mono ?_; rintro e w1 ⟨v1, rfl, hl1, hx1⟩; have B1 := HB1.out.ext hx1)
      | (go_at_call 38; refine (dfail_c _ g cs _ B1 HL.out).mono ?_; rintro e w2 ⟨rfl, B2, O2⟩)
      | fail)
    go_ret
    exact ⟨_, rfl, (hl1.on O2 HB1.out.lt).more (Ext.size HX0.out), B2, ((On.of HX0.out).ext hx1).trans O2⟩
end Go.Proofs.Ytbodppfpmpmadaa
/- Logins: nobody of that name. -/
namespace Go.Proofs.Ytbodppfpmpmadaa
open Go.RowKit

set_option maxHeartbeats 1000000 in
theorem change1_c (w : World) (g h : Nat) (cs : List Value) (vb : Value) (B : BoxF w g cs) (hl : cs.length = 19) (hh : w.cell? ⟨h, 0, none⟩ = some (.pointer (some ⟨g, 0, none⟩))) (hne : h ≠ g) :
    Calls Try.prog 66 #[vb, .pointer (some ⟨h, 0, none⟩)] w fun e w' => ∃ v, e = .returned v ∧
      ListsN w' w.heap.size v [refusedL] ∧ BoxF w' g (cs.set 9 (.int .i64 3)) ∧ On g w w' := by
  have HB := Lib.hid B
  have HL := Lib.hid hl
  have HH := Lib.hid hh
  have HN := Lib.hid hne
  clear B hl hne
  go_enter Try.func66, Try.ntmps66
  go_wp2_with fail
  have p0 : w.drew.cell? ⟨h, 0, none⟩ = some (.pointer (some ⟨g, 0, none⟩)) := Ext.cell (Ext.refl _).drew hh
  go_region_held3 (fun W' => W'.cell? ⟨h, 0, none⟩ = some (.pointer (some ⟨g, 0, none⟩)))
    ((first | with_reducible exact p0 | with_reducible exact hh | with_reducible exact p1 | with_reducible exact p2 | fail))
    (first
      | (go_at_call 67; go_must (refine (refused_c _).mono ?_; rintro e w1 ⟨v1, rfl, hl1, hx1⟩; have hx0 := (Ext.refl w).drew.trans hx1; have p1 := Ext.cell hx0 HH.out; have B1 := HB.out.ext hx0))
      | (go_at_call 38; go_must (refine (dfail_c _ g cs _ B1 HL.out).mono ?_; rintro e w2 ⟨rfl, B2, O2⟩; have p2 := On.cell O2 p1 HN.out))
      | fail)
  all_goals
    go_wp2_with fail
    go_ret
    exact ⟨_, rfl, hl1.on O2 HB.out.lt, B2, (On.of hx0).trans O2⟩
end Go.Proofs.Ytbodppfpmpmadaa
/- What readers read: the bytes that are left, the first error. -/
namespace Go.Proofs.Ytbodppfpmpmadaa
open Go.RowKit

/-- What is read: a fixed number, a counted number, a counted text, one byte of some; the bytes that are left, the error. -/
def rF (n : Int) (s : List UInt8 × Int) : Int × (List UInt8 × Int) := if s.2 = 0 then (if (readF s.1 n).2 = 0 then ((readF s.1 n).1, (s.1.drop n.toNat, 0)) else ((readF s.1 n).1, (s.1, (readF s.1 n).2))) else (0, s)
def rI (s : List UInt8 × Int) : Int × (List UInt8 × Int) := if s.2 = 0 then (if (readI s.1).2.2 = 0 then ((readI s.1).1, (s.1.drop (readI s.1).2.1, 0)) else ((readI s.1).1, (s.1, (readI s.1).2.2))) else (0, s)
def rT (s : List UInt8 × Int) : List UInt8 × (List UInt8 × Int) := if s.2 = 0 then (if (readT s.1).2.2 = 0 then ((readT s.1).1, (s.1.drop (readT s.1).2.1, 0)) else ((readT s.1).1, (s.1, (readT s.1).2.2))) else ([], s)
/-- What is read is wrong. -/
def rW (bad : Bool) (s : List UInt8 × Int) : List UInt8 × Int := if s.2 = 0 ∧ bad = true then (s.1, 5) else s
/-- A byte that is one of these. -/
def rM (p : UInt8 → Bool) (s : List UInt8 × Int) : List UInt8 × Int := rW (!p (UInt8.ofNat (rF 1 s).1.toNat)) (rF 1 s).2
/-- Bytes that are left are wrong. -/
def rO (s : List UInt8 × Int) : List UInt8 × Int := rW (decide (0 < s.1.length)) s

/-- A method that gives one value. -/
def RetR (a w : World) (g : Nat) (v : Value) (s : List UInt8 × Int) (e : Ending) (w' : World) : Prop := e = .returned v ∧ Rdr a w' g s ∧ On g w w'
end Go.Proofs.Ytbodppfpmpmadaa
/- The contracts of the readers' methods in the package on replies. -/
namespace Go.Proofs.Ytbodppfpmpmadaa
open Go.RowKit

theorem readF_err {l : List UInt8} {n x r : Int} (h : readF l n = (x, r)) : r = 0 → n ≤ l.length ∧ 1 ≤ n := by
  unfold readF at h
  split at h
  · rintro rfl; simp at h
  · split at h
    · rintro rfl; simp at h
    · intro _; omega

section
variable {P : Program} {ops : Array Oper} {rest : List Oper} {o : Oper} {a : Act} {w : World} {Q : Exit → Act → World → Prop}
/-- A slice that reads in one world is cut in another: what it reads in the first. -/
theorem wpl_cut_lo (hT : BT P) {b : World} {v : Value} {l : List UInt8} (hr : Rd b v l) (i : Int) (h0 : 0 ≤ i) (h1 : i ≤ l.length)
    (hgd : o.guard = none) (x lo : Operand) (k : IntKind) (ho : o.op = .slice 23 x (some lo) none none) (hx : a.eval x = v) (hlo : a.eval lo = .int k i)
    (h : ∀ A' m c', Rd b (.slice A' m c') (l.drop i.toNat) → wpList P ops Q rest (a.put o.dst (.slice A' m c')) w) : wpList P ops Q (o :: rest) a w := by
  obtain ⟨A, cap, rfl, hle, hm, _⟩ := id hr
  have hc := Rd.cut hr i.toNat l.length (by omega) (Nat.le_refl _)
  rw [List.take_length] at hc
  refine wpl_val hgd (v := .slice (if cap = i.toNat then A else A.map (·.add (i.toNat * 1))) (l.length - i.toNat) (cap - i.toNat)) (w' := w) ?_ (h _ _ _ hc)
  unfold execOp
  simp [ho, hx, hlo, Instr.sliceAt, Instr.slice, run_underlying hT.sl, Instr.sliceBounds, run_sliceBound, h0, h1, sizeOf_u8 hT]
end

theorem readI_le {l : List UInt8} {x : Int} {n : Nat} (h : readI l = (x, n, 0)) : n ≤ l.length := (readI_ok h).2.1
theorem readT_le {l x : List UInt8} {n : Nat} (h : readT l = (x, n, 0)) : n ≤ l.length := by
  obtain ⟨y, m, r, hq⟩ : ∃ y m r, readI l = (y, m, r) := ⟨_, _, _, rfl⟩
  unfold readT at h
  rw [hq] at h
  dsimp only at h
  split at h
  · rename_i h0
    subst h0
    have := readI_ok hq
    split at h
    · simp at h
    · simp only [Prod.mk.injEq] at h
      omega
  · rename_i h0
    simp only [Prod.mk.injEq] at h
    exact absurd h.2.2 h0
theorem readT_at_len (w : World) (v : Value) (l x : List UInt8) (n : Nat) (r : Int) (hr : Rd w v l) (h : readT l = (x, n, r)) :
    Calls Try.prog 85 #[v] w fun e w' => e = .returned (.tuple #[.string (strL x), .int .i64 n, .int .i64 r]) ∧ w = w' := by
  have := readText_len w v l hr
  rw [h] at this
  exact this

end Go.Proofs.Ytbodppfpmpmadaa
/- The contracts of 'must' and of the reference's fields. (Printed by gen_rdC.py.) -/
namespace Go.Proofs.Ytbodppfpmpmadaa
open Go.RowKit

theorem Rd.on {g : Nat} {w w' : World} {v : Value} {l : List UInt8} (h : Rd w v l) (k : On g w w') (hne : v.ownBlock ≠ some g) : Rd w' v l := by
  obtain ⟨A, cap, rfl, h1, h2, h3, h4⟩ := h
  refine ⟨A, cap, rfl, h1, h2, h3, fun hl => ?_⟩
  obtain ⟨b, o, rfl, hc⟩ := h4 hl
  refine ⟨b, o, rfl, fun j hj => k.cell (hc j hj) (fun e => hne (by simp [Value.ownBlock, ← e]))⟩

/-- Is a byte one of these? As the program asks it. -/
def isOf (m : List UInt8) (x : Int) : Bool := decide (0 ≤ Lib.indexByte m (x % 256).toNat.toUInt8)
def rMust (m : List UInt8) (s : List UInt8 × Int) : List UInt8 × Int := rW (!isOf m (rF 1 s).1) (rF 1 s).2

section
variable {P : Program} {ops : Array Oper} {rest : List Oper} {o : Oper} {a : Act} {w : World} {Q : Exit → Act → World → Prop}
theorem bc_made (n : Nat) : (madeCells (Value.int .u8 0).cells (n * 1)).toList = bc (List.replicate n 0) := by
  show (madeCells #[Value.int .u8 0] (n * 1)).toList = _
  rw [toList_madeCells_one]
  simp [bc]

/-- 'make([]byte, n)'. -/
theorem wpl_makeN (hT : BT P) (n : Nat) (hn : n ≤ 100000000)
    (hgd : o.guard = none) (x c : Operand) (kl kc : IntKind) (ho : o.op = .makeSlice 23 x c) (hx : a.eval x = .int kl (n : Int)) (hc : a.eval c = .int kc (n : Int))
    (h : ∀ v' w', Own w' w.heap.size v' (List.replicate n 0) → Ext w w' → wpList P ops Q rest (a.put o.dst v') w') : wpList P ops Q (o :: rest) a w := by
  obtain ⟨i, hi, hz, hs1, hb1⟩ := hT.info
  obtain ⟨w', hrun, h1, h2⟩ := run_make_full (P := P) w w.heap.size 23 5 i (.int .u8 0) 1 hT.sl hi hz hs1 kl kc n (by rw [hb1]; omega) (by unfold maxLen; omega) (Nat.le_refl _)
  refine wpl_val hgd (v := .slice (some ⟨w.heap.size, 0, none⟩) n n) (w' := w') ?_ (h _ _ ?_ ((Below.refl _ w).grown h2 (Nat.le_refl _) (fun k hk => by cases hk)))
  · unfold execOp
    simp only [ho, hx, hc, Sem.run_bind, Sem.run_pure, Result.andThen_ok, hrun]
  · rw [bc_made] at h1
    unfold Own
    rw [List.length_replicate]
    exact h1

theorem wpl_cut_hi (hT : BT P) {b : World} {v : Value} {l : List UInt8} (hr : Rd b v l) (j : Int) (h0 : 0 ≤ j) (h1 : j ≤ l.length)
    (hgd : o.guard = none) (x hi : Operand) (k : IntKind) (ho : o.op = .slice 23 x none (some hi) none) (hx : a.eval x = v) (hhi : a.eval hi = .int k j)
    (h : ∀ A' m c', Rd b (.slice A' m c') (l.take j.toNat) → wpList P ops Q rest (a.put o.dst (.slice A' m c')) w) : wpList P ops Q (o :: rest) a w := by
  obtain ⟨A, cap, rfl, hle, hm, _⟩ := id hr
  have hc := Rd.cut hr 0 j.toNat (by omega) (by omega)
  rw [List.drop_zero] at hc
  refine wpl_val hgd (v := .slice (if cap = 0 then A else A.map (·.add (0 * 1))) (j.toNat - 0) (cap - 0)) (w' := w) ?_ (h _ _ _ hc)
  unfold execOp
  have hb : j ≤ (cap : Int) := by omega
  simp [ho, hx, hhi, Instr.sliceAt, Instr.slice, run_underlying hT.sl, Instr.sliceBounds, run_sliceBound, h0, hb, sizeOf_u8 hT]
end

/-- Bytes that are read: as many as are asked. -/
def rB (n : Nat) (s : List UInt8 × Int) : List UInt8 × (List UInt8 × Int) := if s.2 = 0 then (if s.1.length < n then (List.replicate n 0, (s.1, 4)) else (s.1.take n, (s.1.drop n, 0))) else (List.replicate n 0, s)
theorem rB_length (n : Nat) (s : List UInt8 × Int) : (rB n s).1.length = n := by
  unfold rB
  split
  · split
    · simp
    · simp; omega
  · simp
/-- A method that gives bytes that nobody else has. -/
def RetO (a w : World) (g : Nat) (l : List UInt8) (s : List UInt8 × Int) (e : Ending) (w' : World) : Prop := ∃ v, e = .returned v ∧ Own w' w.heap.size v l ∧ Rdr a w' g s ∧ On g w w'

end Go.Proofs.Ytbodppfpmpmadaa
/- The contracts of the functions that write and read ended texts. -/
namespace Go.Proofs.Ytbodppfpmpmadaa
open Go.RowKit

/-- What comes of an ended text's writing: refused where a nought stands in it. -/
def RetZ (w : World) (l s : List UInt8) (e : Ending) (w' : World) : Prop :=
  (s.contains 0 = true → RetBE w [] 2 e w') ∧ (s.contains 0 = false → RetBE w (l ++ s ++ [0]) 0 e w')

theorem RetZ.yes {w : World} {l s : List UInt8} {e : Ending} {w' : World} (hc : s.contains 0 = true) (h : RetBE w [] 2 e w') : RetZ w l s e w' :=
  ⟨fun _ => h, fun h' => by rw [hc] at h'; cases h'⟩
theorem RetZ.no {w : World} {l s : List UInt8} {e : Ending} {w' : World} (hc : s.contains 0 = false) (h : RetBE w (l ++ s ++ [0]) 0 e w') : RetZ w l s e w' :=
  ⟨fun h' => (by rw [hc] at h'; cases h'), fun _ => h⟩

theorem str_getD (s : ByteArray) (k : Nat) (h : k < s.size) : s.data.toList.getD k 0 = s[k]'h := by
  have hl : k < s.data.toList.length := by rw [size_toList]; exact h
  rw [List.getD_eq_getElem?_getD, List.getElem?_eq_getElem hl]
  rfl

theorem byte_zero {c : UInt8} (h : ((c.toNat : Int) == 0) = true) : c = 0 := by
  have : (c.toNat : Int) = 0 := by simpa using h
  have h0 : (0 : UInt8).toNat = 0 := rfl
  exact UInt8.toNat.inj (by omega)
theorem byte_nz {c : UInt8} (h : ((c.toNat : Int) == 0) = false) : c ≠ 0 := by
  rintro rfl
  simp at h

set_option maxHeartbeats 400000 in
theorem appendEnded_len (w : World) (v : Value) (l : List UInt8) (s : ByteArray) (hr : Rd w v l) (hs : s.size ≤ 1000000) (hl : l.length ≤ 7000000) :
    Calls Try.prog 54 #[v, .string s] w (RetZ w l s.data.toList) := by
  have HR := Lib.hid hr
  clear hr
  have hz := idx_zero s.data.toList
  by_cases hc : s.data.toList.contains 0 = true
  · rw [if_pos hc] at hz
    have HZ := Lib.hid (show Lib.indexByte s.data.toList (0 : Int).toNat.toUInt8 = _ from hz)
    have HC := Lib.hid hc
    clear hz hc
    go_enter Try.func54, Try.ntmps54
    go_wp2_with (go_at_call 80; refine (idx_s _ _ _).mono ?_; rintro e w1 ⟨rfl, rfl⟩; rw [HZ.out])
    go_ret2
    exact RetZ.yes HC.out ⟨_, rfl, Own.nil _ _, Ext.refl _⟩
  · rw [if_neg hc] at hz
    have HZ := Lib.hid (show Lib.indexByte s.data.toList (0 : Int).toNat.toUInt8 = _ from hz)
    have HC := Lib.hid (show s.data.toList.contains 0 = false by simpa using hc)
    clear hz hc
    have hsz := size_toList s
    go_enter Try.func54, Try.ntmps54
    go_wp2_with (first | (go_at_call 80; refine (idx_s _ _ _).mono ?_; rintro e w1 ⟨rfl, rfl⟩; rw [HZ.out]) | (go_at_call 34; refine (clone_c _ _ _ HR.out (by omega)).mono ?_; rintro e w1 ⟨v1, rfl, ho1, hx1⟩) | (at_builtin; refine wpl_append_st bt s ho1 rfl _ _ rfl rfl rfl (by omega) (Ext.size hx1) ?_; intro v2 w2 ho2 hb2) | (at_builtin; refine wpl_append_one bt 0 ho2 (by omega) (by omega) rfl _ _ rfl rfl rfl (by rw [List.length_append]; omega) (Ext.size (hx1.below hb2 (Nat.le_refl _))) ?_; intro v3 w3 ho3 hb3))
    go_ret2
    exact RetZ.no HC.out ⟨_, rfl, ho3, (hx1.below hb2 (Nat.le_refl _)).below hb3 (Nat.le_refl _)⟩

set_option maxHeartbeats 400000 in
theorem readEnded_len (w : World) (v : Value) (l : List UInt8) (hr : Rd w v l) :
    Calls Try.prog 84 #[v] w (RetT w (readZ l)) := by
  have HR := Lib.hid hr
  have hle := hr.le
  unfold maxLen at hle
  clear hr
  have hz := idx_zero l
  by_cases hc : l.contains 0 = true
  · have HT := Lib.hid (show readZ l = (upZ l, (upZ l).length + 1, 0) from if_pos hc)
    rw [if_pos hc] at hz
    have hu := upZ_lt l hc
    have HZ := Lib.hid (show Lib.indexByte l (0 : Int).toNat.toUInt8 = _ from hz)
    clear hz hc
    rw [HT.out]
    go_enter Try.func84, Try.ntmps84
    go_wp2_with (first | (go_at_call 47; refine (idx_b _ _ _ _ HR.out).mono ?_; rintro e w1 ⟨rfl, rfl⟩; rw [HZ.out]) | ((with_reducible show wpList _ _ _ (_ :: _) _ _); refine wpl_slice_hi bt HR.out ((upZ l).length : Int) (by omega) (by omega) rfl _ _ _ rfl rfl rfl ?_; intro v2 hr2) | ((with_reducible show wpList _ _ _ (_ :: _) _ _); refine wpl_str bt hr2 rfl _ rfl rfl ?_))
    go_ret3
    refine ⟨?_, rfl⟩
    have e2 : (((upZ l).length + 1 : Nat) : Int) = ((upZ l).length : Int) + 1 := by omega
    simp only [e2, upZ_take]
    rfl
  · have HT := Lib.hid (show readZ l = ([], 0, 4) from if_neg hc)
    rw [if_neg hc] at hz
    have HZ := Lib.hid (show Lib.indexByte l (0 : Int).toNat.toUInt8 = _ from hz)
    clear hz hc
    rw [HT.out]
    go_enter Try.func84, Try.ntmps84
    go_wp2_with (go_at_call 47; refine (idx_b _ _ _ _ HR.out).mono ?_; rintro e w1 ⟨rfl, rfl⟩; rw [HZ.out])
    go_ret3
    exact ⟨rfl, rfl⟩

end Go.Proofs.Ytbodppfpmpmadaa
