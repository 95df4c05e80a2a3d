import Derived.Test.YtbodppfpmpmadaaGreatL6C
import Derived.Test.YtbodppfpmpmadaaGreatL2C
import Derived.Test.YtbodppfpmpmadaaGreatL7C
import Derived.Test.YtbodppfpmpmadaaGreatL5C
namespace Go.Proofs.YtbodppfpmpmadaaGreat
open Go.RowKit

def RetZ (w : World) (l s : List UInt8) (e : Ending) (w' : World) : Prop :=
  (s.contains 0 = true → RetBE w [] 2 e w') ∧ (s.contains 0 = false → RetBE w (l ++ s ++ [0]) 0 e w')

theorem RetZ.yes {w : World} {l s : List UInt8} {e : Ending} {w' : World} (hc : s.contains 0 = true) (h : RetBE w [] 2 e w') : RetZ w l s e w' :=
  ⟨fun _ => h, fun h' => by rw [hc] at h'; cases h'⟩
theorem RetZ.no {w : World} {l s : List UInt8} {e : Ending} {w' : World} (hc : s.contains 0 = false) (h : RetBE w (l ++ s ++ [0]) 0 e w') : RetZ w l s e w' :=
  ⟨fun h' => (by rw [hc] at h'; cases h'), fun _ => h⟩

theorem str_getD (s : ByteArray) (k : Nat) (h : k < s.size) : s.data.toList.getD k 0 = s[k]'h := by
  have hl : k < s.data.toList.length := by rw [size_toList]; exact h
  rw [List.getD_eq_getElem?_getD, List.getElem?_eq_getElem hl]
  rfl

theorem byte_zero {c : UInt8} (h : ((c.toNat : Int) == 0) = true) : c = 0 := by
  have : (c.toNat : Int) = 0 := by simpa using h
  have h0 : (0 : UInt8).toNat = 0 := rfl
  exact UInt8.toNat.inj (by omega)
theorem byte_nz {c : UInt8} (h : ((c.toNat : Int) == 0) = false) : c ≠ 0 := by
  rintro rfl
  simp at h

set_option maxHeartbeats 400000 in
theorem appendEnded_len (w : World) (v : Value) (l : List UInt8) (s : ByteArray) (hr : Rd w v l) (hs : s.size ≤ 1000000) (hl : l.length ≤ 7000000) :
    Calls Tryz.prog 152 #[v, .string s] w (RetZ w l s.data.toList) := by
  have HR := Lib.hid hr
  clear hr
  have hz := idx_zero s.data.toList
  by_cases hc : s.data.toList.contains 0 = true
  · rw [if_pos hc] at hz
    have HZ := Lib.hid (show Lib.indexByte s.data.toList (0 : Int).toNat.toUInt8 = _ from hz)
    have HC := Lib.hid hc
    clear hz hc
    go_enter Tryz.func152, Tryz.ntmps152
    go_wp2_with (go_at_call 178; refine (idx_s _ _ _).mono ?_; rintro e w1 ⟨rfl, rfl⟩; rw [HZ.out])
    go_ret2
    exact RetZ.yes HC.out ⟨_, rfl, Own.nil _ _, Ext.refl _⟩
  · rw [if_neg hc] at hz
    have HZ := Lib.hid (show Lib.indexByte s.data.toList (0 : Int).toNat.toUInt8 = _ from hz)
    have HC := Lib.hid (show s.data.toList.contains 0 = false by simpa using hc)
    clear hz hc
    have hsz := size_toList s
    go_enter Tryz.func152, Tryz.ntmps152
    go_wp2_with (first | (go_at_call 178; refine (idx_s _ _ _).mono ?_; rintro e w1 ⟨rfl, rfl⟩; rw [HZ.out]) | (go_at_call 97; refine (clone_c _ _ _ HR.out (by omega)).mono ?_; rintro e w1 ⟨v1, rfl, ho1, hx1⟩) | (at_builtin; refine wpl_append_st bt s ho1 rfl _ _ rfl rfl rfl (by omega) (Ext.size hx1) ?_; intro v2 w2 ho2 hb2) | (at_builtin; refine wpl_append_one bt 0 ho2 (by omega) (by omega) rfl _ _ rfl rfl rfl (by rw [List.length_append]; omega) (Ext.size (hx1.below hb2 (Nat.le_refl _))) ?_; intro v3 w3 ho3 hb3))
    go_ret2
    exact RetZ.no HC.out ⟨_, rfl, ho3, (hx1.below hb2 (Nat.le_refl _)).below hb3 (Nat.le_refl _)⟩

set_option maxHeartbeats 400000 in
theorem appendEnded_ref (w : World) (v : Value) (l : List UInt8) (s : ByteArray) (hr : Rd w v l) (hs : s.size ≤ 1000000) (hl : l.length ≤ 7000000) :
    Calls Tryz.prog 157 #[v, .string s] w (RetZ w l s.data.toList) := by
  have HR := Lib.hid hr
  clear hr
  have hsz := Lib.hid (size_toList s)
  go_enter Tryz.func157, Tryz.ntmps157
  go_wp2_with fail
  go_loop [6] (fun i => ∃ k : Nat, k ≤ s.size ∧ i = .int .i64 k ∧ ∀ j, j < k → s.data.toList.getD j 0 ≠ 0) (fun i => s.size - (intOf i).toNat)
  case atStart => exact ⟨0, Nat.zero_le _, rfl, fun j hj => by omega⟩
  case round =>
    obtain ⟨k, hk, rfl, hj⟩ := hrel
    have HJ := Lib.hid hj
    clear hj
    by_cases hlt : k < s.size
    · go_wp2_with fail
      · have ht : (((s[k]'hlt).toNat : Int) == 0) = true := by assumption
        go_ret2
        refine RetZ.yes ?_ ⟨_, rfl, Own.nil _ _, Ext.refl _⟩
        exact (upZ_at s.data.toList k (by rw [hsz.out]; exact hlt) (by rw [str_getD s k hlt]; exact byte_zero ht) HJ.out).2
      · have ht : (((s[k]'hlt).toNat : Int) == 0) = false := by assumption
        go_round
        case rel =>
          refine ⟨k + 1, by omega, by go_num, fun j hj => ?_⟩
          rcases Nat.lt_or_ge j k with h | h
          · exact HJ.out j h
          · obtain rfl : j = k := by omega
            rw [str_getD s j hlt]
            exact byte_nz ht
        case measure => simp [intOf]; omega
    · obtain rfl : k = s.size := by omega
      have HC := Lib.hid (upZ_none s.data.toList (by rw [hsz.out]; exact HJ.out))
      go_wp2_with (first | (at_builtin; refine wpl_clone bt HR.out rfl _ _ rfl rfl rfl (by omega) ?_; intro v1 w1 ho1 hx1) | (at_builtin; refine wpl_append_st bt s ho1 rfl _ _ rfl rfl rfl (by omega) (Ext.size hx1) ?_; intro v2 w2 ho2 hb2) | (at_builtin; refine wpl_append_one bt 0 ho2 (by omega) (by omega) rfl _ _ rfl rfl rfl (by rw [List.length_append, hsz.out]; omega) (Ext.size (hx1.below hb2 (Nat.le_refl _))) ?_; intro v3 w3 ho3 hb3))
      go_ret2
      exact RetZ.no HC.out ⟨_, rfl, ho3, (hx1.below hb2 (Nat.le_refl _)).below hb3 (Nat.le_refl _)⟩

set_option maxHeartbeats 400000 in
theorem readEnded_len (w : World) (v : Value) (l : List UInt8) (hr : Rd w v l) :
    Calls Tryz.prog 135 #[v] w (RetT w (readZ l)) := by
  have HR := Lib.hid hr
  have hle := hr.le
  unfold maxLen at hle
  clear hr
  have hz := idx_zero l
  by_cases hc : l.contains 0 = true
  · have HT := Lib.hid (show readZ l = (upZ l, (upZ l).length + 1, 0) from if_pos hc)
    rw [if_pos hc] at hz
    have hu := upZ_lt l hc
    have HZ := Lib.hid (show Lib.indexByte l (0 : Int).toNat.toUInt8 = _ from hz)
    clear hz hc
    rw [HT.out]
    go_enter Tryz.func135, Tryz.ntmps135
    go_wp2_with (first | (go_at_call 78; refine (idx_b _ _ _ _ HR.out).mono ?_; rintro e w1 ⟨rfl, rfl⟩; rw [HZ.out]) | ((with_reducible show wpList _ _ _ (_ :: _) _ _); refine wpl_slice_hi bt HR.out ((upZ l).length : Int) (by omega) (by omega) rfl _ _ _ rfl rfl rfl ?_; intro v2 hr2) | ((with_reducible show wpList _ _ _ (_ :: _) _ _); refine wpl_str bt hr2 rfl _ rfl rfl ?_))
    go_ret3
    refine ⟨?_, rfl⟩
    have e2 : (((upZ l).length + 1 : Nat) : Int) = ((upZ l).length : Int) + 1 := by omega
    simp only [e2, upZ_take]
    rfl
  · have HT := Lib.hid (show readZ l = ([], 0, 4) from if_neg hc)
    rw [if_neg hc] at hz
    have HZ := Lib.hid (show Lib.indexByte l (0 : Int).toNat.toUInt8 = _ from hz)
    clear hz hc
    rw [HT.out]
    go_enter Tryz.func135, Tryz.ntmps135
    go_wp2_with (go_at_call 78; refine (idx_b _ _ _ _ HR.out).mono ?_; rintro e w1 ⟨rfl, rfl⟩; rw [HZ.out])
    go_ret3
    exact ⟨rfl, rfl⟩

set_option maxHeartbeats 1000000 in
theorem readEnded_ref (w : World) (v : Value) (l : List UInt8) (hr : Rd w v l) :
    Calls Tryz.prog 159 #[v] w (RetT w (readZ l)) := by
  have HR := Lib.hid hr
  obtain ⟨A, cap, rfl, hle, hm, hA, hc⟩ := hr
  have HC := Lib.hid hc
  clear hc hA
  unfold maxLen at hm
  go_enter Tryz.func159, Tryz.ntmps159
  go_wp2_with fail
  go_loop [5] (fun i => ∃ k : Nat, k ≤ l.length ∧ i = .int .i64 k ∧ ∀ j, j < k → l.getD j 0 ≠ 0) (fun i => l.length - (intOf i).toNat)
  case atStart => exact ⟨0, Nat.zero_le _, rfl, fun j hj => by omega⟩
  case round =>
    obtain ⟨k, hk, rfl, hj⟩ := hrel
    have HJ := Lib.hid hj
    clear hj
    by_cases hlt : k < l.length
    · obtain ⟨b, o, rfl, hc2⟩ := HC.out (by intro h; subst h; simp at hlt)
      have hcell := hc2 k hlt
      clear hc2
      obtain ⟨c, hcv⟩ : ∃ c, c = l.getD k 0 := ⟨_, rfl⟩
      rw [← hcv] at hcell
      have HV := Lib.hid hcv
      clear hcv
      go_wp2_with (first | ((with_reducible show AtS 19); refine wpl_slice_hi bt HR.out (k : Int) (by omega) (by omega) rfl _ _ _ rfl rfl rfl ?_; intro v2 hr2) | ((with_reducible show AtS 20); refine wpl_str bt hr2 rfl _ rfl rfl ?_))
      · have ht : ((c.toNat : Int) == 0) = true := by assumption
        obtain ⟨hu, hcon⟩ := upZ_at l k hlt (by rw [← HV.out]; exact byte_zero ht) HJ.out
        go_ret3
        refine ⟨?_, rfl⟩
        have e : readZ l = (l.take k, k + 1, 0) := by
          unfold readZ
          rw [if_pos hcon, ← hu, upZ_take]
        rw [e]
        rfl
      · have ht : ((c.toNat : Int) == 0) = false := by assumption
        go_round
        case rel =>
          refine ⟨k + 1, by omega, by go_num, fun j hj => ?_⟩
          rcases Nat.lt_or_ge j k with h | h
          · exact HJ.out j h
          · obtain rfl : j = k := by omega
            rw [← HV.out]
            exact byte_nz ht
        case measure => simp [intOf]; omega
    · obtain rfl : k = l.length := by omega
      have HE := Lib.hid (show readZ l = ([], 0, 4) by unfold readZ; rw [upZ_none l HJ.out]; rfl)
      go_wp2_with fail
      go_ret3
      rw [HE.out]
      exact ⟨rfl, rfl⟩
end Go.Proofs.YtbodppfpmpmadaaGreat

namespace Go.Proofs.YtbodppfpmpmadaaGreat
open Go.RowKit

def nonceOk (l : List UInt8) : Bool := !l.contains 0 && !l.contains 36
def rZ (s : List UInt8 × Int) : List UInt8 × (List UInt8 × Int) := if s.2 = 0 then (if (readZ s.1).2.2 = 0 then ((readZ s.1).1, (s.1.drop (readZ s.1).2.1, 0)) else ([], (s.1, (readZ s.1).2.2))) else ([], s)
def rU (s : List UInt8 × Int) : List UInt8 × (List UInt8 × Int) := if s.2 = 0 then (if (readT s.1).2.2 = 0 then ((readT s.1).1, (s.1.drop (readT s.1).2.1, 0)) else ([], (s.1, (readT s.1).2.2))) else ([], s)
def rX (n : Nat) (s : List UInt8 × Int) : Int × (List UInt8 × Int) := ((leN (rB n s).1 : Int), (rB n s).2)
def r0 (n : Nat) (s : List UInt8 × Int) : List UInt8 × Int := rW ((rB n s).1 != List.replicate n 0) (rB n s).2
def rE (e : Int) (s : List UInt8 × Int) : List UInt8 × Int := if s.2 = 0 then (s.1, e) else s
theorem rW_true (s : List UInt8 × Int) : rW true s = rE 5 s := by unfold rW rE; simp
theorem rW_false (s : List UInt8 × Int) : rW false s = s := by unfold rW; simp

theorem fails_g (a w : World) (g : Nat) (s s' : List UInt8 × Int) (x : Int) (h : Rdr a w g s) (hx : rE x s = s') :
    Calls Tryz.prog 134 #[.pointer (some ⟨g, 0, none⟩), .int .i64 x] w (RetR a w g (.tuple #[]) s') := by
  obtain ⟨l, e⟩ := s
  obtain ⟨v, c0, hr⟩ := h.c0
  have c1 := h.c1
  have f0 := h.f0
  have f1 := h.f1
  try dsimp only at hr c1
  have HR := Lib.hid hr
  have H := Lib.hid h
  clear h hr
  by_cases he : e = 0
  · subst he
    have hs : s' = (l, x) := by rw [← hx]; simp [rE]
    subst hs
    clear hx
    go_enter Tryz.func134, Tryz.ntmps134
    go_wp2_with fail
    refine bodyPost_end (results_none rfl _ _ _) rfl ?_
    exact ⟨rfl, H.out.set1 x, (On.refl g w).set 1 _⟩
  · have hs : s' = (l, e) := by rw [← hx]; simp [rE, he]
    subst hs
    have hb : (e == 0) = false := by simpa using he
    clear hx
    go_enter Tryz.func134, Tryz.ntmps134
    go_wp2_with fail
    refine bodyPost_end (results_none rfl _ _ _) rfl ?_
    exact ⟨rfl, H.out, On.refl g w⟩

theorem bad_g (a w : World) (g : Nat) (s s' : List UInt8 × Int) (b : Bool) (h : Rdr a w g s) (hx : rW b s = s') :
    Calls Tryz.prog 79 #[.pointer (some ⟨g, 0, none⟩), .bool b] w (RetR a w g (.tuple #[]) s') := by
  have H := Lib.hid h
  clear h
  cases b with
  | true =>
    rw [rW_true] at hx
    have HX := Lib.hid hx
    clear hx
    go_enter Tryz.func79, Tryz.ntmps79
    go_wp2_with (go_at_call 134; refine (fails_g a _ g s s' 5 H.out HX.out).mono ?_; rintro e w1 ⟨rfl, R1, O1⟩)
    refine bodyPost_end (results_none rfl _ _ _) rfl ?_
    exact ⟨rfl, R1, O1⟩
  | false =>
    rw [rW_false] at hx
    subst hx
    go_enter Tryz.func79, Tryz.ntmps79
    go_wp2_with fail
    refine bodyPost_end (results_none rfl _ _ _) rfl ?_
    exact ⟨rfl, H.out, On.refl g w⟩

set_option maxRecDepth 100000 in
set_option maxHeartbeats 1000000 in
theorem take_g (a w : World) (g : Nat) (s : List UInt8 × Int) (n : Nat) (x : List UInt8) (s' : List UInt8 × Int) (h : Rdr a w g s) (hn : n ≤ 100000) (hx : rB n s = (x, s')) :
    Calls Tryz.prog 80 #[.pointer (some ⟨g, 0, none⟩), .int .i64 (n : Int)] w (RetO a w g x s') := by
  obtain ⟨l, e⟩ := s
  obtain ⟨v, c0, hr⟩ := h.c0
  have c1 := h.c1
  have f0 := h.f0
  have f1 := h.f1
  try dsimp only at hr c1
  have HR := Lib.hid hr
  have H := Lib.hid h
  clear h hr
  obtain ⟨A, cap, rfl, hle, hm, hA, hc⟩ := id HR.out
  unfold maxLen at hm
  clear hA hc
  by_cases he : e = 0
  · subst he
    by_cases hl : l.length < n
    · simp only [rB, ↓reduceIte, hl, Prod.mk.injEq] at hx
      obtain ⟨rfl, rfl⟩ := hx
      have c1' := World.cell?_setCell_same w ⟨g, 1, none⟩ (.int .i64 4) c1
      go_enter Tryz.func80, Tryz.ntmps80
      go_wp2_with ((with_reducible show AtS 29); refine wpl_makeN bt n (by omega) rfl _ _ _ _ rfl rfl rfl ?_; intro v1 w1 ho hx1)
      go_ret
      refine ⟨_, rfl, ho.more (by simp), (H.out.set1 4).grow hx1, ((On.refl g w).set 1 _).ext hx1⟩
    · simp only [rB, ↓reduceIte, hl, Prod.mk.injEq] at hx
      obtain ⟨rfl, rfl⟩ := hx
      go_enter Tryz.func80, Tryz.ntmps80
      go_wp2_with (first
        | ((with_reducible show AtS 35); refine wpl_cut_hi bt HR.out (n : Int) (by omega) (by omega) rfl _ _ _ rfl rfl rfl ?_; intro A1 m1 cap1 hr1)
        | ((with_reducible show AtS 42); refine wpl_cut_lo bt HR.out (n : Int) (by omega) (by omega) rfl _ _ _ rfl rfl rfl ?_; intro A2 m2 cap2 hr2)
        | (go_at_call 97; refine (clone_c _ _ (l.take n) (by have := hr1.ext (H.out.ext.setCell (p := ⟨g, 0, none⟩) H.out.lo (.slice A2 m2 cap2)); simpa using this) (by rw [List.length_take]; omega)).mono ?_; rintro e w1 ⟨v1, rfl, ho, hx1⟩))
      go_ret
      refine ⟨_, rfl, ho.more (by simp), ?_, ((On.refl g w).set 0 _).ext hx1⟩
      have := (H.out.set0 hr2).grow hx1
      simpa using this
  · have hb : (e == 0) = false := by simpa using he
    simp only [rB, he, ↓reduceIte, Prod.mk.injEq] at hx
    obtain ⟨rfl, rfl⟩ := hx
    go_enter Tryz.func80, Tryz.ntmps80
    go_wp2_with ((with_reducible show AtS 29); refine wpl_makeN bt n (by omega) rfl _ _ _ _ rfl rfl rfl ?_; intro v1 w1 ho hx1)
    go_ret
    exact ⟨_, rfl, ho, H.out.grow hx1, On.of hx1⟩

theorem readF_all (l : List UInt8) (n : Nat) (h : l.length = n) (h1 : 1 ≤ n) (h2 : n ≤ 8) : readF l (n : Int) = ((leN l : Int), 0) := by
  unfold readF
  rw [if_neg (by omega), if_neg (by omega), Int.toNat_natCast, List.take_of_length_le (by omega)]

set_option maxRecDepth 100000 in
set_option maxHeartbeats 1000000 in
theorem fixed_g (a w : World) (g : Nat) (s : List UInt8 × Int) (n : Nat) (x : Int) (s' : List UInt8 × Int) (h : Rdr a w g s) (h1 : 1 ≤ n) (h8 : n ≤ 8) (hx : rX n s = (x, s')) :
    Calls Tryz.prog 82 #[.pointer (some ⟨g, 0, none⟩), .int .i64 (n : Int)] w (RetR a w g (.int .u64 x) s') := by
  obtain ⟨y, s1, hq⟩ : ∃ y s1, rB n s = (y, s1) := ⟨_, _, rfl⟩
  have hl := rB_length n s
  unfold rX at hx
  rw [hq] at hx hl
  dsimp only at hx hl
  cases hx
  have hf := readF_all y n hl h1 h8
  have HQ := Lib.hid hq
  have HF := Lib.hid hf
  have H := Lib.hid h
  clear h hq hl hf
  go_enter Tryz.func82, Tryz.ntmps82
  go_wp2_with (first
    | (go_at_call 80; refine (take_g a _ g s n y _ H.out (by omega) HQ.out).mono ?_; rintro e w1 ⟨v1, rfl, ho, R1, O1⟩)
    | (go_at_call 136; refine (readFixed_at_len _ _ _ _ _ _ ho.rd HF.out).mono ?_; rintro e w2 ⟨rfl, rfl⟩)
    | fail)
  go_ret
  exact ⟨rfl, R1, O1⟩

theorem readZ_le {l x : List UInt8} {n : Nat} (h : readZ l = (x, n, 0)) : n ≤ l.length := by
  unfold readZ at h
  split at h
  · rename_i hc
    have := upZ_lt l hc
    simp only [Prod.mk.injEq] at h
    omega
  · simp at h
theorem readZ_at_len (w : World) (v : Value) (l x : List UInt8) (n : Nat) (r : Int) (hr : Rd w v l) (h : readZ l = (x, n, r)) :
    Calls Tryz.prog 135 #[v] w fun e w' => e = .returned (.tuple #[.string (strL x), .int .i64 n, .int .i64 r]) ∧ w = w' := by
  have := readEnded_len w v l hr
  rw [h] at this
  exact this

set_option maxRecDepth 100000 in
set_option maxHeartbeats 1000000 in
theorem ended_g (a w : World) (g : Nat) (s : List UInt8 × Int) (x : List UInt8) (s' : List UInt8 × Int) (h : Rdr a w g s) (hx : rZ s = (x, s')) :
    Calls Tryz.prog 81 #[.pointer (some ⟨g, 0, none⟩)] w (RetR a w g (.string (strL x)) s') := by
  obtain ⟨l, e⟩ := s
  obtain ⟨v, c0, hr⟩ := h.c0
  have c1 := h.c1
  have f0 := h.f0
  have f1 := h.f1
  try dsimp only at hr c1
  have HR := Lib.hid hr
  have H := Lib.hid h
  clear h hr
  by_cases he : e = 0
  · subst he
    obtain ⟨x1, n1, r1, hq⟩ : ∃ x1 n1 r1, readZ l = (x1, n1, r1) := ⟨_, _, _, rfl⟩
    have HQ := Lib.hid hq
    by_cases h1 : r1 = 0
    · subst h1
      have hm : n1 ≤ l.length := readZ_le hq
      simp only [rZ, hq, ↓reduceIte, Prod.mk.injEq] at hx
      obtain ⟨rfl, rfl⟩ := hx
      clear hq
      go_enter Tryz.func81, Tryz.ntmps81
      go_wp2_with (first
        | (go_at_call 135; refine (readZ_at_len _ _ l _ _ _ (HR.out.ext H.out.ext) HQ.out).mono ?_; rintro e w1 ⟨rfl, rfl⟩)
        | ((with_reducible show AtS 32); refine wpl_cut_lo bt HR.out (n1 : Int) (by omega) (by omega) rfl _ _ _ rfl rfl rfl ?_; intro A' m' c' hr'))
      go_ret
      exact ⟨rfl, by simpa using H.out.set0 hr', (On.refl g w).set 0 _⟩
    · simp only [rZ, hq, ↓reduceIte, h1, Prod.mk.injEq] at hx
      obtain ⟨rfl, rfl⟩ := hx
      have hb : (r1 != 0) = true := by simpa using h1
      clear hq h1
      go_enter Tryz.func81, Tryz.ntmps81
      go_wp2_with (go_at_call 135; refine (readZ_at_len _ _ l _ _ _ (HR.out.ext H.out.ext) HQ.out).mono ?_; rintro e w1 ⟨rfl, rfl⟩)
      go_ret
      exact ⟨rfl, H.out.set1 r1, (On.refl g w).set 1 _⟩
  · have hb : (e != 0) = true := by simpa using he
    simp only [rZ, he, ↓reduceIte, Prod.mk.injEq] at hx
    obtain ⟨rfl, rfl⟩ := hx
    go_enter Tryz.func81, Tryz.ntmps81
    go_wp2_with fail
    go_ret
    exact ⟨rfl, H.out, On.refl g w⟩

set_option maxRecDepth 100000 in
set_option maxHeartbeats 1000000 in
theorem counted_g (a w : World) (g : Nat) (s : List UInt8 × Int) (x : List UInt8) (s' : List UInt8 × Int) (h : Rdr a w g s) (hx : rU s = (x, s')) :
    Calls Tryz.prog 137 #[.pointer (some ⟨g, 0, none⟩)] w (RetR a w g (.string (strL x)) s') := by
  obtain ⟨l, e⟩ := s
  obtain ⟨v, c0, hr⟩ := h.c0
  have c1 := h.c1
  have f0 := h.f0
  have f1 := h.f1
  try dsimp only at hr c1
  have HR := Lib.hid hr
  have H := Lib.hid h
  clear h hr
  by_cases he : e = 0
  · subst he
    obtain ⟨x1, n1, r1, hq⟩ : ∃ x1 n1 r1, readT l = (x1, n1, r1) := ⟨_, _, _, rfl⟩
    have HQ := Lib.hid hq
    by_cases h1 : r1 = 0
    · subst h1
      have hm : n1 ≤ l.length := readT_le hq
      simp only [rU, hq, ↓reduceIte, Prod.mk.injEq] at hx
      obtain ⟨rfl, rfl⟩ := hx
      clear hq
      go_enter Tryz.func137, Tryz.ntmps137
      go_wp2_with (first
        | (go_at_call 175; refine (readT_at_len _ _ l _ _ _ (HR.out.ext H.out.ext) HQ.out).mono ?_; rintro e w1 ⟨rfl, rfl⟩)
        | ((with_reducible show AtS 32); refine wpl_cut_lo bt HR.out (n1 : Int) (by omega) (by omega) rfl _ _ _ rfl rfl rfl ?_; intro A' m' c' hr'))
      go_ret
      exact ⟨rfl, by simpa using H.out.set0 hr', (On.refl g w).set 0 _⟩
    · simp only [rU, hq, ↓reduceIte, h1, Prod.mk.injEq] at hx
      obtain ⟨rfl, rfl⟩ := hx
      have hb : (r1 != 0) = true := by simpa using h1
      clear hq h1
      go_enter Tryz.func137, Tryz.ntmps137
      go_wp2_with (go_at_call 175; refine (readT_at_len _ _ l _ _ _ (HR.out.ext H.out.ext) HQ.out).mono ?_; rintro e w1 ⟨rfl, rfl⟩)
      go_ret
      exact ⟨rfl, H.out.set1 r1, (On.refl g w).set 1 _⟩
  · have hb : (e != 0) = true := by simpa using he
    simp only [rU, he, ↓reduceIte, Prod.mk.injEq] at hx
    obtain ⟨rfl, rfl⟩ := hx
    go_enter Tryz.func137, Tryz.ntmps137
    go_wp2_with fail
    go_ret
    exact ⟨rfl, H.out, On.refl g w⟩

set_option maxRecDepth 100000 in
set_option maxHeartbeats 1000000 in
theorem over_g (a w : World) (g : Nat) (s s' : List UInt8 × Int) (h : Rdr a w g s) (hx : rO s = s') :
    Calls Tryz.prog 85 #[.pointer (some ⟨g, 0, none⟩)] w (RetR a w g (.int .i64 s'.2) s') := by
  obtain ⟨l, e⟩ := s
  obtain ⟨v, c0, hr⟩ := h.c0
  have c1 := h.c1
  have f0 := h.f0
  have f1 := h.f1
  try dsimp only at hr c1
  have HR := Lib.hid hr
  have H := Lib.hid h
  clear h hr
  obtain ⟨A, cap, rfl, hle, hm, hA, hc⟩ := id HR.out
  unfold maxLen at hm
  clear hA hc
  by_cases hl : 0 < l.length
  · have hli : 0 < (l.length : Int) := by omega
    unfold rO at hx
    rw [show decide (0 < (l, e).1.length) = true by simpa using hl] at hx
    have HX := Lib.hid hx
    clear hx
    go_enter Tryz.func85, Tryz.ntmps85
    go_wp2_with (go_at_call 79; refine (bad_g a _ g _ s' true H.out HX.out).mono ?_; rintro e1 w1 ⟨rfl, R1, O1⟩; have c1' := R1.c1)
    go_ret
    exact ⟨rfl, R1, O1⟩
  · obtain rfl : l = [] := List.eq_nil_of_length_eq_zero (by omega)
    unfold rO at hx
    rw [show decide (0 < (([] : List UInt8), e).1.length) = false from rfl] at hx
    have HX := Lib.hid hx
    clear hx
    go_enter Tryz.func85, Tryz.ntmps85
    go_wp2_with (go_at_call 79; refine (bad_g a _ g _ s' false H.out HX.out).mono ?_; rintro e1 w1 ⟨rfl, R1, O1⟩; have c1' := R1.c1)
    go_ret
    exact ⟨rfl, R1, O1⟩

theorem nonce_g (w : World) (v : Value) (l : List UInt8) (b : Bool) (hr : Rd w v l) (hb : nonceOk l = b) :
    Calls Tryz.prog 167 #[v] w fun e w' => e = .returned (.bool b) ∧ w = w' := by
  have HR := Lib.hid hr
  clear hr
  by_cases hc0 : l.contains 0 = true
  · have h0 := (idx_has 0 l).1 hc0
    obtain rfl : b = false := by rw [← hb]; unfold nonceOk; rw [hc0]; rfl
    generalize hq : Lib.indexByte l 0 = q at h0
    have HQ := Lib.hid hq
    have hd : decide (q < 0) = false := by simpa using h0
    clear hq hb hc0
    go_enter Tryz.func167, Tryz.ntmps167
    go_wp2_with (go_at_call 78; refine (idx_v _ _ l 0 _ q HR.out rfl HQ.out).mono ?_; rintro e w1 ⟨rfl, rfl⟩)
    go_ret
    exact ⟨rfl, rfl⟩
  · have hc0' : l.contains 0 = false := by simpa using hc0
    have h0 := (idx_has 0 l).2 hc0'
    have H0 := Lib.hid h0
    clear h0
    by_cases hc1 : l.contains 36 = true
    · have h1 := (idx_has 36 l).1 hc1
      obtain rfl : b = false := by rw [← hb]; unfold nonceOk; rw [hc1]; simp
      generalize hq : Lib.indexByte l 36 = q at h1
      have HQ := Lib.hid hq
      have hd : decide (q < 0) = false := by simpa using h1
      clear hq hb hc0 hc0' hc1
      go_enter Tryz.func167, Tryz.ntmps167
      go_wp2_with (first
        | (go_at_call 78; (with_reducible show Calls _ _ #[_, Value.int .u8 0] _ _); refine (idx_v _ _ l 0 _ (-1) HR.out rfl H0.out).mono ?_; rintro e w1 ⟨rfl, rfl⟩)
        | (go_at_call 78; refine (idx_v _ _ l 36 _ q HR.out rfl HQ.out).mono ?_; rintro e w1 ⟨rfl, rfl⟩))
      go_ret
      exact ⟨rfl, rfl⟩
    · have hc1' : l.contains 36 = false := by simpa using hc1
      have h1 := (idx_has 36 l).2 hc1'
      have H1 := Lib.hid h1
      obtain rfl : b = true := by rw [← hb]; unfold nonceOk; rw [hc0', hc1']; rfl
      clear h1 hb hc0 hc0' hc1 hc1'
      go_enter Tryz.func167, Tryz.ntmps167
      go_wp2_with (first
        | (go_at_call 78; (with_reducible show Calls _ _ #[_, Value.int .u8 0] _ _); refine (idx_v _ _ l 0 _ (-1) HR.out rfl H0.out).mono ?_; rintro e w1 ⟨rfl, rfl⟩)
        | (go_at_call 78; refine (idx_v _ _ l 36 _ (-1) HR.out rfl H1.out).mono ?_; rintro e w1 ⟨rfl, rfl⟩))
      go_ret
      exact ⟨rfl, rfl⟩
end Go.Proofs.YtbodppfpmpmadaaGreat

namespace Go.Proofs.YtbodppfpmpmadaaGreat
open Go.RowKit

abbrev Rdp (α : Type) := List UInt8 × Int → α × (List UInt8 × Int)
def bindR {α β : Type} (p : Rdp α) (f : α → Rdp β) : Rdp β := fun s => f (p s).1 (p s).2
def pureR {α : Type} (x : α) : Rdp α := fun s => (x, s)
def chkR (f : List UInt8 × Int → List UInt8 × Int) : Rdp Unit := fun s => ((), f s)

def Sticky {α : Type} (p : Rdp α) : Prop := ∀ s : List UInt8 × Int, s.2 ≠ 0 → (p s).2.2 = s.2
def Eats {α : Type} (p : Rdp α) (c : List UInt8) (v : α) : Prop := (∀ t, p (c ++ t, 0) = (v, (t, 0))) ∧ ∀ k, k < c.length → (p (c.take k, 0)).2.2 = 4
def Inv {α : Type} (p : Rdp α) (R : List UInt8 → α → Prop) : Prop := ∀ l v l', p (l, 0) = (v, (l', 0)) → ∃ c, l = c ++ l' ∧ R c v

theorem Sticky.pure {α : Type} (x : α) : Sticky (pureR x) := fun _ _ => rfl
theorem Sticky.bind {α β : Type} {p : Rdp α} {f : α → Rdp β} (hp : Sticky p) (hf : ∀ v, Sticky (f v)) : Sticky (bindR p f) := fun s hs => by
  have h1 := hp s hs
  have h2 := hf (p s).1 (p s).2 (by rw [h1]; exact hs)
  show (f (p s).1 (p s).2).2.2 = _
  rw [h2, h1]
theorem Eats.pure {α : Type} (x : α) : Eats (pureR x) [] x := ⟨fun _ => rfl, fun k hk => absurd hk (by simp)⟩
theorem Eats.bind {α β : Type} {p : Rdp α} {f : α → Rdp β} {c d : List UInt8} {v : α} {u : β} (hp : Eats p c v) (hf : Eats (f v) d u) (sf : ∀ v, Sticky (f v)) : Eats (bindR p f) (c ++ d) u := by
  refine ⟨fun t => ?_, fun k hk => ?_⟩
  · show f (p (c ++ d ++ t, 0)).1 (p (c ++ d ++ t, 0)).2 = _
    rw [List.append_assoc, hp.1]
    exact hf.1 t
  · show (f (p ((c ++ d).take k, 0)).1 (p ((c ++ d).take k, 0)).2).2.2 = 4
    by_cases h : k < c.length
    · rw [List.take_append_of_le_length (by omega)]
      have h2 := hp.2 k h
      rw [sf _ _ (by rw [h2]; decide), h2]
    · rw [List.take_append, List.take_of_length_le (by omega), hp.1]
      exact hf.2 (k - c.length) (by rw [List.length_append] at hk; omega)
theorem Inv.pure {α : Type} (x : α) : Inv (pureR x) (fun c v => c = [] ∧ v = x) := fun l v l' h => by
  injection h with h1 h2
  injection h2 with h3 _
  exact ⟨[], by rw [h3]; rfl, rfl, h1.symm⟩
theorem Inv.bind {α β : Type} {p : Rdp α} {f : α → Rdp β} {R : List UInt8 → α → Prop} {T : α → List UInt8 → β → Prop} (hp : Inv p R) (hf : ∀ v, Inv (f v) (T v)) (sf : ∀ v, Sticky (f v)) :
    Inv (bindR p f) (fun c u => ∃ a v b, c = a ++ b ∧ R a v ∧ T v b u) := fun l u l' h => by
  obtain ⟨v, m, e, hq⟩ : ∃ v m e, p (l, 0) = (v, (m, e)) := ⟨_, _, _, rfl⟩
  have h' : f v (m, e) = (u, (l', 0)) := by
    have : bindR p f (l, 0) = f (p (l, 0)).1 (p (l, 0)).2 := rfl
    rw [this, hq] at h
    exact h
  by_cases he : e = 0
  · subst he
    obtain ⟨a, rfl, ha⟩ := hp l v m hq
    obtain ⟨b, rfl, hb⟩ := hf v m u l' h'
    exact ⟨a ++ b, by rw [List.append_assoc], a, v, b, rfl, ha, hb⟩
  · have := sf v (m, e) he
    rw [h'] at this
    exact absurd this.symm he

theorem rB_good (n : Nat) (c t : List UInt8) (h : c.length = n) : rB n (c ++ t, 0) = (c, (t, 0)) := by
  unfold rB
  rw [if_pos rfl, if_neg (by simp; omega)]
  simp only [← h, List.take_left, List.drop_left]
theorem rB_short (n : Nat) (c : List UInt8) (h : c.length < n) : rB n (c, 0) = (List.replicate n 0, (c, 4)) := by
  unfold rB
  rw [if_pos rfl, if_pos h]
theorem rB_err (n : Nat) (s : List UInt8 × Int) (h : s.2 ≠ 0) : rB n s = (List.replicate n 0, s) := by unfold rB; rw [if_neg h]
theorem Sticky.rB (n : Nat) : Sticky (rB n) := fun s h => by rw [rB_err n s h]
theorem Eats.rB (n : Nat) (c : List UInt8) (h : c.length = n) : Eats (rB n) c c := ⟨fun t => rB_good n c t h, fun k hk => by rw [rB_short n _ (by rw [List.length_take]; omega)]⟩
theorem Inv.rB (n : Nat) : Inv (rB n) (fun c v => v = c ∧ c.length = n) := fun l v l' h => by
  unfold Proofs.YtbodppfpmpmadaaGreat.rB at h
  rw [if_pos rfl] at h
  split at h
  · simp at h
  · injection h with h1 h2
    injection h2 with h3 _
    exact ⟨l.take n, by rw [← h3, List.take_append_drop], h1.symm, by rw [List.length_take]; dsimp only at *; omega⟩
theorem Sticky.rX (n : Nat) : Sticky (rX n) := fun s h => by unfold Proofs.YtbodppfpmpmadaaGreat.rX; rw [rB_err n s h]
theorem Eats.rX (n : Nat) (c : List UInt8) (h : c.length = n) : Eats (rX n) c (leN c : Int) :=
  ⟨fun t => by unfold Proofs.YtbodppfpmpmadaaGreat.rX; rw [rB_good n c t h], fun k hk => by unfold Proofs.YtbodppfpmpmadaaGreat.rX; rw [rB_short n _ (by rw [List.length_take]; omega)]⟩
theorem Inv.rX (n : Nat) : Inv (rX n) (fun c v => v = (leN c : Int) ∧ c.length = n) := fun l v l' h => by
  unfold Proofs.YtbodppfpmpmadaaGreat.rX at h
  injection h with h1 h2
  obtain ⟨c, h3, h4, h5⟩ := Inv.rB n l (Proofs.YtbodppfpmpmadaaGreat.rB n (l, 0)).1 l' (by rw [← h2])
  exact ⟨c, h3, by rw [← h1, h4], h5⟩
theorem Sticky.chk (b : Bool) : Sticky (chkR (rW b)) := fun s h => by show (rW b s).2 = _; unfold rW; rw [if_neg (fun h2 => h h2.1)]
theorem Eats.chk : Eats (chkR (rW false)) [] () := ⟨fun t => by show ((), rW false _) = _; rw [rW_false]; rfl, fun k hk => absurd hk (by simp)⟩
theorem Inv.chk (b : Bool) : Inv (chkR (rW b)) (fun c _ => c = [] ∧ b = false) := fun l v l' h => by
  have h2 : rW b (l, 0) = (l', 0) := congrArg Prod.snd h
  cases b with
  | true => rw [rW_true] at h2; simp [rE] at h2
  | false => rw [rW_false] at h2; injection h2 with h3 _; exact ⟨[], by rw [h3]; rfl, rfl, rfl⟩
theorem Sticky.r0 (n : Nat) : Sticky (chkR (r0 n)) := fun s h => by
  show (Proofs.YtbodppfpmpmadaaGreat.r0 n s).2 = _
  unfold Proofs.YtbodppfpmpmadaaGreat.r0
  rw [rB_err n s h]
  exact Sticky.chk _ s h
theorem Eats.r0 (n : Nat) : Eats (chkR (r0 n)) (List.replicate n 0) () := by
  refine ⟨fun t => ?_, fun k hk => ?_⟩
  · show ((), Proofs.YtbodppfpmpmadaaGreat.r0 n _) = _
    unfold Proofs.YtbodppfpmpmadaaGreat.r0
    rw [rB_good n _ t (by simp)]
    simp only [bne_self_eq_false]
    rw [rW_false]
  · show (Proofs.YtbodppfpmpmadaaGreat.r0 n _).2 = _
    unfold Proofs.YtbodppfpmpmadaaGreat.r0
    rw [List.length_replicate] at hk
    rw [rB_short n _ (by rw [List.length_take, List.length_replicate]; omega)]
    simp only [bne_self_eq_false]
    rw [rW_false]
theorem Inv.r0 (n : Nat) : Inv (chkR (r0 n)) (fun c _ => c = List.replicate n 0) := fun l v l' h => by
  have h2 : Proofs.YtbodppfpmpmadaaGreat.r0 n (l, 0) = (l', 0) := congrArg Prod.snd h
  unfold Proofs.YtbodppfpmpmadaaGreat.r0 at h2
  by_cases hl : l.length < n
  · rw [rB_short n l hl] at h2
    simp only [bne_self_eq_false] at h2
    rw [rW_false] at h2
    simp at h2
  · have e : Proofs.YtbodppfpmpmadaaGreat.rB n (l, 0) = (l.take n, (l.drop n, 0)) := by unfold Proofs.YtbodppfpmpmadaaGreat.rB; rw [if_pos rfl, if_neg hl]
    rw [e] at h2
    dsimp only at h2
    by_cases hz : l.take n = List.replicate n 0
    · rw [hz] at h2
      simp only [bne_self_eq_false] at h2
      rw [rW_false] at h2
      injection h2 with h3 _
      exact ⟨List.replicate n 0, by rw [← h3, ← hz, List.take_append_drop], rfl⟩
    · have hb : (l.take n != List.replicate n 0) = true := by simpa using hz
      rw [hb, rW_true] at h2
      simp [rE] at h2
theorem readZ_good (s t : List UInt8) (h : s.contains 0 = false) : readZ (s ++ [0] ++ t) = (s, s.length + 1, 0) := readZ_ended s t h
theorem readZ_none (l : List UInt8) (h : l.contains 0 = false) : readZ l = ([], 0, 4) := by unfold readZ; rw [if_neg (by rw [h]; decide)]
theorem Sticky.rZ : Sticky rZ := fun s h => by unfold Proofs.YtbodppfpmpmadaaGreat.rZ; rw [if_neg h]
theorem Eats.rZ (s : List UInt8) (h : s.contains 0 = false) : Eats rZ (s ++ [0]) s := by
  refine ⟨fun t => ?_, fun k hk => ?_⟩
  · unfold Proofs.YtbodppfpmpmadaaGreat.rZ
    rw [if_pos rfl, readZ_good s t h, if_pos rfl]
    have : (s ++ [0] ++ t).drop (s.length + 1) = t := by
      have e : s.length + 1 = (s ++ [0]).length := by simp
      rw [e, List.drop_left]
    simp only [this]
  · rw [List.length_append, List.length_singleton] at hk
    have e : (s ++ [0]).take k = s.take k := List.take_append_of_le_length (by omega)
    have hz : (s.take k).contains 0 = false := by
      simp only [List.contains_eq_mem, decide_eq_false_iff_not] at h ⊢
      exact fun hm => h (List.mem_of_mem_take hm)
    unfold Proofs.YtbodppfpmpmadaaGreat.rZ
    rw [if_pos rfl, e, readZ_none _ hz, if_neg (by decide)]
theorem Inv.rZ : Inv rZ (fun c v => c = v ++ [0] ∧ v.contains 0 = false) := fun l v l' h => by
  unfold Proofs.YtbodppfpmpmadaaGreat.rZ at h
  rw [if_pos rfl] at h
  unfold readZ at h
  by_cases hc : l.contains 0 = true
  · rw [if_pos hc, if_pos rfl] at h
    injection h with h1 h2
    injection h2 with h3 _
    dsimp only at h1 h3
    have hlt := upZ_lt l hc
    have ht := upZ_take l
    subst h1
    have hno : (upZ l).contains 0 = false := by
      unfold upZ
      simp only [List.contains_eq_mem, decide_eq_false_iff_not]
      intro hm
      have := List.all_takeWhile (p := (· != (0 : UInt8))) (l := l)
      rw [List.all_eq_true] at this
      simpa using this 0 hm
    have hat : l[(upZ l).length]? = some 0 := by
      have hd : l = upZ l ++ l.dropWhile (· != 0) := (List.takeWhile_append_dropWhile).symm
      have hne : l.dropWhile (· != 0) ≠ [] := by
        intro e; rw [e, List.append_nil] at hd; rw [← hd] at hlt; omega
      obtain ⟨x, r, hx⟩ : ∃ x r, l.dropWhile (· != 0) = x :: r := List.exists_cons_of_ne_nil hne
      have hx0 : x = 0 := by
        have := List.head_dropWhile_not (p := (· != (0 : UInt8))) (l := l) hne
        simp only [hx, List.head_cons] at this
        simpa using this
      have key : (upZ l ++ x :: r)[(upZ l).length]? = some x := by rw [List.getElem?_append_right (Nat.le_refl _), Nat.sub_self]; rfl
      rw [hx] at hd
      rw [← hd, hx0] at key
      exact key
    refine ⟨upZ l ++ [0], ?_, rfl, hno⟩
    rw [← h3]
    conv => lhs; rw [← List.take_append_drop ((upZ l).length + 1) l, List.take_add_one, ht, hat]
    rfl
  · rw [if_neg hc, if_neg (by decide)] at h
    simp at h
end Go.Proofs.YtbodppfpmpmadaaGreat

