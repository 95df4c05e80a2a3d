import Derived.Test.YtbodppfpmpmadaaGreatL7C
import Derived.Test.YtbodppfpmpmadaaGreatL5C
import Derived.Test.YtbodppfpmpmadaaGreatL4C
/- The reader of logins' packets: what its methods read. (Printed by gen_grA.py.) -/
namespace Go.Proofs.YtbodppfpmpmadaaGreat
open Go.RowKit

/-- Bytes that may be part of a nonce. -/
def nonceOk (l : List UInt8) : Bool := !l.contains 0 && !l.contains 36
/-- An ended text; a fixed number; bytes that must be noughts; an error is noted. -/
def rZ (s : List UInt8 × Int) : List UInt8 × (List UInt8 × Int) := if s.2 = 0 then (if (readZ s.1).2.2 = 0 then ((readZ s.1).1, (s.1.drop (readZ s.1).2.1, 0)) else ([], (s.1, (readZ s.1).2.2))) else ([], s)
def rU (s : List UInt8 × Int) : List UInt8 × (List UInt8 × Int) := if s.2 = 0 then (if (readT s.1).2.2 = 0 then ((readT s.1).1, (s.1.drop (readT s.1).2.1, 0)) else ([], (s.1, (readT s.1).2.2))) else ([], s)
def rX (n : Nat) (s : List UInt8 × Int) : Int × (List UInt8 × Int) := ((leN (rB n s).1 : Int), (rB n s).2)
def r0 (n : Nat) (s : List UInt8 × Int) : List UInt8 × Int := rW ((rB n s).1 != List.replicate n 0) (rB n s).2
def rE (e : Int) (s : List UInt8 × Int) : List UInt8 × Int := if s.2 = 0 then (s.1, e) else s
theorem rW_true (s : List UInt8 × Int) : rW true s = rE 5 s := by unfold rW rE; simp
theorem rW_false (s : List UInt8 × Int) : rW false s = s := by unfold rW; simp

theorem fails_g (a w : World) (g : Nat) (s s' : List UInt8 × Int) (x : Int) (h : Rdr a w g s) (hx : rE x s = s') :
    Calls Tryz.prog 134 #[.pointer (some ⟨g, 0, none⟩), .int .i64 x] w (RetR a w g (.tuple #[]) s') := by
  obtain ⟨l, e⟩ := s
  obtain ⟨v, c0, hr⟩ := h.c0
  have c1 := h.c1
  have f0 := h.f0
  have f1 := h.f1
  try dsimp only at hr c1
  have HR := Lib.hid hr
  have H := Lib.hid h
  clear h hr
  by_cases he : e = 0
  · subst he
    have hs : s' = (l, x) := by rw [← hx]; simp [rE]
    subst hs
    clear hx
    go_enter Tryz.func134, Tryz.ntmps134
    go_wp2_with fail
    refine bodyPost_end (results_none rfl _ _ _) rfl ?_
    exact ⟨rfl, H.out.set1 x, (On.refl g w).set 1 _⟩
  · have hs : s' = (l, e) := by rw [← hx]; simp [rE, he]
    subst hs
    have hb : (e == 0) = false := by simpa using he
    clear hx
    go_enter Tryz.func134, Tryz.ntmps134
    go_wp2_with fail
    refine bodyPost_end (results_none rfl _ _ _) rfl ?_
    exact ⟨rfl, H.out, On.refl g w⟩

theorem bad_g (a w : World) (g : Nat) (s s' : List UInt8 × Int) (b : Bool) (h : Rdr a w g s) (hx : rW b s = s') :
    Calls Tryz.prog 79 #[.pointer (some ⟨g, 0, none⟩), .bool b] w (RetR a w g (.tuple #[]) s') := by
  have H := Lib.hid h
  clear h
  cases b with
  | true =>
    rw [rW_true] at hx
    have HX := Lib.hid hx
    clear hx
    go_enter Tryz.func79, Tryz.ntmps79
    go_wp2_with (go_at_call 134; refine (fails_g a _ g s s' 5 H.out HX.out).mono ?_; rintro e w1 ⟨rfl, R1, O1⟩)
    refine bodyPost_end (results_none rfl _ _ _) rfl ?_
    exact ⟨rfl, R1, O1⟩
  | false =>
    rw [rW_false] at hx
    subst hx
    go_enter Tryz.func79, Tryz.ntmps79
    go_wp2_with fail
    refine bodyPost_end (results_none rfl _ _ _) rfl ?_
    exact ⟨rfl, H.out, On.refl g w⟩


set_option maxRecDepth 100000 in
set_option maxHeartbeats 1000000 in
theorem take_g (a w : World) (g : Nat) (s : List UInt8 × Int) (n : Nat) (x : List UInt8) (s' : List UInt8 × Int) (h : Rdr a w g s) (hn : n ≤ 100000) (hx : rB n s = (x, s')) :
    Calls Tryz.prog 80 #[.pointer (some ⟨g, 0, none⟩), .int .i64 (n : Int)] w (RetO a w g x s') := by
  obtain ⟨l, e⟩ := s
  obtain ⟨v, c0, hr⟩ := h.c0
  have c1 := h.c1
  have f0 := h.f0
  have f1 := h.f1
  try dsimp only at hr c1
  have HR := Lib.hid hr
  have H := Lib.hid h
  clear h hr
  obtain ⟨A, cap, rfl, hle, hm, hA, hc⟩ := id HR.out
  unfold maxLen at hm
  clear hA hc
  by_cases he : e = 0
  · subst he
    by_cases hl : l.length < n
    · simp only [rB, ↓reduceIte, hl, Prod.mk.injEq] at hx
      obtain ⟨rfl, rfl⟩ := hx
      have c1' := World.cell?_setCell_same w ⟨g, 1, none⟩ (.int .i64 4) c1
      go_enter Tryz.func80, Tryz.ntmps80
      go_wp2_with ((with_reducible show wpList _ _ _ (⟨some 29, _, _, _, _, _⟩ :: _) _ _); refine wpl_makeN bt n (by omega) rfl _ _ _ _ rfl rfl rfl ?_; intro v1 w1 ho hx1)
      go_ret
      refine ⟨_, rfl, ho.more (by simp), (H.out.set1 4).grow hx1, ((On.refl g w).set 1 _).ext hx1⟩
    · simp only [rB, ↓reduceIte, hl, Prod.mk.injEq] at hx
      obtain ⟨rfl, rfl⟩ := hx
      go_enter Tryz.func80, Tryz.ntmps80
      go_wp2_with (first
        | ((with_reducible show wpList _ _ _ (⟨some 35, _, _, _, _, _⟩ :: _) _ _); refine wpl_cut_hi bt HR.out (n : Int) (by omega) (by omega) rfl _ _ _ rfl rfl rfl ?_; intro A1 m1 cap1 hr1)
        | ((with_reducible show wpList _ _ _ (⟨some 42, _, _, _, _, _⟩ :: _) _ _); refine wpl_cut_lo bt HR.out (n : Int) (by omega) (by omega) rfl _ _ _ rfl rfl rfl ?_; intro A2 m2 cap2 hr2)
        | (go_at_call 97; refine (clone_c _ _ (l.take n) (by have := hr1.ext (H.out.ext.setCell (p := ⟨g, 0, none⟩) H.out.lo (.slice A2 m2 cap2)); simpa using this) (by rw [List.length_take]; omega)).mono ?_; rintro e w1 ⟨v1, rfl, ho, hx1⟩))
      go_ret
      refine ⟨_, rfl, ho.more (by simp), ?_, ((On.refl g w).set 0 _).ext hx1⟩
      have := (H.out.set0 hr2).grow hx1
      simpa using this
  · have hb : (e == 0) = false := by simpa using he
    simp only [rB, he, ↓reduceIte, Prod.mk.injEq] at hx
    obtain ⟨rfl, rfl⟩ := hx
    go_enter Tryz.func80, Tryz.ntmps80
    go_wp2_with ((with_reducible show wpList _ _ _ (⟨some 29, _, _, _, _, _⟩ :: _) _ _); refine wpl_makeN bt n (by omega) rfl _ _ _ _ rfl rfl rfl ?_; intro v1 w1 ho hx1)
    go_ret
    exact ⟨_, rfl, ho, H.out.grow hx1, On.of hx1⟩

theorem readF_all (l : List UInt8) (n : Nat) (h : l.length = n) (h1 : 1 ≤ n) (h2 : n ≤ 8) : readF l (n : Int) = ((leN l : Int), 0) := by
  unfold readF
  rw [if_neg (by omega), if_neg (by omega), Int.toNat_natCast, List.take_of_length_le (by omega)]


set_option maxRecDepth 100000 in
set_option maxHeartbeats 1000000 in
theorem fixed_g (a w : World) (g : Nat) (s : List UInt8 × Int) (n : Nat) (x : Int) (s' : List UInt8 × Int) (h : Rdr a w g s) (h1 : 1 ≤ n) (h8 : n ≤ 8) (hx : rX n s = (x, s')) :
    Calls Tryz.prog 82 #[.pointer (some ⟨g, 0, none⟩), .int .i64 (n : Int)] w (RetR a w g (.int .u64 x) s') := by
  obtain ⟨y, s1, hq⟩ : ∃ y s1, rB n s = (y, s1) := ⟨_, _, rfl⟩
  have hl := rB_length n s
  unfold rX at hx
  rw [hq] at hx hl
  dsimp only at hx hl
  cases hx
  have hf := readF_all y n hl h1 h8
  have HQ := Lib.hid hq
  have HF := Lib.hid hf
  have H := Lib.hid h
  clear h hq hl hf
  go_enter Tryz.func82, Tryz.ntmps82
  go_wp2_with (first
    | (go_at_call 80; refine (take_g a _ g s n y _ H.out (by omega) HQ.out).mono ?_; rintro e w1 ⟨v1, rfl, ho, R1, O1⟩)
    | (go_at_call 136; refine (readFixed_at_len _ _ _ _ _ _ ho.rd HF.out).mono ?_; rintro e w2 ⟨rfl, rfl⟩)
    | fail)
  go_ret
  exact ⟨rfl, R1, O1⟩


theorem readZ_le {l x : List UInt8} {n : Nat} (h : readZ l = (x, n, 0)) : n ≤ l.length := by
  unfold readZ at h
  split at h
  · rename_i hc
    have := upZ_lt l hc
    simp only [Prod.mk.injEq] at h
    omega
  · simp at h
theorem readZ_at_len (w : World) (v : Value) (l x : List UInt8) (n : Nat) (r : Int) (hr : Rd w v l) (h : readZ l = (x, n, r)) :
    Calls Tryz.prog 135 #[v] w fun e w' => e = .returned (.tuple #[.string (strL x), .int .i64 n, .int .i64 r]) ∧ w = w' := by
  have := readEnded_len w v l hr
  rw [h] at this
  exact this

set_option maxRecDepth 100000 in
set_option maxHeartbeats 1000000 in
theorem ended_g (a w : World) (g : Nat) (s : List UInt8 × Int) (x : List UInt8) (s' : List UInt8 × Int) (h : Rdr a w g s) (hx : rZ s = (x, s')) :
    Calls Tryz.prog 81 #[.pointer (some ⟨g, 0, none⟩)] w (RetR a w g (.string (strL x)) s') := by
  obtain ⟨l, e⟩ := s
  obtain ⟨v, c0, hr⟩ := h.c0
  have c1 := h.c1
  have f0 := h.f0
  have f1 := h.f1
  try dsimp only at hr c1
  have HR := Lib.hid hr
  have H := Lib.hid h
  clear h hr
  by_cases he : e = 0
  · subst he
    obtain ⟨x1, n1, r1, hq⟩ : ∃ x1 n1 r1, readZ l = (x1, n1, r1) := ⟨_, _, _, rfl⟩
    have HQ := Lib.hid hq
    by_cases h1 : r1 = 0
    · subst h1
      have hm : n1 ≤ l.length := readZ_le hq
      simp only [rZ, hq, ↓reduceIte, Prod.mk.injEq] at hx
      obtain ⟨rfl, rfl⟩ := hx
      clear hq
      go_enter Tryz.func81, Tryz.ntmps81
      go_wp2_with (first
        | (go_at_call 135; refine (readZ_at_len _ _ l _ _ _ (HR.out.ext H.out.ext) HQ.out).mono ?_; rintro e w1 ⟨rfl, rfl⟩)
        | ((with_reducible show wpList _ _ _ (⟨some 32, _, _, _, _, _⟩ :: _) _ _); refine wpl_cut_lo bt HR.out (n1 : Int) (by omega) (by omega) rfl _ _ _ rfl rfl rfl ?_; intro A' m' c' hr'))
      go_ret
      exact ⟨rfl, by simpa using H.out.set0 hr', (On.refl g w).set 0 _⟩
    · simp only [rZ, hq, ↓reduceIte, h1, Prod.mk.injEq] at hx
      obtain ⟨rfl, rfl⟩ := hx
      have hb : (r1 != 0) = true := by simpa using h1
      clear hq h1
      go_enter Tryz.func81, Tryz.ntmps81
      go_wp2_with (go_at_call 135; refine (readZ_at_len _ _ l _ _ _ (HR.out.ext H.out.ext) HQ.out).mono ?_; rintro e w1 ⟨rfl, rfl⟩)
      go_ret
      exact ⟨rfl, H.out.set1 r1, (On.refl g w).set 1 _⟩
  · have hb : (e != 0) = true := by simpa using he
    simp only [rZ, he, ↓reduceIte, Prod.mk.injEq] at hx
    obtain ⟨rfl, rfl⟩ := hx
    go_enter Tryz.func81, Tryz.ntmps81
    go_wp2_with fail
    go_ret
    exact ⟨rfl, H.out, On.refl g w⟩


set_option maxRecDepth 100000 in
set_option maxHeartbeats 1000000 in
theorem counted_g (a w : World) (g : Nat) (s : List UInt8 × Int) (x : List UInt8) (s' : List UInt8 × Int) (h : Rdr a w g s) (hx : rU s = (x, s')) :
    Calls Tryz.prog 137 #[.pointer (some ⟨g, 0, none⟩)] w (RetR a w g (.string (strL x)) s') := by
  obtain ⟨l, e⟩ := s
  obtain ⟨v, c0, hr⟩ := h.c0
  have c1 := h.c1
  have f0 := h.f0
  have f1 := h.f1
  try dsimp only at hr c1
  have HR := Lib.hid hr
  have H := Lib.hid h
  clear h hr
  by_cases he : e = 0
  · subst he
    obtain ⟨x1, n1, r1, hq⟩ : ∃ x1 n1 r1, readT l = (x1, n1, r1) := ⟨_, _, _, rfl⟩
    have HQ := Lib.hid hq
    by_cases h1 : r1 = 0
    · subst h1
      have hm : n1 ≤ l.length := readT_le hq
      simp only [rU, hq, ↓reduceIte, Prod.mk.injEq] at hx
      obtain ⟨rfl, rfl⟩ := hx
      clear hq
      go_enter Tryz.func137, Tryz.ntmps137
      go_wp2_with (first
        | (go_at_call 175; refine (readT_at_len _ _ l _ _ _ (HR.out.ext H.out.ext) HQ.out).mono ?_; rintro e w1 ⟨rfl, rfl⟩)
        | ((with_reducible show wpList _ _ _ (⟨some 32, _, _, _, _, _⟩ :: _) _ _); refine wpl_cut_lo bt HR.out (n1 : Int) (by omega) (by omega) rfl _ _ _ rfl rfl rfl ?_; intro A' m' c' hr'))
      go_ret
      exact ⟨rfl, by simpa using H.out.set0 hr', (On.refl g w).set 0 _⟩
    · simp only [rU, hq, ↓reduceIte, h1, Prod.mk.injEq] at hx
      obtain ⟨rfl, rfl⟩ := hx
      have hb : (r1 != 0) = true := by simpa using h1
      clear hq h1
      go_enter Tryz.func137, Tryz.ntmps137
      go_wp2_with (go_at_call 175; refine (readT_at_len _ _ l _ _ _ (HR.out.ext H.out.ext) HQ.out).mono ?_; rintro e w1 ⟨rfl, rfl⟩)
      go_ret
      exact ⟨rfl, H.out.set1 r1, (On.refl g w).set 1 _⟩
  · have hb : (e != 0) = true := by simpa using he
    simp only [rU, he, ↓reduceIte, Prod.mk.injEq] at hx
    obtain ⟨rfl, rfl⟩ := hx
    go_enter Tryz.func137, Tryz.ntmps137
    go_wp2_with fail
    go_ret
    exact ⟨rfl, H.out, On.refl g w⟩


set_option maxRecDepth 100000 in
set_option maxHeartbeats 1000000 in
theorem over_g (a w : World) (g : Nat) (s s' : List UInt8 × Int) (h : Rdr a w g s) (hx : rO s = s') :
    Calls Tryz.prog 85 #[.pointer (some ⟨g, 0, none⟩)] w (RetR a w g (.int .i64 s'.2) s') := by
  obtain ⟨l, e⟩ := s
  obtain ⟨v, c0, hr⟩ := h.c0
  have c1 := h.c1
  have f0 := h.f0
  have f1 := h.f1
  try dsimp only at hr c1
  have HR := Lib.hid hr
  have H := Lib.hid h
  clear h hr
  obtain ⟨A, cap, rfl, hle, hm, hA, hc⟩ := id HR.out
  unfold maxLen at hm
  clear hA hc
  by_cases hl : 0 < l.length
  · have hli : 0 < (l.length : Int) := by omega
    unfold rO at hx
    rw [show decide (0 < (l, e).1.length) = true by simpa using hl] at hx
    have HX := Lib.hid hx
    clear hx
    go_enter Tryz.func85, Tryz.ntmps85
    go_wp2_with (go_at_call 79; refine (bad_g a _ g _ s' true H.out HX.out).mono ?_; rintro e1 w1 ⟨rfl, R1, O1⟩; have c1' := R1.c1)
    go_ret
    exact ⟨rfl, R1, O1⟩
  · obtain rfl : l = [] := List.eq_nil_of_length_eq_zero (by omega)
    unfold rO at hx
    rw [show decide (0 < (([] : List UInt8), e).1.length) = false from rfl] at hx
    have HX := Lib.hid hx
    clear hx
    go_enter Tryz.func85, Tryz.ntmps85
    go_wp2_with (go_at_call 79; refine (bad_g a _ g _ s' false H.out HX.out).mono ?_; rintro e1 w1 ⟨rfl, R1, O1⟩; have c1' := R1.c1)
    go_ret
    exact ⟨rfl, R1, O1⟩

theorem nonce_g (w : World) (v : Value) (l : List UInt8) (b : Bool) (hr : Rd w v l) (hb : nonceOk l = b) :
    Calls Tryz.prog 167 #[v] w fun e w' => e = .returned (.bool b) ∧ w = w' := by
  have HR := Lib.hid hr
  clear hr
  by_cases hc0 : l.contains 0 = true
  · have h0 := (idx_has 0 l).1 hc0
    obtain rfl : b = false := by rw [← hb]; unfold nonceOk; rw [hc0]; rfl
    generalize hq : Lib.indexByte l 0 = q at h0
    have HQ := Lib.hid hq
    have hd : decide (q < 0) = false := by simpa using h0
    clear hq hb hc0
    go_enter Tryz.func167, Tryz.ntmps167
    go_wp2_with (go_at_call 78; refine (idx_v _ _ l 0 _ q HR.out rfl HQ.out).mono ?_; rintro e w1 ⟨rfl, rfl⟩)
    go_ret
    exact ⟨rfl, rfl⟩
  · have hc0' : l.contains 0 = false := by simpa using hc0
    have h0 := (idx_has 0 l).2 hc0'
    have H0 := Lib.hid h0
    clear h0
    by_cases hc1 : l.contains 36 = true
    · have h1 := (idx_has 36 l).1 hc1
      obtain rfl : b = false := by rw [← hb]; unfold nonceOk; rw [hc1]; simp
      generalize hq : Lib.indexByte l 36 = q at h1
      have HQ := Lib.hid hq
      have hd : decide (q < 0) = false := by simpa using h1
      clear hq hb hc0 hc0' hc1
      go_enter Tryz.func167, Tryz.ntmps167
      go_wp2_with (first
        | (go_at_call 78; (with_reducible show Calls _ _ #[_, Value.int .u8 0] _ _); refine (idx_v _ _ l 0 _ (-1) HR.out rfl H0.out).mono ?_; rintro e w1 ⟨rfl, rfl⟩)
        | (go_at_call 78; refine (idx_v _ _ l 36 _ q HR.out rfl HQ.out).mono ?_; rintro e w1 ⟨rfl, rfl⟩))
      go_ret
      exact ⟨rfl, rfl⟩
    · have hc1' : l.contains 36 = false := by simpa using hc1
      have h1 := (idx_has 36 l).2 hc1'
      have H1 := Lib.hid h1
      obtain rfl : b = true := by rw [← hb]; unfold nonceOk; rw [hc0', hc1']; rfl
      clear h1 hb hc0 hc0' hc1 hc1'
      go_enter Tryz.func167, Tryz.ntmps167
      go_wp2_with (first
        | (go_at_call 78; (with_reducible show Calls _ _ #[_, Value.int .u8 0] _ _); refine (idx_v _ _ l 0 _ (-1) HR.out rfl H0.out).mono ?_; rintro e w1 ⟨rfl, rfl⟩)
        | (go_at_call 78; refine (idx_v _ _ l 36 _ (-1) HR.out rfl H1.out).mono ?_; rintro e w1 ⟨rfl, rfl⟩))
      go_ret
      exact ⟨rfl, rfl⟩
end Go.Proofs.YtbodppfpmpmadaaGreat
/- Plain laws: what was written is read back. No condition; no program. -/
namespace Go.Proofs.YtbodppfpmpmadaaGreat

theorem leN_fixB (x : Nat) (n : Nat) : leN (fixB (x : Int) n) = x % 2 ^ (8 * n) := by
  induction n with
  | zero => simp [fixB, leN, Nat.mod_one]
  | succ n ih =>
    rw [fixB_succ, leN_append, fixB_length, ih]
    have e : (UInt8.ofNat ((x : Int) / 2 ^ (8 * n) % 256).toNat).toNat = x / 2 ^ (8 * n) % 256 := by
      have : ((x : Int) / 2 ^ (8 * n) % 256) = ((x / 2 ^ (8 * n) % 256 : Nat) : Int) := by simp
      rw [this, Int.toNat_natCast, UInt8.toNat_ofNat']
      omega
    rw [e, show 8 * (n + 1) = 8 * n + 8 by omega, Nat.pow_add, Nat.mod_mul, Nat.mul_comm (2 ^ (8 * n))]

theorem intB_cases (x : Int) : (x ≤ 250 ∧ intB x = fixB x 1 ∧ sizeI x = 1) ∨ (250 < x ∧ x < 65536 ∧ intB x = 252 :: fixB x 2 ∧ sizeI x = 3) ∨
    (65536 ≤ x ∧ x < 16777216 ∧ intB x = 253 :: fixB x 3 ∧ sizeI x = 4) ∨ (16777216 ≤ x ∧ intB x = 254 :: fixB x 8 ∧ sizeI x = 9) := by
  unfold intB sizeI
  by_cases h1 : x ≤ 250
  · exact .inl ⟨h1, if_pos h1, if_pos h1⟩
  · by_cases h2 : x < 65536
    · exact .inr (.inl ⟨by omega, h2, by rw [if_neg h1, if_pos h2], by rw [if_neg h1, if_pos h2]⟩)
    · by_cases h3 : x < 16777216
      · exact .inr (.inr (.inl ⟨by omega, h3, by rw [if_neg h1, if_neg h2, if_pos h3], by rw [if_neg h1, if_neg h2, if_pos h3]⟩))
      · exact .inr (.inr (.inr ⟨by omega, by rw [if_neg h1, if_neg h2, if_neg h3], by rw [if_neg h1, if_neg h2, if_neg h3]⟩))

theorem readI_wide (c : UInt8) (n : Nat) (hc : (c = 252 ∧ n = 2) ∨ (c = 253 ∧ n = 3) ∨ (c = 254 ∧ n = 8)) (t : List UInt8) :
    readI (c :: t) = if t.length < n then (0, 0, 4) else ((leN (t.take n) : Int), n + 1, 0) := by
  rcases hc with ⟨rfl, rfl⟩ | ⟨rfl, rfl⟩ | ⟨rfl, rfl⟩ <;> rfl

theorem readI_small (c : UInt8) (t : List UInt8) (h : c.toNat ≤ 250) : readI (c :: t) = ((c.toNat : Int), 1, 0) :=
  if_pos h

/-- A counted number is read back, whatever stands behind it. -/
theorem readI_intB (x : Int) (h0 : 0 ≤ x) (h1 : x < 18446744073709551616) (t : List UInt8) : readI (intB x ++ t) = (x, sizeI x, 0) := by
  obtain ⟨X, rfl⟩ : ∃ X : Nat, x = X := ⟨x.toNat, by omega⟩
  rcases intB_cases (X : Int) with ⟨h, e, hs⟩ | ⟨h, h2, e, hs⟩ | ⟨h, h2, e, hs⟩ | ⟨h, e, hs⟩
  · have e2 : fixB (X : Int) 1 = [UInt8.ofNat X] := by
      have : (X : Int) % 256 = X := by omega
      simp [fixB, this]
    have e3 : (UInt8.ofNat X).toNat = X := by rw [UInt8.toNat_ofNat']; omega
    rw [e, e2, hs, List.singleton_append, readI_small _ _ (by rw [e3]; omega), e3]
  all_goals rw [e, hs, List.cons_append]
  · rw [readI_wide 252 2 (.inl ⟨rfl, rfl⟩), if_neg (by rw [List.length_append, fixB_length]; omega), List.take_append_of_le_length (by rw [fixB_length]; omega), List.take_of_length_le (by rw [fixB_length]; omega), leN_fixB, Nat.mod_eq_of_lt (by omega)]
  · rw [readI_wide 253 3 (.inr (.inl ⟨rfl, rfl⟩)), if_neg (by rw [List.length_append, fixB_length]; omega), List.take_append_of_le_length (by rw [fixB_length]; omega), List.take_of_length_le (by rw [fixB_length]; omega), leN_fixB, Nat.mod_eq_of_lt (by omega)]
  · rw [readI_wide 254 8 (.inr (.inr ⟨rfl, rfl⟩)), if_neg (by rw [List.length_append, fixB_length]; omega), List.take_append_of_le_length (by rw [fixB_length]; omega), List.take_of_length_le (by rw [fixB_length]; omega), leN_fixB, Nat.mod_eq_of_lt (by omega)]

/-- What is read is no number that a shorter form would hold. -/
theorem sizeI_of_readI {l : List UInt8} {x : Int} {n : Nat} (h : readI l = (x, n, 0)) : sizeI x ≤ n ∧ 0 ≤ x ∧ x < 18446744073709551616 := by
  rcases readI_cases l with ⟨_, he⟩ | ⟨c, t, rfl, ⟨hc, he⟩ | ⟨_, he⟩ | ⟨_, he⟩ | ⟨m, hm2, ⟨_, he⟩ | ⟨hm, he⟩⟩⟩
  all_goals
    rw [he] at h
    injection h with h1 h2
    injection h2 with h2 h3
  · omega
  · subst h1 h2
    rw [show sizeI (c.toNat : Int) = 1 from if_pos (by omega)]
    omega
  · omega
  · omega
  · omega
  · have hlt := leN_take_lt t m
    subst h1 h2
    have hs := sizeI_le ((leN (t.take m) : Nat) : Int)
    rcases intB_cases ((leN (t.take m) : Nat) : Int) with ⟨h, e, hs⟩ | ⟨h, h2, e, hs⟩ | ⟨h, h2, e, hs⟩ | ⟨h, e, hs⟩
    all_goals rcases hm2 with ⟨_, rfl⟩ | ⟨_, rfl⟩ | ⟨_, rfl⟩ <;> omega
end Go.Proofs.YtbodppfpmpmadaaGreat
/- Plain laws: texts that were written are read back. No condition; no program. -/
namespace Go.Proofs.YtbodppfpmpmadaaGreat

/-- Each first part of a number's form is too short. -/
theorem readI_take (x : Int) (i : Nat) (h : i < (intB x).length) : readI ((intB x).take i) = (0, 0, 4) := by
  rcases i with _ | j
  · rfl
  · rcases intB_cases x with ⟨_, e, _⟩ | ⟨_, _, e, _⟩ | ⟨_, _, e, _⟩ | ⟨_, e, _⟩
    all_goals rw [e] at h ⊢
    · rw [fixB_length] at h
      omega
    all_goals
      rw [List.length_cons, fixB_length] at h
      rw [List.take_succ_cons]
    · rw [readI_wide 252 2 (.inl ⟨rfl, rfl⟩), if_pos (by rw [List.length_take]; omega)]
    · rw [readI_wide 253 3 (.inr (.inl ⟨rfl, rfl⟩)), if_pos (by rw [List.length_take]; omega)]
    · rw [readI_wide 254 8 (.inr (.inr ⟨rfl, rfl⟩)), if_pos (by rw [List.length_take]; omega)]

/-- A counted text is read back, whatever stands behind it. -/
theorem readT_textB (s t : List UInt8) (h : (s.length : Int) < 18446744073709551616) : readT (textB s ++ t) = (s, sizeI s.length + s.length, 0) := by
  have hi := readI_intB (s.length : Int) (by omega) h (s ++ t)
  have e : textB s ++ t = intB (s.length : Int) ++ (s ++ t) := by rw [textB, List.append_assoc]
  have hl := intB_length (s.length : Int)
  rw [e]
  unfold readT
  rw [hi]
  refine (if_pos rfl).trans ((if_neg ?_).trans ?_)
  · dsimp only
    rw [List.length_append, List.length_append, hl]
    omega
  · have e2 : sizeI (s.length : Int) + ((s.length : Nat) : Int).toNat = (intB (s.length : Int)).length + s.length := by rw [hl, Int.toNat_natCast]
    simp only [Int.toNat_natCast] at e2 ⊢
    rw [e2, List.take_length_add_append, List.take_left, ← hl, List.drop_left]

/-- An ended text is read back, whatever stands behind it. -/
theorem readZ_ended (s t : List UInt8) (h : s.contains 0 = false) : readZ (s ++ [0] ++ t) = (s, s.length + 1, 0) := by
  have hu : upZ (s ++ [0] ++ t) = s := by
    unfold upZ
    rw [List.append_assoc, List.takeWhile_append_of_pos]
    · simp
    · intro a ha
      have : a ≠ 0 := by
        rintro rfl
        have := List.contains_iff_mem.2 ha
        rw [h] at this
        cases this
      simpa using this
  unfold readZ
  rw [if_pos (by simp), hu]
end Go.Proofs.YtbodppfpmpmadaaGreat
