/- The contracts of the reference's fields, second half. (Printed by gen_rdD.py.) -/
import Derived.Test.YtnlfcknpmemhfaaRdC
import Derived.Test.YtnlfcknpmemhfaaLenG
namespace Go.Proofs.Ytnlfcknpmemhfaa
open Go.RowKit

theorem leN_zeros : ∀ n : Nat, leN (List.replicate n 0) = 0
  | 0 => rfl
  | n + 1 => by rw [List.replicate_succ, leN, leN_zeros n]; rfl

theorem rF_rB (n : Int) (s : List UInt8 × Int) (hn : 1 ≤ n ∧ n ≤ 8) : ∃ L r, rB n.toNat s = (L, (rF n s).2) ∧ readF L n = ((rF n s).1, r) := by
  obtain ⟨l, e⟩ := s
  have h0 : ¬ (n < 1 ∨ 8 < n) := by omega
  have hz : (readF (List.replicate n.toNat 0) n).1 = 0 := by
    unfold readF
    rw [if_neg h0, List.length_replicate, if_neg (by omega), List.take_replicate]
    simp [leN_zeros]
  by_cases he : e = 0
  · subst he
    by_cases hl : (l.length : Int) < n
    · refine ⟨List.replicate n.toNat 0, (readF (List.replicate n.toNat 0) n).2, ?_, ?_⟩
      · simp [rB, rF, readF, h0, hl, show l.length < n.toNat by omega]
      · refine Prod.ext ?_ rfl
        rw [hz]
        simp [rF, readF, h0, hl]
    · refine ⟨l.take n.toNat, 0, ?_, ?_⟩
      · simp [rB, rF, readF, h0, hl, show ¬ l.length < n.toNat by omega]
      · have h1 : ¬ (min (n.toNat : Int) (l.length : Int) < n) := by omega
        have h2 : ¬ ((min n.toNat l.length : Nat) : Int) < n := by omega
        simp only [rF, readF, h0, hl, ↓reduceIte, List.length_take, h2, List.take_take, Nat.min_self]
  · refine ⟨List.replicate n.toNat 0, (readF (List.replicate n.toNat 0) n).2, ?_, ?_⟩
    · simp [rB, rF, he]
    · refine Prod.ext ?_ rfl
      rw [hz]
      simp [rF, he]

theorem rF_byte {s s' : List UInt8 × Int} {b : UInt8} (h : rB 1 s = ([b], s')) : rF 1 s = ((b.toNat : Int), s') := by
  obtain ⟨L, r, h1, h2⟩ := rF_rB 1 s (by omega)
  rw [show (1 : Int).toNat = 1 from rfl, h, Prod.mk.injEq] at h1
  obtain ⟨rfl, h3⟩ := h1
  refine Prod.ext ?_ h3.symm
  have := congrArg Prod.fst h2
  rw [← this]
  simp [readF, leN]

theorem rB_one (s : List UInt8 × Int) : ∃ b s', rB 1 s = ([b], s') := by
  have := rB_length 1 s
  match h : rB 1 s, this with
  | ([b], s'), _ => exact ⟨b, s', rfl⟩

set_option maxRecDepth 100000 in
set_option maxHeartbeats 1000000 in
theorem byte_m (a w : World) (g : Nat) (s : List UInt8 × Int) (b : UInt8) (s' : List UInt8 × Int) (h : Rdr a w g s) (hx : rB 1 s = ([b], s')) :
    Calls Try.prog 79 #[.pointer (some ⟨g, 0, none⟩)] w (RetR a w g (.int .u8 (b.toNat : Int)) s') := by
  have H := Lib.hid h
  have HX := Lib.hid hx
  clear h hx
  go_enter Try.func79, Try.ntmps79
  go_wp2_with (go_at_call 86; refine (bytes_m a _ g s 1 _ _ H.out (by omega) HX.out).mono ?_; rintro e w1 ⟨v1, rfl, ho, R1, O1⟩; obtain ⟨A1, q1, rfl, z1, z2, z3, z4⟩ := ho.rd; obtain ⟨b1, o1, rfl, hcs⟩ := z4 (by simp); have hc := hcs 0 (by simp); clear hcs z3 z4; dsimp only [List.getD_cons_zero, Nat.add_zero] at hc)
  go_ret
  exact ⟨rfl, R1, O1⟩

set_option maxRecDepth 100000 in
set_option maxHeartbeats 1000000 in
theorem fixed_r (a w : World) (g : Nat) (s : List UInt8 × Int) (n x : Int) (s' : List UInt8 × Int) (h : Rdr a w g s) (hn : 1 ≤ n ∧ n ≤ 8) (hx : rF n s = (x, s')) :
    Calls Try.prog 82 #[.pointer (some ⟨g, 0, none⟩), .int .i64 n] w (RetR a w g (.int .u64 x) s') := by
  have H := Lib.hid h
  obtain ⟨L, r, h1, h2⟩ := rF_rB n s hn
  rw [hx] at h1 h2
  have HX := Lib.hid h1
  have HF := Lib.hid h2
  obtain ⟨m, rfl⟩ : ∃ m : Nat, n = m := ⟨n.toNat, by omega⟩
  clear h hx h1 h2
  go_enter Try.func82, Try.ntmps82
  go_wp2_with (first
    | (go_at_call 86; refine (bytes_m a _ g s m _ _ H.out (by omega) HX.out).mono ?_; rintro e w1 ⟨v1, rfl, ho, R1, O1⟩)
    | (go_at_call 36; refine (readFixed_at_ref _ _ L m _ _ ho.rd HF.out).mono ?_; rintro e w2 ⟨rfl, rfl⟩))
  go_ret
  exact ⟨rfl, R1, O1⟩

theorem readI_none {l : List UInt8} {x : Int} {n : Nat} {r : Int} (h : readI l = (x, n, r)) (hr : r ≠ 0) : n = 0 := by
  rcases readI_err h with h1 | ⟨_, h1, _⟩
  · exact absurd h1 hr
  · exact h1
theorem readT_none {l x : List UInt8} {n : Nat} {r : Int} (h : readT l = (x, n, r)) (hr : r ≠ 0) : n = 0 := by
  unfold readT at h
  split at h
  · split at h
    · simp only [Prod.mk.injEq] at h; omega
    · simp only [Prod.mk.injEq] at h; exact absurd h.2.2.symm hr
  · simp only [Prod.mk.injEq] at h; omega
theorem readZ_none {l x : List UInt8} {n : Nat} {r : Int} (h : readZ l = (x, n, r)) (hr : r ≠ 0) : n = 0 := by
  unfold readZ at h
  split at h
  · simp only [Prod.mk.injEq] at h; exact absurd h.2.2.symm hr
  · simp only [Prod.mk.injEq] at h; omega
theorem readZ_le {l x : List UInt8} {n : Nat} (h : readZ l = (x, n, 0)) : n ≤ l.length := by
  unfold readZ at h
  split at h
  · rename_i hc
    have := upZ_lt l hc
    simp only [Prod.mk.injEq] at h
    omega
  · simp at h
theorem readT_at_ref (w : World) (v : Value) (l x : List UInt8) (n : Nat) (r : Int) (hr : Rd w v l) (h : readT l = (x, n, r)) :
    Calls Try.prog 48 #[v] w fun e w' => e = .returned (.tuple #[.string (strL x), .int .i64 n, .int .i64 r]) ∧ w = w' := by
  have := readText_ref w v l hr
  rw [h] at this
  exact this
theorem readZ_at_ref (w : World) (v : Value) (l x : List UInt8) (n : Nat) (r : Int) (hr : Rd w v l) (h : readZ l = (x, n, r)) :
    Calls Try.prog 49 #[v] w fun e w' => e = .returned (.tuple #[.string (strL x), .int .i64 n, .int .i64 r]) ∧ w = w' := by
  have := readEnded_ref w v l hr
  rw [h] at this
  exact this
/-- An ended text. -/
def rZ (s : List UInt8 × Int) : List UInt8 × (List UInt8 × Int) := if s.2 = 0 then (if (readZ s.1).2.2 = 0 then ((readZ s.1).1, (s.1.drop (readZ s.1).2.1, 0)) else ((readZ s.1).1, (s.1, (readZ s.1).2.2))) else ([], s)

set_option maxRecDepth 100000 in
set_option maxHeartbeats 1000000 in
theorem int_r (a w : World) (g : Nat) (s : List UInt8 × Int) (x : Int) (s' : List UInt8 × Int) (h : Rdr a w g s) (hx : rI s = (x, s')) :
    Calls Try.prog 81 #[.pointer (some ⟨g, 0, none⟩)] w (RetR a w g (.int .u64 x) s') := by
  obtain ⟨l, e⟩ := s
  obtain ⟨v, c0, hr⟩ := h.c0
  have c1 := h.c1
  have f0 := h.f0
  have f1 := h.f1
  try dsimp only at hr c1
  have HR := Lib.hid hr
  have H := Lib.hid h
  clear h hr
  by_cases he : e = 0
  · subst he
    obtain ⟨x1, n1, r1, hq⟩ : ∃ x1 n1 r1, readI l = (x1, n1, r1) := ⟨_, _, _, rfl⟩
    have HQ := Lib.hid hq
    have hs : x = x1 ∧ s' = (l.drop n1, r1) ∧ n1 ≤ l.length := by
      by_cases h1 : r1 = 0
      · subst h1
        simp only [rI, hq, ↓reduceIte, Prod.mk.injEq] at hx
        exact ⟨hx.1.symm, hx.2.symm, readI_le hq⟩
      · have := readI_none hq h1
        subst this
        simp only [rI, hq, ↓reduceIte, h1, Prod.mk.injEq] at hx
        exact ⟨hx.1.symm, hx.2.symm, Nat.zero_le _⟩
    obtain ⟨rfl, rfl, hm⟩ := hs
    clear hq hx
    have c0' : (w.setCell ⟨g, 1, none⟩ (.int .i64 r1)).cell? ⟨g, 0, none⟩ = some v := (World.cell?_setCell_other _ _ _ _ (by simp)).trans c0
    go_enter Try.func81, Try.ntmps81
    go_wp2_with (first
      | (go_at_call 37; refine (readInt_at_ref _ _ l _ _ _ (HR.out.ext H.out.ext) HQ.out).mono ?_; rintro e w1 ⟨rfl, rfl⟩)
      | ((with_reducible show wpList _ _ _ (⟨some 30, _, _, _, _, _⟩ :: _) _ _); refine wpl_cut_lo bt HR.out (n1 : Int) (by omega) (by omega) rfl _ _ _ rfl rfl rfl ?_; intro A2 m2 cap2 hr2))
    go_ret
    exact ⟨rfl, by simpa using (H.out.set1 r1).set0 hr2, ((On.refl g w).set 1 _).set 0 _⟩
  · have hb : (e == 0) = false := by simpa using he
    simp only [rI, he, ↓reduceIte, Prod.mk.injEq] at hx
    obtain ⟨rfl, rfl⟩ := hx
    go_enter Try.func81, Try.ntmps81
    go_wp2_with fail
    go_ret
    exact ⟨rfl, H.out, On.refl g w⟩

set_option maxRecDepth 100000 in
set_option maxHeartbeats 1000000 in
theorem text_r (a w : World) (g : Nat) (s : List UInt8 × Int) (x : List UInt8) (s' : List UInt8 × Int) (h : Rdr a w g s) (hx : rT s = (x, s')) :
    Calls Try.prog 84 #[.pointer (some ⟨g, 0, none⟩)] w (RetR a w g (.string (strL x)) s') := by
  obtain ⟨l, e⟩ := s
  obtain ⟨v, c0, hr⟩ := h.c0
  have c1 := h.c1
  have f0 := h.f0
  have f1 := h.f1
  try dsimp only at hr c1
  have HR := Lib.hid hr
  have H := Lib.hid h
  clear h hr
  by_cases he : e = 0
  · subst he
    obtain ⟨x1, n1, r1, hq⟩ : ∃ x1 n1 r1, readT l = (x1, n1, r1) := ⟨_, _, _, rfl⟩
    have HQ := Lib.hid hq
    have hs : x = x1 ∧ s' = (l.drop n1, r1) ∧ n1 ≤ l.length := by
      by_cases h1 : r1 = 0
      · subst h1
        simp only [rT, hq, ↓reduceIte, Prod.mk.injEq] at hx
        exact ⟨hx.1.symm, hx.2.symm, readT_le hq⟩
      · have := readT_none hq h1
        subst this
        simp only [rT, hq, ↓reduceIte, h1, Prod.mk.injEq] at hx
        exact ⟨hx.1.symm, hx.2.symm, Nat.zero_le _⟩
    obtain ⟨rfl, rfl, hm⟩ := hs
    clear hq hx
    have c0' : (w.setCell ⟨g, 1, none⟩ (.int .i64 r1)).cell? ⟨g, 0, none⟩ = some v := (World.cell?_setCell_other _ _ _ _ (by simp)).trans c0
    go_enter Try.func84, Try.ntmps84
    go_wp2_with (first
      | (go_at_call 48; refine (readT_at_ref _ _ l _ _ _ (HR.out.ext H.out.ext) HQ.out).mono ?_; rintro e w1 ⟨rfl, rfl⟩)
      | ((with_reducible show wpList _ _ _ (⟨some 30, _, _, _, _, _⟩ :: _) _ _); refine wpl_cut_lo bt HR.out (n1 : Int) (by omega) (by omega) rfl _ _ _ rfl rfl rfl ?_; intro A2 m2 cap2 hr2))
    go_ret
    exact ⟨rfl, by simpa using (H.out.set1 r1).set0 hr2, ((On.refl g w).set 1 _).set 0 _⟩
  · have hb : (e == 0) = false := by simpa using he
    simp only [rT, he, ↓reduceIte, Prod.mk.injEq] at hx
    obtain ⟨rfl, rfl⟩ := hx
    go_enter Try.func84, Try.ntmps84
    go_wp2_with fail
    go_ret
    exact ⟨rfl, H.out, On.refl g w⟩

/-- All that is left. -/
def rR (s : List UInt8 × Int) : List UInt8 × (List UInt8 × Int) := if s.2 = 0 then (s.1, ([], 0)) else ([], s)
set_option maxRecDepth 100000 in
set_option maxHeartbeats 1000000 in
theorem rest_r (a w : World) (g : Nat) (s : List UInt8 × Int) (x : List UInt8) (s' : List UInt8 × Int) (h : Rdr a w g s) (hl : s.1.length ≤ 8000000) (hx : rR s = (x, s')) :
    Calls Try.prog 83 #[.pointer (some ⟨g, 0, none⟩)] w (RetO a w g x s') := by
  obtain ⟨l, e⟩ := s
  obtain ⟨v, c0, hr⟩ := h.c0
  have c1 := h.c1
  have f0 := h.f0
  have f1 := h.f1
  try dsimp only at hr c1
  have HR := Lib.hid hr
  have H := Lib.hid h
  clear h hr
  dsimp only at hl
  by_cases he : e = 0
  · subst he
    simp only [rR, ↓reduceIte, Prod.mk.injEq] at hx
    obtain ⟨rfl, rfl⟩ := hx
    have c0a : (w.alloc (.cells #[] 5)).cell? ⟨g, 0, none⟩ = some v := ((Ext.refl w).alloc _).cell c0
    go_enter Try.func83, Try.ntmps83
    go_wp2_with ((with_reducible show wpList _ _ _ (⟨some 14, _, _, _, _, _⟩ :: _) _ _); refine wpl_append_rd bt (own_nil w w.heap.size w.heap.size rfl (Nat.le_refl _)) ((HR.out.ext H.out.ext).ext ((Ext.refl _).alloc _)) rfl _ _ rfl rfl rfl (by simp; omega) (by simp) ?_; intro v1 w1 ho hb1; have hx1 := ((Ext.refl w).alloc _).below hb1 (Nat.le_refl _); have c0' := hx1.cell c0; have f0' := (hx1.frozen H.out.lt).trans f0)
    go_ret
    refine ⟨_, rfl, ?_, (H.out.grow hx1).set0 (Rd.nil a), (On.of hx1).set 0 _⟩
    have := ho.on ((On.refl g _).set 0 (.slice none 0 0)) H.out.lt
    simpa using this
  · have hb : (e == 0) = false := by simpa using he
    simp only [rR, he, ↓reduceIte, Prod.mk.injEq] at hx
    obtain ⟨rfl, rfl⟩ := hx
    go_enter Try.func83, Try.ntmps83
    go_wp2_with fail
    go_ret
    exact ⟨_, rfl, Own.nil _ _, H.out, On.refl g w⟩

set_option maxRecDepth 100000 in
set_option maxHeartbeats 1000000 in
theorem done_r (a w : World) (g : Nat) (s s' : List UInt8 × Int) (h : Rdr a w g s) (hx : rO s = s') :
    Calls Try.prog 85 #[.pointer (some ⟨g, 0, none⟩)] w (RetR a w g (.int .i64 s'.2) s') := by
  obtain ⟨l, e⟩ := s
  obtain ⟨v, c0, hr⟩ := h.c0
  have c1 := h.c1
  have f0 := h.f0
  have f1 := h.f1
  try dsimp only at hr c1
  have HR := Lib.hid hr
  have H := Lib.hid h
  clear h hr
  obtain ⟨A, cap, rfl, hle, hm, hA, hc⟩ := id HR.out
  unfold maxLen at hm
  clear hA hc
  unfold rO at hx
  dsimp only at hx
  by_cases hl : 0 < l.length
  · rw [decide_eq_true hl] at hx
    have HX := Lib.hid hx
    clear hx
    go_enter Try.func85, Try.ntmps85
    go_wp2_with (go_at_call 80; refine (wrong_m a _ g _ _ true H.out HX.out).mono ?_; rintro e w1 ⟨rfl, R1, O1⟩; have c1' := R1.c1)
    go_ret
    exact ⟨rfl, R1, O1⟩
  · rw [decide_eq_false hl] at hx
    have HX := Lib.hid hx
    clear hx
    go_enter Try.func85, Try.ntmps85
    go_wp2_with (go_at_call 80; refine (wrong_m a _ g _ _ false H.out HX.out).mono ?_; rintro e w1 ⟨rfl, R1, O1⟩; have c1' := R1.c1)
    go_ret
    exact ⟨rfl, R1, O1⟩

end Go.Proofs.Ytnlfcknpmemhfaa
