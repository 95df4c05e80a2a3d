/- The contracts of the readers' methods in the package on replies. -/
import Derived.Test.YtnlfcknpmemhfaaRdA
import Derived.Test.YtnlfcknpmemhfaaIdx
namespace Go.Proofs.Ytnlfcknpmemhfaa
open Go.RowKit

theorem readF_err {l : List UInt8} {n x r : Int} (h : readF l n = (x, r)) : r = 0 → n ≤ l.length ∧ 1 ≤ n := by
  unfold readF at h
  split at h
  · rintro rfl; simp at h
  · split at h
    · rintro rfl; simp at h
    · intro _; omega

section
variable {P : Program} {ops : Array Oper} {rest : List Oper} {o : Oper} {a : Act} {w : World} {Q : Exit → Act → World → Prop}
/-- A slice that reads in one world is cut in another: what it reads in the first. -/
theorem wpl_cut_lo (hT : BT P) {b : World} {v : Value} {l : List UInt8} (hr : Rd b v l) (i : Int) (h0 : 0 ≤ i) (h1 : i ≤ l.length)
    (hgd : o.guard = none) (x lo : Operand) (k : IntKind) (ho : o.op = .slice 22 x (some lo) none none) (hx : a.eval x = v) (hlo : a.eval lo = .int k i)
    (h : ∀ A' m c', Rd b (.slice A' m c') (l.drop i.toNat) → wpList P ops Q rest (a.put o.dst (.slice A' m c')) w) : wpList P ops Q (o :: rest) a w := by
  obtain ⟨A, cap, rfl, hle, hm, _⟩ := id hr
  have hc := Rd.cut hr i.toNat l.length (by omega) (Nat.le_refl _)
  rw [List.take_length] at hc
  refine wpl_val hgd (v := .slice (if cap = i.toNat then A else A.map (·.add (i.toNat * 1))) (l.length - i.toNat) (cap - i.toNat)) (w' := w) ?_ (h _ _ _ hc)
  unfold execOp
  simp [ho, hx, hlo, Instr.sliceAt, Instr.slice, run_underlying hT.sl, Instr.sliceBounds, run_sliceBound, h0, h1, sizeOf_u8 hT]
end

set_option maxRecDepth 100000 in
set_option maxHeartbeats 1000000 in
theorem step_good (a w : World) (g : Nat) (l : List UInt8) (n : Nat) (h : Rdr a w g (l, 0)) (hn : n ≤ l.length) :
    Calls Try.prog 90 #[.pointer (some ⟨g, 0, none⟩), .int .i64 (n : Int), .int .i64 0] w (RetR a w g (.tuple #[]) (l.drop n, 0)) := by
  obtain ⟨v, h0, hr⟩ := h.c0
  have f0 := h.f0
  have HR := Lib.hid hr
  have H := Lib.hid h
  clear h hr
  go_enter Try.func90, Try.ntmps90
  go_wp2_with ((with_reducible show wpList _ _ _ (⟨some 18, _, _, _, _, _⟩ :: _) _ _); refine wpl_cut_lo bt HR.out (n : Int) (by omega) (by simpa using hn) rfl _ _ _ rfl rfl rfl ?_; intro A' m' c' hr')
  refine bodyPost_end (results_none rfl _ _ _) rfl ?_
  exact ⟨rfl, by simpa using H.out.set0 hr', (On.refl g w).set 0 _⟩

set_option maxRecDepth 100000 in
set_option maxHeartbeats 1000000 in
theorem step_bad (a w : World) (g : Nat) (l : List UInt8) (n e : Int) (h : Rdr a w g (l, 0)) (he : e ≠ 0) :
    Calls Try.prog 90 #[.pointer (some ⟨g, 0, none⟩), .int .i64 n, .int .i64 e] w (RetR a w g (.tuple #[]) (l, e)) := by
  have c1 := h.c1
  have f1 := h.f1
  have H := Lib.hid h
  have hb : (e == 0) = false := by simpa using he
  clear h he
  go_enter Try.func90, Try.ntmps90
  go_wp2_with fail
  refine bodyPost_ret (results_none rfl _ _ _) rfl ?_
  exact ⟨rfl, H.out.set1 e, (On.refl g w).set 1 _⟩

set_option maxRecDepth 100000 in
set_option maxHeartbeats 1000000 in
theorem fixed_m (a w : World) (g : Nat) (s : List UInt8 × Int) (n x : Int) (s' : List UInt8 × Int) (h : Rdr a w g s) (hn : 1 ≤ n ∧ n ≤ 8) (hx : rF n s = (x, s')) :
    Calls Try.prog 75 #[.pointer (some ⟨g, 0, none⟩), .int .i64 n] w (RetR a w g (.int .u64 x) s') := by
  obtain ⟨l, e⟩ := s
  obtain ⟨v, c0, hr⟩ := h.c0
  have c1 := h.c1
  have f0 := h.f0
  have f1 := h.f1
  have HR := Lib.hid hr
  have H := Lib.hid h
  clear h hr
  by_cases he : e = 0
  · subst he
    obtain ⟨x1, r1, hq⟩ : ∃ x1 r1, readF l n = (x1, r1) := ⟨_, _, rfl⟩
    have HQ := Lib.hid hq
    by_cases h1 : r1 = 0
    · have h2 := readF_err hq h1
      subst h1
      simp only [rF, hq, ↓reduceIte, Prod.mk.injEq] at hx
      obtain ⟨rfl, rfl⟩ := hx
      obtain ⟨m, rfl⟩ : ∃ m : Nat, n = m := ⟨n.toNat, by omega⟩
      have hm : m ≤ l.length := by omega
      clear hq h2 hn
      go_enter Try.func75, Try.ntmps75
      go_wp2_with (first
        | (go_at_call 35; refine (readFixed_at_len _ _ l m _ _ (HR.out.ext H.out.ext) HQ.out).mono ?_; rintro e w1 ⟨rfl, rfl⟩)
        | (go_at_call 90; refine (step_good a _ g l m H.out hm).mono ?_; rintro e w1 ⟨rfl, h1, k1⟩))
      go_ret
      exact ⟨rfl, h1, k1⟩
    · simp only [rF, hq, ↓reduceIte, h1, Prod.mk.injEq] at hx
      obtain ⟨rfl, rfl⟩ := hx
      clear hq
      go_enter Try.func75, Try.ntmps75
      go_wp2_with (first
        | (go_at_call 35; refine (readFixed_at_len _ _ l n _ _ (HR.out.ext H.out.ext) HQ.out).mono ?_; rintro e w1 ⟨rfl, rfl⟩)
        | (go_at_call 90; refine (step_bad a _ g l _ _ H.out h1).mono ?_; rintro e w1 ⟨rfl, h1, k1⟩))
      go_ret
      exact ⟨rfl, h1, k1⟩
  · have hb : (e == 0) = false := by simpa using he
    simp only [rF, he, ↓reduceIte, Prod.mk.injEq] at hx
    obtain ⟨rfl, rfl⟩ := hx
    go_enter Try.func75, Try.ntmps75
    go_wp2_with fail
    go_ret
    exact ⟨rfl, H.out, On.refl g w⟩

theorem readI_le {l : List UInt8} {x : Int} {n : Nat} (h : readI l = (x, n, 0)) : n ≤ l.length := (readI_ok h).2.1
theorem readT_le {l x : List UInt8} {n : Nat} (h : readT l = (x, n, 0)) : n ≤ l.length := by
  obtain ⟨y, m, r, hq⟩ : ∃ y m r, readI l = (y, m, r) := ⟨_, _, _, rfl⟩
  unfold readT at h
  rw [hq] at h
  dsimp only at h
  split at h
  · rename_i h0
    subst h0
    have := readI_ok hq
    split at h
    · simp at h
    · simp only [Prod.mk.injEq] at h
      omega
  · rename_i h0
    simp only [Prod.mk.injEq] at h
    exact absurd h.2.2 h0
theorem readT_at_len (w : World) (v : Value) (l x : List UInt8) (n : Nat) (r : Int) (hr : Rd w v l) (h : readT l = (x, n, r)) :
    Calls Try.prog 32 #[v] w fun e w' => e = .returned (.tuple #[.string (strL x), .int .i64 n, .int .i64 r]) ∧ w = w' := by
  have := readText_len w v l hr
  rw [h] at this
  exact this

set_option maxRecDepth 100000 in
set_option maxHeartbeats 1000000 in
theorem counted_m (a w : World) (g : Nat) (s : List UInt8 × Int) (x : Int) (s' : List UInt8 × Int) (h : Rdr a w g s) (hx : rI s = (x, s')) :
    Calls Try.prog 74 #[.pointer (some ⟨g, 0, none⟩)] w (RetR a w g (.int .u64 x) s') := by
  obtain ⟨l, e⟩ := s
  obtain ⟨v, c0, hr⟩ := h.c0
  have c1 := h.c1
  have f0 := h.f0
  have f1 := h.f1
  have HR := Lib.hid hr
  have H := Lib.hid h
  clear h hr
  by_cases he : e = 0
  · subst he
    obtain ⟨x1, n1, r1, hq⟩ : ∃ x1 n1 r1, readI l = (x1, n1, r1) := ⟨_, _, _, rfl⟩
    have HQ := Lib.hid hq
    by_cases h1 : r1 = 0
    · subst h1
      have hm : n1 ≤ l.length := readI_le hq
      simp only [rI, hq, ↓reduceIte, Prod.mk.injEq] at hx
      obtain ⟨rfl, rfl⟩ := hx
      clear hq
      go_enter Try.func74, Try.ntmps74
      go_wp2_with (first
        | (go_at_call 29; refine (readInt_at_len _ _ l _ _ _ (HR.out.ext H.out.ext) HQ.out).mono ?_; rintro e w1 ⟨rfl, rfl⟩)
        | (go_at_call 90; refine (step_good a _ g l n1 H.out hm).mono ?_; rintro e w1 ⟨rfl, h1, k1⟩))
      go_ret
      exact ⟨rfl, h1, k1⟩
    · simp only [rI, hq, ↓reduceIte, h1, Prod.mk.injEq] at hx
      obtain ⟨rfl, rfl⟩ := hx
      clear hq
      go_enter Try.func74, Try.ntmps74
      go_wp2_with (first
        | (go_at_call 29; refine (readInt_at_len _ _ l _ _ _ (HR.out.ext H.out.ext) HQ.out).mono ?_; rintro e w1 ⟨rfl, rfl⟩)
        | (go_at_call 90; refine (step_bad a _ g l _ _ H.out h1).mono ?_; rintro e w1 ⟨rfl, h1, k1⟩))
      go_ret
      exact ⟨rfl, h1, k1⟩
  · have hb : (e == 0) = false := by simpa using he
    simp only [rI, he, ↓reduceIte, Prod.mk.injEq] at hx
    obtain ⟨rfl, rfl⟩ := hx
    go_enter Try.func74, Try.ntmps74
    go_wp2_with fail
    go_ret
    exact ⟨rfl, H.out, On.refl g w⟩

set_option maxRecDepth 100000 in
set_option maxHeartbeats 1000000 in
theorem text_m (a w : World) (g : Nat) (s : List UInt8 × Int) (x : List UInt8) (s' : List UInt8 × Int) (h : Rdr a w g s) (hx : rT s = (x, s')) :
    Calls Try.prog 77 #[.pointer (some ⟨g, 0, none⟩)] w (RetR a w g (.string (strL x)) s') := by
  obtain ⟨l, e⟩ := s
  obtain ⟨v, c0, hr⟩ := h.c0
  have c1 := h.c1
  have f0 := h.f0
  have f1 := h.f1
  have HR := Lib.hid hr
  have H := Lib.hid h
  clear h hr
  by_cases he : e = 0
  · subst he
    obtain ⟨x1, n1, r1, hq⟩ : ∃ x1 n1 r1, readT l = (x1, n1, r1) := ⟨_, _, _, rfl⟩
    have HQ := Lib.hid hq
    by_cases h1 : r1 = 0
    · subst h1
      have hm : n1 ≤ l.length := readT_le hq
      simp only [rT, hq, ↓reduceIte, Prod.mk.injEq] at hx
      obtain ⟨rfl, rfl⟩ := hx
      clear hq
      go_enter Try.func77, Try.ntmps77
      go_wp2_with (first
        | (go_at_call 32; refine (readT_at_len _ _ l _ _ _ (HR.out.ext H.out.ext) HQ.out).mono ?_; rintro e w1 ⟨rfl, rfl⟩)
        | (go_at_call 90; refine (step_good a _ g l n1 H.out hm).mono ?_; rintro e w1 ⟨rfl, h1, k1⟩))
      go_ret
      exact ⟨rfl, h1, k1⟩
    · simp only [rT, hq, ↓reduceIte, h1, Prod.mk.injEq] at hx
      obtain ⟨rfl, rfl⟩ := hx
      clear hq
      go_enter Try.func77, Try.ntmps77
      go_wp2_with (first
        | (go_at_call 32; refine (readT_at_len _ _ l _ _ _ (HR.out.ext H.out.ext) HQ.out).mono ?_; rintro e w1 ⟨rfl, rfl⟩)
        | (go_at_call 90; refine (step_bad a _ g l _ _ H.out h1).mono ?_; rintro e w1 ⟨rfl, h1, k1⟩))
      go_ret
      exact ⟨rfl, h1, k1⟩
  · have hb : (e == 0) = false := by simpa using he
    simp only [rT, he, ↓reduceIte, Prod.mk.injEq] at hx
    obtain ⟨rfl, rfl⟩ := hx
    go_enter Try.func77, Try.ntmps77
    go_wp2_with fail
    go_ret
    exact ⟨rfl, H.out, On.refl g w⟩

set_option maxRecDepth 100000 in
set_option maxHeartbeats 1000000 in
theorem rest_m (a w : World) (g : Nat) (s : List UInt8 × Int) (h : Rdr a w g s) (hl : s.1.length ≤ 8000000) :
    Calls Try.prog 76 #[.pointer (some ⟨g, 0, none⟩)] w fun e w' => ∃ v, e = .returned v ∧ Own w' w.heap.size v s.1 ∧ Rdr a w' g ([], s.2) ∧ On g w w' := by
  obtain ⟨l, e⟩ := s
  obtain ⟨v, c0, hr⟩ := h.c0
  have c1 := h.c1
  have f0 := h.f0
  have f1 := h.f1
  have HR := Lib.hid hr
  have H := Lib.hid h
  clear h hr
  go_enter Try.func76, Try.ntmps76
  go_wp2_with (go_at_call 64; refine (clone_c _ _ l (HR.out.ext H.out.ext) (by simp at hl; omega)).mono ?_; rintro e w1 ⟨v1, rfl, ho, hx⟩; have c0' := hx.cell c0; have f0' := (hx.frozen H.out.lt).trans f0)
  go_ret
  exact ⟨_, rfl, (ho.on ((On.refl g _).set 0 _) H.out.lt), (H.out.grow hx).set0 (Rd.nil a), (On.of hx).set 0 _⟩

set_option maxRecDepth 100000 in
set_option maxHeartbeats 1000000 in
theorem over_m (a w : World) (g : Nat) (s s' : List UInt8 × Int) (h : Rdr a w g s) (hx : rO s = s') :
    Calls Try.prog 78 #[.pointer (some ⟨g, 0, none⟩)] w (RetR a w g (.int .i64 s'.2) s') := by
  obtain ⟨l, e⟩ := s
  obtain ⟨v, c0, hr⟩ := h.c0
  have c1 := h.c1
  have f0 := h.f0
  have f1 := h.f1
  have HR := Lib.hid hr
  have H := Lib.hid h
  clear h hr
  obtain ⟨A, cap, rfl, hle, hm, hA, hc⟩ := HR.out
  unfold maxLen at hm
  clear hA hc
  by_cases he : e = 0
  · subst he
    by_cases hl : 0 < l.length
    · have : s' = (l, 5) := by rw [← hx]; simp [rO, rW, hl]
      subst this
      clear hx
      go_enter Try.func78, Try.ntmps78
      go_wp2_with fail
      go_ret
      exact ⟨by simp, H.out.set1 5, (On.refl g w).set 1 _⟩
    · have : s' = (l, 0) := by rw [← hx]; simp [rO, rW, hl]
      subst this
      clear hx
      go_enter Try.func78, Try.ntmps78
      go_wp2_with fail
      go_ret
      exact ⟨rfl, H.out, On.refl g w⟩
  · have hb : (e == 0) = false := by simpa using he
    have : s' = (l, e) := by rw [← hx]; simp [rO, rW, he]
    subst this
    clear hx
    go_enter Try.func78, Try.ntmps78
    go_wp2_with fail
    go_ret
    exact ⟨rfl, H.out, On.refl g w⟩

end Go.Proofs.Ytnlfcknpmemhfaa
