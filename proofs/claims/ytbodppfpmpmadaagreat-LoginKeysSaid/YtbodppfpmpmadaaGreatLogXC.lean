import Derived.Test.YtbodppfpmpmadaaGreatL13C
namespace Go.Proofs.YtbodppfpmpmadaaGreat
open Go.RowKit

def fitU (u : UserV) : Prop := u.pw.length ≤ 64 ∧ u.pl.length ≤ 100 ∧ u.pl.contains 0 = false
structure DoorFit (D : DoorV) : Prop where
  us : ∀ u ∈ D.us, fitU u
  u : fitU D.u
  n : D.n.length = 20 ∧ nonceOk D.n = true
theorem fitU_zero : fitU userZ := ⟨by decide, by decide, by decide⟩
theorem findU_fit (us : List UserV) (nm : List UInt8) (h : ∀ u ∈ us, fitU u) : fitU ((findU us nm).getD userZ) := by
  induction us using list_snoc_induct with
  | h0 => exact fitU_zero
  | h1 us u ih =>
    rw [findU_snoc]
    split
    · exact h u (by simp)
    · exact ih (fun x hx => h x (by simp [hx]))
theorem DoorFit.who {D : DoorV} (h : DoorFit D) (nm sc : List UInt8) : DoorFit (whoP D nm sc) := ⟨h.us, findU_fit _ _ h.us, h.n⟩
theorem DoorFit.ok {D : DoorV} (h : DoorFit D) : DoorOk D := ⟨by have := h.u.1; omega, by have := h.u.2.1; omega, h.u.2.2, h.n⟩
theorem answer_d (w : World) (S : List Nat) (g : Nat) (D : DoorV) (l : List UInt8) (vb : Value) (h : DoorIs w S g D) (hr : Rd w vb l) (hl : l.length ≤ 900000) (hf : DoorFit D) :
    Calls Tryz.prog 57 #[.pointer (some ⟨g, 0, none⟩), vb] w (RetD w S g (answerP D l)) := by
  by_cases he : (overP answerM ans0 l).2 = 0
  · obtain ⟨⟨⟨caps, most, ch, user, resp, db, pl, ps⟩, er⟩, hA⟩ : ∃ x, overP answerM ans0 l = x := ⟨_, rfl⟩
    have he0 : er = 0 := by rw [hA] at he; exact he
    subst he0
    obtain ⟨hXa, hoka, _⟩ := overP_inv inv_answer hA
    have hus := (ans_sizes hoka (Nat.le_trans hXa hl)).1
    unfold answerP
    rw [hA]
    dsimp only
    rw [if_pos rfl]
    by_cases hk : checkC (bothC D.gc caps) = 0
    · rw [if_pos hk]
      have hfit : DoorFit (whoP { D with c := bothC D.gc caps } user db) := DoorFit.who (D := { D with c := bothC D.gc caps }) ⟨hf.us, hf.u, hf.n⟩ _ _
      obtain ⟨D1, hD⟩ : ∃ D1, whoP { D with c := bothC D.gc caps } user db = D1 := ⟨_, rfl⟩
      rw [hD] at hfit ⊢
      cases hkn : D1.kn with
      | false =>
        exact answer_nobody w S g D l user resp db pl caps most ch ps vb h hr hl hA hk (by dsimp only at hus; omega) D1 hD hfit.ok hkn
      | true =>
        cases hp : pl == D1.u.pl with
        | false => exact answer_other w S g D l user resp db pl caps most ch ps vb h hr hl hA hk (by dsimp only at hus; omega) D1 hD hfit.ok hkn hp
        | true => exact answer_look w S g D l user resp db pl caps most ch ps vb h hr hl hA hk (by dsimp only at hus; omega) D1 hD hfit.ok hkn hp
    · rw [if_neg hk]
      exact answer_odd w S g D l user resp db pl caps most ch ps vb h hr hl hA hk
  · unfold answerP
    rw [if_neg he]
    exact answer_bad w S g D l vb h hr hl he
def RetF (w : World) (S : List Nat) (g : Nat) (r : List (List UInt8) × Int × DoorV) (e : Ending) (w' : World) : Prop :=
  ∃ v, e = .returned (.tuple #[v, .int .i64 r.2.1]) ∧ ListsN w' w.heap.size v r.1 ∧ DoorIs w' S g r.2.2 ∧ On g w w'
theorem ListsN.nil (w : World) (base : Nat) : ListsN w base (.slice none 0 0) [] := ⟨none, 0, rfl, Nat.le_refl _, by unfold maxLen; simp, fun h => absurd rfl h⟩
set_option maxHeartbeats 1000000 in
theorem feed_over (w : World) (S : List Nat) (g : Nat) (D : DoorV) (vb : Value) (h : DoorIs w S g D) (hs : D.st ≠ 1) (l : List UInt8) :
    Calls Tryz.prog 6 #[.pointer (some ⟨g, 0, none⟩), vb] w (RetF w S g (feedP D l)) := by
  obtain ⟨K, fv, h⟩ := h
  have HH := Lib.hid h
  have c9 : w.cell? ⟨g, 9, none⟩ = some (.int .i64 D.st) := h.box.at (j := 9) rfl
  obtain ⟨st, hst⟩ : ∃ st, D.st = st := ⟨_, rfl⟩
  rw [hst] at c9 hs
  unfold feedP
  rw [hst]
  by_cases h0 : st = 0
  · subst h0
    rw [if_pos rfl]
    clear h hs hst
    go_enter Tryz.func6, Tryz.ntmps6
    go_wp2_with (go_at_call 38; refine (dnone_c _ g 0 c9).mono ?_; rintro e wx ⟨rfl, rfl⟩)
    go_ret2
    exact ⟨_, rfl, ListsN.nil _ _, ⟨K, fv, HH.out⟩, On.refl _ _⟩
  · rw [if_neg h0, if_neg hs]
    have HQ := Lib.hid (show (st == 0) = false by simp [h0])
    have hq : (st != 1) = true := by simpa using hs
    clear h hs hst h0
    go_enter Tryz.func6, Tryz.ntmps6
    go_wp2_with (go_at_call 38; refine (dnone_c _ g st c9).mono ?_; rintro e wx ⟨rfl, rfl⟩; rw [HQ.out])
    go_ret2
    exact ⟨_, rfl, ListsN.nil _ _, ⟨K, fv, HH.out⟩, On.refl _ _⟩
theorem nobody_d (w : World) (S : List Nat) (g x : Nat) (D : DoorV) (vb : Value) (K : DoorK) (fv : Value) (h : DoorAt w S g D K fv) (hx : w.cell? ⟨x, 0, none⟩ = some (.pointer (some ⟨g, 0, none⟩))) (hS : x ∉ S) :
    Calls Tryz.prog 88 #[vb, .pointer (some ⟨x, 0, none⟩)] w (RetD w S g ([refusedL], { D with st := 3 })) := by
  refine (change1_c w g x (dcs K D fv) vb h.box rfl hx (fun e => hS (e ▸ h.gS))).mono ?_
  rintro e w' ⟨v, rfl, hl, hb, hO⟩
  exact ⟨v, rfl, hl, DoorIs.dfail h hO hb, hO⟩
set_option maxHeartbeats 2000000 in
theorem feed_on (w : World) (S : List Nat) (g : Nat) (D : DoorV) (l : List UInt8) (vb : Value) (h : DoorIs w S g D) (hr : Rd w vb l) (hl : l.length ≤ 900000) (hf : DoorFit D) (hs : D.st = 1) :
    Calls Tryz.prog 6 #[.pointer (some ⟨g, 0, none⟩), vb] w (RetF w S g (feedP D l)) := by
  have hP : feedP D l = ((nextP D l).1, 0, (nextP D l).2) := by unfold feedP; rw [hs]; rfl
  rw [hP]
  have hI := h
  obtain ⟨K, fv, h⟩ := h
  have hfn := h.fn
  have c9 : w.cell? ⟨g, 9, none⟩ = some (.int .i64 1) := h.box.at (j := 9) (by rw [← hs]; rfl)
  have c11 : w.cell? ⟨g, 11, none⟩ = some fv := h.box.at (j := 11) rfl
  have HH := Lib.hid h
  have HI := Lib.hid hI
  have HR := Lib.hid hr
  have HL := Lib.hid hl
  have HF := Lib.hid hf
  obtain ⟨Ab, cb, rfl, _⟩ := hr
  clear h hI hl hf hs hP
  rcases hfn with ⟨h0, rfl⟩ | ⟨h0, rfl⟩ | ⟨h0, rfl⟩ | ⟨h0, x, rfl, hx, hS⟩
  · have HN := Lib.hid (show nextP D l = answerP D l by unfold nextP; rw [h0]; rfl)
    clear h0
    unfold fnAnswer at c11
    go_enter Tryz.func6, Tryz.ntmps6
    go_wp2_with (first
      | (go_at_call 38; refine (dnone_c _ g 1 c9).mono ?_; rintro e wx ⟨rfl, rfl⟩)
      | (go_at_call 57; refine (answer_d _ S g D l _ HI.out HR.out HL.out HF.out).mono ?_; rintro e w1 ⟨v1, rfl, hl1, hd1, O1⟩)
      | fail)
    go_ret2
    rw [HN.out]
    exact ⟨_, rfl, hl1, hd1, O1⟩
  · have HN := Lib.hid (show nextP D l = lookP D l by unfold nextP; rw [h0]; rfl)
    clear h0
    unfold fnLook at c11
    go_enter Tryz.func6, Tryz.ntmps6
    go_wp2_with (first
      | (go_at_call 38; refine (dnone_c _ g 1 c9).mono ?_; rintro e wx ⟨rfl, rfl⟩)
      | (go_at_call 87; refine (look_d _ S g D l _ HI.out HF.out.ok.pw HR.out).mono ?_; rintro e w1 ⟨v1, rfl, hl1, hd1, O1⟩)
      | fail)
    go_ret2
    rw [HN.out]
    exact ⟨_, rfl, hl1, hd1, O1⟩
  · have HN := Lib.hid (show nextP D l = fullP D l by unfold nextP; rw [h0]; rfl)
    clear h0
    unfold fnFull at c11
    go_enter Tryz.func6, Tryz.ntmps6
    go_wp2_with (first
      | (go_at_call 38; refine (dnone_c _ g 1 c9).mono ?_; rintro e wx ⟨rfl, rfl⟩)
      | (go_at_call 142; refine (full_d _ S g D l _ HI.out HF.out.ok.pw HR.out).mono ?_; rintro e w1 ⟨v1, rfl, hl1, hd1, O1⟩)
      | fail)
    go_ret2
    rw [HN.out]
    exact ⟨_, rfl, hl1, hd1, O1⟩
  · have HN := Lib.hid (show nextP D l = ([refusedL], { D with st := 3 }) by
      unfold nextP
      obtain ⟨us, gc, n, hello, st, c, nx, u, kn, sc⟩ := D
      dsimp only at h0 ⊢
      match nx, h0 with
      | k + 3, _ => rfl)
    clear h0
    unfold fnNobody at c11
    have HX := Lib.hid hx
    have HSx := Lib.hid hS
    clear hx hS
    go_enter Tryz.func6, Tryz.ntmps6
    go_wp2_with (first
      | (go_at_call 38; refine (dnone_c _ g 1 c9).mono ?_; rintro e wx ⟨rfl, rfl⟩)
      | (go_at_call 88; refine (nobody_d _ S g x D _ K _ HH.out HX.out HSx.out).mono ?_; rintro e w1 ⟨v1, rfl, hl1, hd1, O1⟩)
      | fail)
    go_ret2
    rw [HN.out]
    exact ⟨_, rfl, hl1, hd1, O1⟩
theorem feed_d (w : World) (S : List Nat) (g : Nat) (D : DoorV) (l : List UInt8) (vb : Value) (h : DoorIs w S g D) (hr : Rd w vb l) (hl : l.length ≤ 900000) (hf : DoorFit D) :
    Calls Tryz.prog 6 #[.pointer (some ⟨g, 0, none⟩), vb] w (RetF w S g (feedP D l)) := by
  by_cases hs : D.st = 1
  · exact feed_on w S g D l vb h hr hl hf hs
  · exact feed_over w S g D vb h hs l
end Go.Proofs.YtbodppfpmpmadaaGreat

