import Derived.Test.YtbodppfpmpmadaaGreatGrXaC
import Derived.Test.YtbodppfpmpmadaaGreatGrQaC
/- What the walks of the chapter's laws need: contracts with named fields; sizes. -/
namespace Go.Proofs.YtbodppfpmpmadaaGreat
open Go.RowKit

theorem textB_ge (s : List UInt8) : s.length ≤ (textB s).length := by rw [textB_size]; omega
theorem small_of_len : ∀ (ps : Pairs) (n : Nat), (attrsB ps).length ≤ n → n ≤ 100000000 → smallA ps := by
  intro ps
  induction ps with
  | nil => intro n _ _ p hp; simp at hp
  | cons q ps ih =>
    intro n h hn p hp
    have e : attrsB (q :: ps) = attrB q ++ attrsB ps := by unfold attrsB; rw [List.flatMap_cons]
    rw [e, List.length_append] at h
    have e2 : (attrB q).length = (textB q.1).length + (textB q.2).length := by unfold attrB; rw [List.length_append]
    have h1 := textB_ge q.1
    have h2 := textB_ge q.2
    rcases List.mem_cons.1 hp with rfl | hp
    · exact ⟨by omega, by omega⟩
    · exact ih n (by omega) hn p hp
theorem endB_ge {f : Bool} {s : List UInt8} (h : s = [] ∨ f = true) : s.length ≤ (endB f s).length := by
  rcases h with rfl | rfl
  · simp
  · simp [endB]
theorem respB_ge (f : Bool) (s : List UInt8) : s.length ≤ (respB f s).length := by
  cases f
  · simp [respB]
  · exact textB_ge s
theorem ans_sizes {a : AnsV} {n : Nat} (h : AnsOk a) (hl : (answerB a).length ≤ n) : a.user.length ≤ n ∧ a.db.length ≤ n ∧ a.pl.length ≤ n := by
  have h1 := endB_ge h.dbF
  have h2 := endB_ge h.plF
  simp only [answerB, List.length_append, List.length_cons, List.length_nil] at hl
  omega
theorem chg_sizes {c : Int} {a : ChgV} {n : Nat} (h : ChgOk c a) (hl : (changeB c a).length ≤ n) : a.user.length ≤ n ∧ a.db.length ≤ n ∧ a.pl.length ≤ n := by
  have h2 := endB_ge h.plF
  simp only [changeB, List.length_append, List.length_cons, List.length_nil] at hl
  omega
theorem gre_sizes {g : GreV} {n : Nat} (h : GreOk g) (hl : (greetB g).length ≤ n) : g.ver.length ≤ n ∧ g.pl.length ≤ n := by
  have h2 := endB_ge h.plF
  simp only [greetB, greetBs, List.length_append, List.length_cons, List.length_nil] at hl
  omega
theorem swi_sizes {s : List UInt8 × List UInt8} {n : Nat} (hl : (switchB s).length ≤ n) : s.1.length ≤ n := by
  simp only [switchB, List.length_append, List.length_cons, List.length_nil] at hl
  omega

theorem readGreeting_s (w : World) (v : Value) (L ver n pl : List UInt8) (thr caps ch st er : Int) (hr : Rd w v L) (h : overP greetM gre0 L = (⟨ver, thr, n, caps, ch, st, pl⟩, er)) :
    Calls Tryz.prog 121 #[v] w fun e w' => ∃ A k c, e = .returned (.tuple #[.agg #[.string (strL ver), .int .u32 thr, .slice A k c, .int .u32 caps, .int .u8 ch, .int .u16 st, .string (strL pl)], .int .i64 er]) ∧ Rd w' (.slice A k c) n ∧ Ext w w' := by
  refine (readGreeting_g w v L hr).mono ?_
  rw [h]
  rintro e w' ⟨vn, rfl, hr2, hx⟩
  obtain ⟨A, c, hv, _⟩ := id hr2
  subst hv
  exact ⟨A, _, c, rfl, hr2, hx⟩
theorem readAnswer_s (w : World) (v : Value) (L user resp db pl : List UInt8) (caps most ch er : Int) (ps : Pairs) (hr : Rd w v L) (hl : L.length ≤ 900000) (h : overP answerM ans0 L = (⟨caps, most, ch, user, resp, db, pl, ps⟩, er)) :
    Calls Tryz.prog 99 #[v] w fun e w' => ∃ A k c B m d, e = .returned (.tuple #[.agg #[.int .u32 caps, .int .u32 most, .int .u8 ch, .string (strL user), .slice A k c, .string (strL db), .string (strL pl), .slice B m d], .int .i64 er]) ∧ Rd w' (.slice A k c) resp ∧ Attrs w' (.slice B m d) ps ∧ Ext w w' := by
  refine (readAnswer_g w v L hr hl).mono ?_
  rw [h]
  rintro e w' ⟨vr, va, rfl, hr2, ha2, hx⟩
  obtain ⟨A, c, hv, _⟩ := id hr2
  obtain ⟨B, d, hv2, _⟩ := Recs.shape ha2
  subst hv hv2
  exact ⟨A, _, c, B, _, d, rfl, hr2, ha2, hx⟩
theorem readChange_s (w : World) (c0 : Int) (v : Value) (L user resp db pl : List UInt8) (ch er : Int) (ps : Pairs) (hr : Rd w v L) (hl : L.length ≤ 900000) (h : overP (changeM c0) chgV0 L = (⟨user, resp, db, ch, pl, ps⟩, er)) :
    Calls Tryz.prog 40 #[v, .int .u32 c0] w fun e w' => ∃ A k c B m d, e = .returned (.tuple #[.agg #[.string (strL user), .slice A k c, .string (strL db), .int .u16 ch, .string (strL pl), .slice B m d], .int .i64 er]) ∧ Rd w' (.slice A k c) resp ∧ Attrs w' (.slice B m d) ps ∧ Ext w w' := by
  refine (readChange_g w c0 v L hr hl).mono ?_
  rw [h]
  rintro e w' ⟨vr, va, rfl, hr2, ha2, hx⟩
  obtain ⟨A, c, hv, _⟩ := id hr2
  obtain ⟨B, d, hv2, _⟩ := Recs.shape ha2
  subst hv hv2
  exact ⟨A, _, c, B, _, d, rfl, hr2, ha2, hx⟩
theorem readSwitch_s (w : World) (v : Value) (L pl n : List UInt8) (er : Int) (hr : Rd w v L) (h : overP switchM ([], []) L = ((pl, n), er)) :
    Calls Tryz.prog 169 #[v] w fun e w' => ∃ A k c, e = .returned (.tuple #[.agg #[.string (strL pl), .slice A k c], .int .i64 er]) ∧ Rd w' (.slice A k c) n ∧ Ext w w' := by
  refine (readSwitch_g w v L hr).mono ?_
  rw [h]
  rintro e w' ⟨vn, rfl, hr2, hx⟩
  obtain ⟨A, c, hv, _⟩ := id hr2
  subst hv
  exact ⟨A, _, c, rfl, hr2, hx⟩
/-- What a writer gives, its slice taken apart. -/
theorem retBE_s {w : World} {X : List UInt8} {er : Int} {e : Ending} {w' : World} (h : RetBE w X er e w') : ∃ A c, e = .returned (.tuple #[.slice A X.length c, .int .i64 er]) ∧ Own w' w.heap.size (.slice A X.length c) X ∧ Ext w w' := by
  obtain ⟨v, rfl, ho, hx⟩ := h
  obtain ⟨A, c, hv, _⟩ := id ho.rd
  subst hv
  exact ⟨A, c, rfl, ho, hx⟩
end Go.Proofs.YtbodppfpmpmadaaGreat
