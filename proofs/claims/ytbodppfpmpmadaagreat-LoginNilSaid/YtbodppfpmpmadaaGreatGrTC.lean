import Derived.Test.YtbodppfpmpmadaaGreatL9C
import Derived.Test.YtbodppfpmpmadaaGreatGrSC
/- The plain law of counted texts and of attributes, and of packets that are read to their end. No program in sight. -/
namespace Go.Proofs.YtbodppfpmpmadaaGreat
open Go.RowKit

theorem textB_size (s : List UInt8) : (textB s).length = sizeI s.length + s.length := by unfold textB; rw [List.length_append, intB_length]
theorem readT_cutG (s : List UInt8) (hs : s.length ≤ 100000000) (k : Nat) (hk : k < (textB s).length) : (readT ((textB s).take k)).2.2 = 4 := by
  have hl := intB_length s.length
  rw [textB_size] at hk
  by_cases h : k < (intB (s.length : Int)).length
  · have e : (textB s).take k = (intB (s.length : Int)).take k := by unfold textB; exact List.take_append_of_le_length (by omega)
    unfold readT
    rw [e, readI_take _ k h]
    dsimp only
    rw [if_neg (by decide)]
  · have e : (textB s).take k = intB (s.length : Int) ++ s.take (k - sizeI s.length) := by
      unfold textB
      rw [List.take_append, List.take_of_length_le (by omega), hl]
    rw [e]
    have hr := readI_intB (s.length : Int) (by omega) (by omega) (s.take (k - sizeI s.length))
    unfold readT
    rw [hr]
    dsimp only
    rw [if_pos rfl, if_pos]
    rw [List.length_append, hl, List.length_take]
    omega
theorem Sticky.rU : Sticky rU := fun s h => by rw [rU_err h]
theorem Eats.rU (s : List UInt8) (hs : s.length ≤ 100000000) : Eats rU (textB s) s := by
  refine ⟨fun t => ?_, fun k hk => ?_⟩
  · unfold Proofs.YtbodppfpmpmadaaGreat.rU
    rw [if_pos rfl]
    have := readT_textB s t (by omega)
    rw [this, if_pos rfl]
    dsimp only
    rw [← textB_size, List.drop_left]
  · have h4 := readT_cutG s hs k hk
    unfold Proofs.YtbodppfpmpmadaaGreat.rU
    rw [if_pos rfl, if_neg (by dsimp only; rw [h4]; decide)]
    exact h4
theorem readT_form {l x : List UInt8} {n : Nat} (h : readT l = (x, n, 0)) : (textB x).length ≤ n ∧ n ≤ l.length := by
  refine ⟨?_, readT_le h⟩
  obtain ⟨y, m, r, hq⟩ : ∃ y m r, readI l = (y, m, r) := ⟨_, _, _, rfl⟩
  unfold readT at h
  rw [hq] at h
  dsimp only at h
  split at h
  · rename_i h0
    subst h0
    have h1 := sizeI_of_readI hq
    have h2 := readI_ok hq
    split at h
    · simp at h
    · rename_i h3
      simp only [Prod.mk.injEq] at h
      rw [textB_size, ← h.1, List.length_drop, List.length_take]
      have e : (((min (m + y.toNat) l.length - m : Nat)) : Int) = y := by omega
      rw [e]
      omega
  · rename_i h0
    simp only [Prod.mk.injEq] at h
    exact absurd h.2.2 h0
theorem Inv.rU : Inv rU (fun c v => (textB v).length ≤ c.length) := fun l v l' h => by
  obtain ⟨y, m, r, hq⟩ : ∃ y m r, readT l = (y, m, r) := ⟨_, _, _, rfl⟩
  unfold Proofs.YtbodppfpmpmadaaGreat.rU at h
  rw [if_pos rfl, hq] at h
  dsimp only at h
  by_cases hr : r = 0
  · subst hr
    rw [if_pos rfl] at h
    injection h with h1 h2
    injection h2 with h3 _
    obtain ⟨h4, h5⟩ := readT_form hq
    refine ⟨l.take m, by rw [← h3, List.take_append_drop], ?_⟩
    show (textB v).length ≤ (l.take m).length
    rw [← h1, List.length_take]
    omega
  · rw [if_neg hr] at h
    injection h with _ h2
    injection h2 with _ h3
    exact absurd h3 hr

/- Attributes. -/
theorem attrB_pos (p : List UInt8 × List UInt8) : 2 ≤ (attrB p).length := by
  unfold attrB
  have h1 := (sizeI_le p.1.length).1
  have h2 := (sizeI_le p.2.length).1
  rw [List.length_append, textB_size, textB_size]
  omega
theorem inA_back : ∀ (ps : Pairs) (n : Nat), ps.length ≤ n → (∀ p ∈ ps, p.1.length ≤ 100000000 ∧ p.2.length ≤ 100000000) → inA n (attrsB ps, 0) = (ps, ([], 0))
  | [], n, _, _ => by
    have : attrsB [] = [] := rfl
    rw [this, inA_end n _ (by simp)]
  | p :: ps, 0, h, _ => by simp at h
  | p :: ps, n + 1, h, ho => by
    obtain ⟨h1, h2⟩ := ho p (by simp)
    have e : attrsB (p :: ps) = textB p.1 ++ (textB p.2 ++ attrsB ps) := by unfold attrsB; rw [List.flatMap_cons]; unfold attrB; rw [List.append_assoc]
    have hp := attrB_pos p
    have hl : 0 < (attrsB (p :: ps)).length := by
      rw [e, List.length_append, List.length_append]; unfold attrB at hp; rw [List.length_append] at hp; omega
    have g1 := (Eats.rU p.1 h1).1 (textB p.2 ++ attrsB ps)
    have g2 := (Eats.rU p.2 h2).1 (attrsB ps)
    rw [inA, if_pos ⟨hl, rfl⟩, e, g1]
    dsimp only
    rw [g2]
    dsimp only
    rw [inA_back ps n (by simpa using h) (fun q hq => ho q (by simp [hq]))]
theorem attrsB_len : ∀ ps : Pairs, ps.length ≤ (attrsB ps).length
  | [] => by simp
  | p :: ps => by
    have := attrsB_len ps
    have h2 := attrB_pos p
    unfold attrsB at this ⊢
    rw [List.flatMap_cons, List.length_append, List.length_cons]
    omega
def smallA (ps : Pairs) : Prop := ∀ p ∈ ps, p.1.length ≤ 100000000 ∧ p.2.length ≤ 100000000
theorem Sticky.rA : Sticky rA := fun s h => by
  unfold Proofs.YtbodppfpmpmadaaGreat.rA
  rw [rU_err h, if_neg h]
theorem Eats.rA (ps : Pairs) (h64 : ps.length ≤ 64) (hs : smallA ps) (hl : (attrsB ps).length ≤ 100000000) : Eats rA (textB (attrsB ps)) ps := by
  refine ⟨fun t => ?_, fun k hk => ?_⟩
  · have g := (Eats.rU (attrsB ps) hl).1 t
    unfold Proofs.YtbodppfpmpmadaaGreat.rA
    rw [g]
    dsimp only
    rw [if_pos rfl, inA_back ps _ (attrsB_len ps) hs]
    have hb : badA (ps, ([], 0)) = false := by unfold badA; simp; omega
    rw [hb, rW_false]
  · have g := (Eats.rU (attrsB ps) hl).2 k hk
    unfold Proofs.YtbodppfpmpmadaaGreat.rA
    rw [if_neg (by rw [g]; decide)]
    exact g
theorem rU_inv {s s' : List UInt8 × Int} {x : List UInt8} (h : rU s = (x, s')) (h0 : s.2 = 0) (he : s'.2 = 0) : (textB x).length + s'.1.length ≤ s.1.length := by
  obtain ⟨l, e⟩ := s
  obtain ⟨l', e'⟩ := s'
  dsimp only at h0 he
  subst h0 he
  obtain ⟨c, h1, h2⟩ := Inv.rU l x l' h
  dsimp only
  rw [h1, List.length_append]
  omega
theorem inA_inv : ∀ (n : Nat) (s : List UInt8 × Int), s.1.length ≤ n → s.2 = 0 → (inA n s).2.2 = 0 → (attrsB (inA n s).1).length ≤ s.1.length
  | 0, s, _, _, _ => by show (attrsB []).length ≤ _; simp [attrsB]
  | n + 1, s, h, h0, he => by
    by_cases hp : 0 < s.1.length
    · rw [inA, if_pos ⟨hp, h0⟩] at he ⊢
      dsimp only at he ⊢
      obtain ⟨x, s1, h1⟩ : ∃ x s1, rU s = (x, s1) := ⟨_, _, rfl⟩
      rw [h1] at he ⊢
      dsimp only at he ⊢
      obtain ⟨y, s2, h2⟩ : ∃ y s2, rU s1 = (y, s2) := ⟨_, _, rfl⟩
      rw [h2] at he ⊢
      dsimp only at he ⊢
      have e2 : s2.2 = 0 := by
        by_cases hc : s2.2 = 0
        · exact hc
        · rw [inA_end n s2 (fun hh => hc hh.2)] at he
          exact absurd he hc
      have e1 : s1.2 = 0 := by
        by_cases hc : s1.2 = 0
        · exact hc
        · have := Sticky.rU s1 hc
          rw [h2] at this
          exact absurd (this.symm.trans e2) hc
      have k1 := rU_inv h1 h0 e1
      have k2 := rU_inv h2 e1 e2
      have k3 := rU_less h1 h0 e1
      have k4 := rU_less h2 e1 e2
      have ih := inA_inv n s2 (by omega) e2 he
      have e : attrsB ((x, y) :: (inA n s2).1) = textB x ++ (textB y ++ attrsB (inA n s2).1) := by unfold attrsB; rw [List.flatMap_cons]; unfold attrB; rw [List.append_assoc]
      rw [e, List.length_append, List.length_append]
      omega
    · rw [inA_end _ s (fun hh => hp hh.1)]
      show (attrsB []).length ≤ _
      simp [attrsB]
theorem sizeI_mono {a b : Nat} (h : a ≤ b) : sizeI (a : Int) ≤ sizeI (b : Int) := by
  rcases intB_cases (a : Int) with ⟨h1, _, e1⟩ | ⟨h1, h2, _, e1⟩ | ⟨h1, h2, _, e1⟩ | ⟨h1, _, e1⟩ <;> rcases intB_cases (b : Int) with ⟨k1, _, f1⟩ | ⟨k1, k2, _, f1⟩ | ⟨k1, k2, _, f1⟩ | ⟨k1, _, f1⟩ <;> rw [e1, f1] <;> omega
theorem textB_mono {a b : List UInt8} (h : a.length ≤ b.length) : (textB a).length ≤ (textB b).length := by
  rw [textB_size, textB_size]
  have := sizeI_mono h
  omega
theorem Inv.rA : Inv rA (fun c v => (textB (attrsB v)).length ≤ c.length ∧ v.length ≤ 64 ∧ (attrsB v).length ≤ c.length) := fun l v l' h => by
  obtain ⟨x, s1, h1⟩ : ∃ x s1, Proofs.YtbodppfpmpmadaaGreat.rU (l, 0) = (x, s1) := ⟨_, _, rfl⟩
  unfold Proofs.YtbodppfpmpmadaaGreat.rA at h
  rw [h1] at h
  dsimp only at h
  obtain ⟨l1, e1⟩ := s1
  by_cases he : e1 = 0
  · subst he
    rw [if_pos rfl] at h
    injection h with h2 h3
    obtain ⟨c, hc, hr⟩ := Inv.rU l x l1 h1
    cases hb : badA (inA x.length (x, 0)) with
    | true => rw [hb, rW_true] at h3; simp [rE] at h3
    | false =>
      rw [hb, rW_false] at h3
      injection h3 with h4 _
      unfold badA at hb
      simp at hb
      rw [h2] at hb
      have hi := inA_inv x.length (x, 0) (Nat.le_refl _) rfl hb.1
      rw [h2] at hi
      dsimp only at hi
      have hm := textB_mono hi
      have hx := textB_len x
      exact ⟨c, by rw [hc, h4], by omega, by omega, by omega⟩
  · rw [if_neg he] at h
    injection h with _ h2
    injection h2 with _ h3
    exact absurd h3 he

/- A packet that is read to its end. -/
section
variable {α : Type} {p : Rdp α} {z v : α} {c l : List UInt8}
theorem over_full (h : ∀ t, p (c ++ t, 0) = (v, (t, 0))) (f : List UInt8 × Int → List UInt8 × Int) (hf : f = rO) : (if (f (p (c, 0)).2).2 = 0 then (p (c, 0)).1 else z, (f (p (c, 0)).2).2) = (v, 0) := by
  subst hf
  have h1 := h []
  rw [List.append_nil] at h1
  rw [h1]
  have : rO ([], (0 : Int)) = ([], 0) := rfl
  dsimp only
  rw [this, if_pos rfl]
theorem over_cut (h : (p (l, 0)).2.2 = 4) : (rO (p (l, 0)).2).2 = 4 := by
  unfold rO rW
  rw [if_neg (fun hh => absurd (h.symm.trans hh.1) (by decide)), h]
theorem over_long (h : ∀ t, p (c ++ t, 0) = (v, (t, 0))) (m : UInt8) : (rO (p (c ++ [m], 0)).2).2 = 5 := by
  rw [h [m]]
  rfl
theorem over_inv {R : List UInt8 → α → Prop} (h : Inv p R) (hz : (rO (p (l, 0)).2).2 = 0) : R l (p (l, 0)).1 := by
  obtain ⟨v, l', e, hq⟩ : ∃ v l' e, p (l, 0) = (v, (l', e)) := ⟨_, _, _, rfl⟩
  rw [hq] at hz ⊢
  dsimp only at hz ⊢
  unfold rO rW at hz
  dsimp only at hz
  by_cases he : e = 0
  · subst he
    by_cases hl : 0 < l'.length
    · rw [if_pos ⟨rfl, by simpa using hl⟩] at hz
      simp at hz
    · have hl0 : l' = [] := List.eq_nil_of_length_eq_zero (by omega)
      subst hl0
      obtain ⟨c, hc, hr⟩ := h l v [] hq
      rw [List.append_nil] at hc
      rw [hc]
      exact hr
  · rw [if_neg (fun hh => he hh.1)] at hz
    exact absurd hz he
end
end Go.Proofs.YtbodppfpmpmadaaGreat
