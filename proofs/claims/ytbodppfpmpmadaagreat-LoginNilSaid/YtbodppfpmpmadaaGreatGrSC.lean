import Derived.Test.YtbodppfpmpmadaaGreatL8C
/- The plain law of packets that are read field by field: what was written is read back, a part of it is too short; what was read is what was written. No program in sight. -/
namespace Go.Proofs.YtbodppfpmpmadaaGreat
open Go.RowKit

/-- A reader of a value: of the bytes that are left and the first error. -/
abbrev Rdp (α : Type) := List UInt8 × Int → α × (List UInt8 × Int)
def bindR {α β : Type} (p : Rdp α) (f : α → Rdp β) : Rdp β := fun s => f (p s).1 (p s).2
def pureR {α : Type} (x : α) : Rdp α := fun s => (x, s)
/-- A check. -/
def chkR (f : List UInt8 × Int → List UInt8 × Int) : Rdp Unit := fun s => ((), f s)

/-- It keeps the first error. -/
def Sticky {α : Type} (p : Rdp α) : Prop := ∀ s : List UInt8 × Int, s.2 ≠ 0 → (p s).2.2 = s.2
/-- These bytes it reads as this value, whatever stands behind them; of a part of them it says that it is too short. -/
def Eats {α : Type} (p : Rdp α) (c : List UInt8) (v : α) : Prop := (∀ t, p (c ++ t, 0) = (v, (t, 0))) ∧ ∀ k, k < c.length → (p (c.take k, 0)).2.2 = 4
/-- What it reads without an error stands so to the value. -/
def Inv {α : Type} (p : Rdp α) (R : List UInt8 → α → Prop) : Prop := ∀ l v l', p (l, 0) = (v, (l', 0)) → ∃ c, l = c ++ l' ∧ R c v

theorem Sticky.pure {α : Type} (x : α) : Sticky (pureR x) := fun _ _ => rfl
theorem Sticky.bind {α β : Type} {p : Rdp α} {f : α → Rdp β} (hp : Sticky p) (hf : ∀ v, Sticky (f v)) : Sticky (bindR p f) := fun s hs => by
  have h1 := hp s hs
  have h2 := hf (p s).1 (p s).2 (by rw [h1]; exact hs)
  show (f (p s).1 (p s).2).2.2 = _
  rw [h2, h1]
theorem Eats.pure {α : Type} (x : α) : Eats (pureR x) [] x := ⟨fun _ => rfl, fun k hk => absurd hk (by simp)⟩
theorem Eats.bind {α β : Type} {p : Rdp α} {f : α → Rdp β} {c d : List UInt8} {v : α} {u : β} (hp : Eats p c v) (hf : Eats (f v) d u) (sf : ∀ v, Sticky (f v)) : Eats (bindR p f) (c ++ d) u := by
  refine ⟨fun t => ?_, fun k hk => ?_⟩
  · show f (p (c ++ d ++ t, 0)).1 (p (c ++ d ++ t, 0)).2 = _
    rw [List.append_assoc, hp.1]
    exact hf.1 t
  · show (f (p ((c ++ d).take k, 0)).1 (p ((c ++ d).take k, 0)).2).2.2 = 4
    by_cases h : k < c.length
    · rw [List.take_append_of_le_length (by omega)]
      have h2 := hp.2 k h
      rw [sf _ _ (by rw [h2]; decide), h2]
    · rw [List.take_append, List.take_of_length_le (by omega), hp.1]
      exact hf.2 (k - c.length) (by rw [List.length_append] at hk; omega)
theorem Inv.pure {α : Type} (x : α) : Inv (pureR x) (fun c v => c = [] ∧ v = x) := fun l v l' h => by
  injection h with h1 h2
  injection h2 with h3 _
  exact ⟨[], by rw [h3]; rfl, rfl, h1.symm⟩
theorem Inv.bind {α β : Type} {p : Rdp α} {f : α → Rdp β} {R : List UInt8 → α → Prop} {T : α → List UInt8 → β → Prop} (hp : Inv p R) (hf : ∀ v, Inv (f v) (T v)) (sf : ∀ v, Sticky (f v)) :
    Inv (bindR p f) (fun c u => ∃ a v b, c = a ++ b ∧ R a v ∧ T v b u) := fun l u l' h => by
  obtain ⟨v, m, e, hq⟩ : ∃ v m e, p (l, 0) = (v, (m, e)) := ⟨_, _, _, rfl⟩
  have h' : f v (m, e) = (u, (l', 0)) := by
    have : bindR p f (l, 0) = f (p (l, 0)).1 (p (l, 0)).2 := rfl
    rw [this, hq] at h
    exact h
  by_cases he : e = 0
  · subst he
    obtain ⟨a, rfl, ha⟩ := hp l v m hq
    obtain ⟨b, rfl, hb⟩ := hf v m u l' h'
    exact ⟨a ++ b, by rw [List.append_assoc], a, v, b, rfl, ha, hb⟩
  · have := sf v (m, e) he
    rw [h'] at this
    exact absurd this.symm he

/- The single fields. -/
theorem rB_good (n : Nat) (c t : List UInt8) (h : c.length = n) : rB n (c ++ t, 0) = (c, (t, 0)) := by
  unfold rB
  rw [if_pos rfl, if_neg (by simp; omega)]
  simp only [← h, List.take_left, List.drop_left]
theorem rB_short (n : Nat) (c : List UInt8) (h : c.length < n) : rB n (c, 0) = (List.replicate n 0, (c, 4)) := by
  unfold rB
  rw [if_pos rfl, if_pos h]
theorem rB_err (n : Nat) (s : List UInt8 × Int) (h : s.2 ≠ 0) : rB n s = (List.replicate n 0, s) := by unfold rB; rw [if_neg h]
theorem Sticky.rB (n : Nat) : Sticky (rB n) := fun s h => by rw [rB_err n s h]
theorem Eats.rB (n : Nat) (c : List UInt8) (h : c.length = n) : Eats (rB n) c c := ⟨fun t => rB_good n c t h, fun k hk => by rw [rB_short n _ (by rw [List.length_take]; omega)]⟩
theorem Inv.rB (n : Nat) : Inv (rB n) (fun c v => v = c ∧ c.length = n) := fun l v l' h => by
  unfold Proofs.YtbodppfpmpmadaaGreat.rB at h
  rw [if_pos rfl] at h
  split at h
  · simp at h
  · injection h with h1 h2
    injection h2 with h3 _
    exact ⟨l.take n, by rw [← h3, List.take_append_drop], h1.symm, by rw [List.length_take]; dsimp only at *; omega⟩
theorem Sticky.rX (n : Nat) : Sticky (rX n) := fun s h => by unfold Proofs.YtbodppfpmpmadaaGreat.rX; rw [rB_err n s h]
theorem Eats.rX (n : Nat) (c : List UInt8) (h : c.length = n) : Eats (rX n) c (leN c : Int) :=
  ⟨fun t => by unfold Proofs.YtbodppfpmpmadaaGreat.rX; rw [rB_good n c t h], fun k hk => by unfold Proofs.YtbodppfpmpmadaaGreat.rX; rw [rB_short n _ (by rw [List.length_take]; omega)]⟩
theorem Inv.rX (n : Nat) : Inv (rX n) (fun c v => v = (leN c : Int) ∧ c.length = n) := fun l v l' h => by
  unfold Proofs.YtbodppfpmpmadaaGreat.rX at h
  injection h with h1 h2
  obtain ⟨c, h3, h4, h5⟩ := Inv.rB n l (Proofs.YtbodppfpmpmadaaGreat.rB n (l, 0)).1 l' (by rw [← h2])
  exact ⟨c, h3, by rw [← h1, h4], h5⟩
/-- A check that holds says nothing; one that fails says 5. -/
theorem Sticky.chk (b : Bool) : Sticky (chkR (rW b)) := fun s h => by show (rW b s).2 = _; unfold rW; rw [if_neg (fun h2 => h h2.1)]
theorem Eats.chk : Eats (chkR (rW false)) [] () := ⟨fun t => by show ((), rW false _) = _; rw [rW_false]; rfl, fun k hk => absurd hk (by simp)⟩
theorem Inv.chk (b : Bool) : Inv (chkR (rW b)) (fun c _ => c = [] ∧ b = false) := fun l v l' h => by
  have h2 : rW b (l, 0) = (l', 0) := congrArg Prod.snd h
  cases b with
  | true => rw [rW_true] at h2; simp [rE] at h2
  | false => rw [rW_false] at h2; injection h2 with h3 _; exact ⟨[], by rw [h3]; rfl, rfl, rfl⟩
theorem Sticky.r0 (n : Nat) : Sticky (chkR (r0 n)) := fun s h => by
  show (Proofs.YtbodppfpmpmadaaGreat.r0 n s).2 = _
  unfold Proofs.YtbodppfpmpmadaaGreat.r0
  rw [rB_err n s h]
  exact Sticky.chk _ s h
theorem Eats.r0 (n : Nat) : Eats (chkR (r0 n)) (List.replicate n 0) () := by
  refine ⟨fun t => ?_, fun k hk => ?_⟩
  · show ((), Proofs.YtbodppfpmpmadaaGreat.r0 n _) = _
    unfold Proofs.YtbodppfpmpmadaaGreat.r0
    rw [rB_good n _ t (by simp)]
    simp only [bne_self_eq_false]
    rw [rW_false]
  · show (Proofs.YtbodppfpmpmadaaGreat.r0 n _).2 = _
    unfold Proofs.YtbodppfpmpmadaaGreat.r0
    rw [List.length_replicate] at hk
    rw [rB_short n _ (by rw [List.length_take, List.length_replicate]; omega)]
    simp only [bne_self_eq_false]
    rw [rW_false]
theorem Inv.r0 (n : Nat) : Inv (chkR (r0 n)) (fun c _ => c = List.replicate n 0) := fun l v l' h => by
  have h2 : Proofs.YtbodppfpmpmadaaGreat.r0 n (l, 0) = (l', 0) := congrArg Prod.snd h
  unfold Proofs.YtbodppfpmpmadaaGreat.r0 at h2
  by_cases hl : l.length < n
  · rw [rB_short n l hl] at h2
    simp only [bne_self_eq_false] at h2
    rw [rW_false] at h2
    simp at h2
  · have e : Proofs.YtbodppfpmpmadaaGreat.rB n (l, 0) = (l.take n, (l.drop n, 0)) := by unfold Proofs.YtbodppfpmpmadaaGreat.rB; rw [if_pos rfl, if_neg hl]
    rw [e] at h2
    dsimp only at h2
    by_cases hz : l.take n = List.replicate n 0
    · rw [hz] at h2
      simp only [bne_self_eq_false] at h2
      rw [rW_false] at h2
      injection h2 with h3 _
      exact ⟨List.replicate n 0, by rw [← h3, ← hz, List.take_append_drop], rfl⟩
    · have hb : (l.take n != List.replicate n 0) = true := by simpa using hz
      rw [hb, rW_true] at h2
      simp [rE] at h2
theorem readZ_good (s t : List UInt8) (h : s.contains 0 = false) : readZ (s ++ [0] ++ t) = (s, s.length + 1, 0) := readZ_ended s t h
theorem readZ_none (l : List UInt8) (h : l.contains 0 = false) : readZ l = ([], 0, 4) := by unfold readZ; rw [if_neg (by rw [h]; decide)]
theorem Sticky.rZ : Sticky rZ := fun s h => by unfold Proofs.YtbodppfpmpmadaaGreat.rZ; rw [if_neg h]
theorem Eats.rZ (s : List UInt8) (h : s.contains 0 = false) : Eats rZ (s ++ [0]) s := by
  refine ⟨fun t => ?_, fun k hk => ?_⟩
  · unfold Proofs.YtbodppfpmpmadaaGreat.rZ
    rw [if_pos rfl, readZ_good s t h, if_pos rfl]
    have : (s ++ [0] ++ t).drop (s.length + 1) = t := by
      have e : s.length + 1 = (s ++ [0]).length := by simp
      rw [e, List.drop_left]
    simp only [this]
  · rw [List.length_append, List.length_singleton] at hk
    have e : (s ++ [0]).take k = s.take k := List.take_append_of_le_length (by omega)
    have hz : (s.take k).contains 0 = false := by
      simp only [List.contains_eq_mem, decide_eq_false_iff_not] at h ⊢
      exact fun hm => h (List.mem_of_mem_take hm)
    unfold Proofs.YtbodppfpmpmadaaGreat.rZ
    rw [if_pos rfl, e, readZ_none _ hz, if_neg (by decide)]
theorem Inv.rZ : Inv rZ (fun c v => c = v ++ [0] ∧ v.contains 0 = false) := fun l v l' h => by
  unfold Proofs.YtbodppfpmpmadaaGreat.rZ at h
  rw [if_pos rfl] at h
  unfold readZ at h
  by_cases hc : l.contains 0 = true
  · rw [if_pos hc, if_pos rfl] at h
    injection h with h1 h2
    injection h2 with h3 _
    dsimp only at h1 h3
    have hlt := upZ_lt l hc
    have ht := upZ_take l
    subst h1
    have hno : (upZ l).contains 0 = false := by
      unfold upZ
      simp only [List.contains_eq_mem, decide_eq_false_iff_not]
      intro hm
      have := List.all_takeWhile (p := (· != (0 : UInt8))) (l := l)
      rw [List.all_eq_true] at this
      simpa using this 0 hm
    have hat : l[(upZ l).length]? = some 0 := by
      have hd : l = upZ l ++ l.dropWhile (· != 0) := (List.takeWhile_append_dropWhile).symm
      have hne : l.dropWhile (· != 0) ≠ [] := by
        intro e; rw [e, List.append_nil] at hd; rw [← hd] at hlt; omega
      obtain ⟨x, r, hx⟩ : ∃ x r, l.dropWhile (· != 0) = x :: r := List.exists_cons_of_ne_nil hne
      have hx0 : x = 0 := by
        have := List.head_dropWhile_not (p := (· != (0 : UInt8))) (l := l) hne
        simp only [hx, List.head_cons] at this
        simpa using this
      have key : (upZ l ++ x :: r)[(upZ l).length]? = some x := by rw [List.getElem?_append_right (Nat.le_refl _), Nat.sub_self]; rfl
      rw [hx] at hd
      rw [← hd, hx0] at key
      exact key
    refine ⟨upZ l ++ [0], ?_, rfl, hno⟩
    rw [← h3]
    conv => lhs; rw [← List.take_append_drop ((upZ l).length + 1) l, List.take_add_one, ht, hat]
    rfl
  · rw [if_neg hc, if_neg (by decide)] at h
    simp at h
end Go.Proofs.YtbodppfpmpmadaaGreat
