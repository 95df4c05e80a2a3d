/- Changes of a session: what may be, how they are written and read. Plain; no program. -/
import Derived.Test.YtdjnjhlgpflcjaaSpecD
namespace Go.Proofs.Ytdjnjhlgpflcjaa

/-- A change: its kind, its name, its value. -/
abbrev Chg := Int × List UInt8 × List UInt8
def mayP (c : Chg) : Bool :=
  if c.1 = 0 then true
  else if c.1 = 2 then c.2.2 == [49] && c.2.1.isEmpty
  else if c.1 = 5 then decide (c.2.2.length = 8) && c.2.1.isEmpty
  else if c.1 = 1 ∨ c.1 = 3 ∨ c.1 = 4 then c.2.1.isEmpty
  else false
/-- What a change has, as bytes. -/
def preB (c : Chg) : List UInt8 := if c.1 = 0 then textB c.2.1 else if c.1 = 3 then [0] else []
def inB (c : Chg) : List UInt8 := preB c ++ textB c.2.2
def chgB (c : Chg) : List UInt8 := UInt8.ofNat c.1.toNat :: textB (inB c)
def appR (l : List UInt8) (c : Chg) : List UInt8 × Int := if mayP c then (l ++ chgB c, 0) else ([], 2)

def tailP (k : Int) (n s : List UInt8) : Option Chg := if (readT s).2.2 = 0 ∧ (readT s).2.1 = s.length ∧ mayP (k, n, (readT s).1) = true then some (k, n, (readT s).1) else none
def oneP (k : Int) (s : List UInt8) : Option Chg :=
  if k = 0 then (if (readT s).2.2 = 0 then tailP k (readT s).1 (s.drop (readT s).2.1) else none)
  else if k = 3 then (if s.length = 0 then none else if s.getD 0 0 = 0 then tailP k [] (s.drop 1) else none)
  else tailP k [] s
/-- Changes, one behind the other. -/
def readC : Nat → List UInt8 → List Chg × Int
  | 0, _ => ([], 0)
  | f + 1, l =>
    if l.length = 0 then ([], 0)
    else if 5 < (l.getD 0 0).toNat then ([], 5)
    else if (readT (l.drop 1)).2.2 = 0 then
      match oneP ((l.getD 0 0).toNat : Int) (readT (l.drop 1)).1 with
      | none => ([], 5)
      | some c => if (readC f (l.drop (1 + (readT (l.drop 1)).2.1))).2 = 0 then (c :: (readC f (l.drop (1 + (readT (l.drop 1)).2.1))).1, 0) else ([], (readC f (l.drop (1 + (readT (l.drop 1)).2.1))).2)
    else ([], (readT (l.drop 1)).2.2)
def readCs (l : List UInt8) : List Chg × Int := readC l.length l
def onto (done : List Chg) (r : List Chg × Int) : List Chg × Int := if r.2 = 0 then (done ++ r.1, 0) else ([], r.2)

theorem readC_nil (f : Nat) : readC f [] = ([], 0) := by cases f <;> rfl
theorem readC_kind (f : Nat) (l : List UInt8) (h : l.length ≠ 0) (h5 : 5 < (l.getD 0 0).toNat) : readC (f + 1) l = ([], 5) := by rw [readC, if_neg h, if_pos h5]
theorem readC_text (f : Nat) (l : List UInt8) (h : l.length ≠ 0) (h5 : ¬ 5 < (l.getD 0 0).toNat) {x : List UInt8} {n : Nat} {e : Int} (ht : readT (l.drop 1) = (x, n, e)) (he : e ≠ 0) : readC (f + 1) l = ([], e) := by
  rw [readC, if_neg h, if_neg h5, ht, if_neg he]
theorem readC_none (f : Nat) (l : List UInt8) (h : l.length ≠ 0) (h5 : ¬ 5 < (l.getD 0 0).toNat) {x : List UInt8} {n : Nat} (ht : readT (l.drop 1) = (x, n, 0)) (hc : oneP ((l.getD 0 0).toNat : Int) x = none) : readC (f + 1) l = ([], 5) := by
  rw [readC, if_neg h, if_neg h5, ht, if_pos rfl]
  dsimp only
  rw [hc]
theorem readC_some (f : Nat) (l : List UInt8) (h : l.length ≠ 0) (h5 : ¬ 5 < (l.getD 0 0).toNat) {x : List UInt8} {n : Nat} {c : Chg} (ht : readT (l.drop 1) = (x, n, 0)) (hc : oneP ((l.getD 0 0).toNat : Int) x = some c) : readC (f + 1) l = onto [c] (readC f (l.drop (1 + n))) := by
  rw [readC, if_neg h, if_neg h5, ht, if_pos rfl]
  dsimp only
  rw [hc]
  rfl
theorem onto_onto (a b : List Chg) (r : List Chg × Int) : onto a (onto b r) = onto (a ++ b) r := by
  unfold onto
  by_cases h : r.2 = 0
  · rw [if_pos h, if_pos h, if_pos rfl, List.append_assoc]
  · rw [if_neg h, if_neg h, if_neg h]
theorem readT_len {l x : List UInt8} {n : Nat} (h : readT l = (x, n, 0)) : n ≤ l.length ∧ 1 ≤ n ∧ x.length ≤ l.length := by
  obtain ⟨y, m, r, hq⟩ : ∃ y m r, readI l = (y, m, r) := ⟨_, _, _, rfl⟩
  unfold readT at h
  rw [hq] at h
  dsimp only at h
  split at h
  · rename_i h0
    subst h0
    have := readI_ok hq
    split at h
    · simp at h
    · simp only [Prod.mk.injEq] at h
      refine ⟨by omega, by omega, ?_⟩
      rw [← h.1, List.length_drop, List.length_take]
      omega
  · rename_i h0
    simp only [Prod.mk.injEq] at h
    exact absurd h.2.2 h0

/- What was written is read back. -/
theorem textB_length (s : List UInt8) : (textB s).length = sizeI s.length + s.length := by unfold textB; rw [List.length_append, intB_length]
theorem readT_full (s : List UInt8) (h : s.length ≤ 1000000) : readT (textB s) = (s, (textB s).length, 0) := by
  have := readT_textB s [] (by omega)
  rw [List.append_nil] at this
  rw [this, textB_length]
theorem tail_back (c : Chg) (hm : mayP c = true) (h : c.2.2.length ≤ 1000000) : tailP c.1 c.2.1 (textB c.2.2) = some c := by
  unfold tailP
  rw [readT_full _ h]
  dsimp only
  rw [if_pos ⟨rfl, rfl, hm⟩]
theorem one_back (c : Chg) (hm : mayP c = true) (h1 : c.2.1.length ≤ 1000000) (h2 : c.2.2.length ≤ 1000000) : oneP c.1 (inB c) = some c := by
  obtain ⟨k, n, v⟩ := c
  dsimp only at h1 h2
  have ht := tail_back (k, n, v) hm h2
  dsimp only at ht
  unfold oneP inB preB
  dsimp only
  by_cases h0 : k = 0
  · subst h0
    rw [if_pos rfl, if_pos rfl, readT_textB n _ (by omega), if_pos rfl]
    dsimp only
    rw [← textB_length, List.drop_left]
    exact ht
  · rw [if_neg h0, if_neg h0]
    have hn : n = [] := by
      unfold mayP at hm
      dsimp only at hm
      rw [if_neg h0] at hm
      split at hm
      · simp at hm; exact hm.2
      · split at hm
        · simp at hm; exact hm.2
        · split at hm
          · simpa using hm
          · cases hm
    subst hn
    by_cases h3 : k = 3
    · subst h3
      rw [if_pos rfl, if_pos rfl, if_neg (by simp)]
      exact (if_pos (show (0 : UInt8) = 0 from rfl)).trans ht
    · rw [if_neg h3, if_neg h3, List.nil_append]
      exact ht
theorem may_kind (c : Chg) (h : mayP c = true) : 0 ≤ c.1 ∧ c.1 ≤ 5 := by
  unfold mayP at h
  split at h
  · omega
  · split at h
    · omega
    · split at h
      · omega
      · split at h
        · omega
        · cases h
def okC (c : Chg) : Prop := mayP c = true ∧ c.2.1.length ≤ 5000 ∧ c.2.2.length ≤ 5000
theorem preB_le (c : Chg) : (preB c).length ≤ c.2.1.length + 9 := by
  unfold preB
  have := (sizeI_le c.2.1.length).2
  split
  · rw [textB_length]; omega
  · split
    · simp
    · simp
theorem inB_le (c : Chg) : (inB c).length ≤ c.2.1.length + c.2.2.length + 18 := by
  unfold inB
  have := (sizeI_le c.2.2.length).2
  have := preB_le c
  rw [List.length_append, textB_length]; omega
theorem chgB_le (c : Chg) : (chgB c).length ≤ c.2.1.length + c.2.2.length + 28 := by
  unfold chgB
  have := (sizeI_le (inB c).length).2
  have := inB_le c
  rw [List.length_cons, textB_length]; omega
theorem chgB_head (c : Chg) (h : mayP c = true) (t : List UInt8) : ((chgB c ++ t).getD 0 0).toNat = c.1.toNat ∧ ((((chgB c ++ t).getD 0 0).toNat : Nat) : Int) = c.1 := by
  have hk := may_kind c h
  have e : (chgB c ++ t).getD 0 0 = UInt8.ofNat c.1.toNat := by unfold chgB; rfl
  rw [e, UInt8.toNat_ofNat']
  omega
theorem readC_step (f : Nat) (c : Chg) (t : List UInt8) (h : okC c) : readC (f + 1) (chgB c ++ t) = onto [c] (readC f t) := by
  obtain ⟨hm, h1, h2⟩ := h
  have hh := chgB_head c hm t
  have hk := may_kind c hm
  have hi := inB_le c
  have e1 : (chgB c ++ t).drop 1 = textB (inB c) ++ t := by unfold chgB; rfl
  have ht : readT ((chgB c ++ t).drop 1) = (inB c, sizeI (inB c).length + (inB c).length, 0) := by
    rw [e1, readT_textB _ _ (by omega)]
  rw [readC_some f (chgB c ++ t) (by unfold chgB; simp) (by rw [hh.1]; omega) ht (by rw [hh.2]; exact one_back c hm (by omega) (by omega))]
  have e2 : (chgB c ++ t).drop (1 + (sizeI (inB c).length + (inB c).length)) = t := by
    rw [← List.drop_drop, e1, ← textB_length, List.drop_left]
  rw [e2]
theorem flat_le : ∀ (cs : List Chg), (cs.flatMap chgB).length ≥ cs.length
  | [] => by simp
  | c :: cs => by
    have := flat_le cs
    rw [List.flatMap_cons, List.length_append, List.length_cons]
    have : (chgB c).length = (textB (inB c)).length + 1 := by unfold chgB; rw [List.length_cons]
    omega
theorem readC_back : ∀ (cs : List Chg) (f : Nat), cs.length ≤ f → (∀ c ∈ cs, okC c) → readC f (cs.flatMap chgB) = (cs, 0)
  | [], f, _, _ => readC_nil f
  | c :: cs, 0, h, _ => by simp at h
  | c :: cs, f + 1, h, ho => by
    rw [List.flatMap_cons, readC_step f c _ (ho c (by simp)), readC_back cs f (by simpa using h) (fun x hx => ho x (by simp [hx]))]
    rfl
theorem readT_cut (s : List UInt8) (h : s.length ≤ 1000000) : (readT ((textB s).take ((textB s).length - 1))).2.2 = 4 := by
  have hs := sizeI_le s.length
  have hl := intB_length s.length
  rw [textB_length]
  by_cases h0 : s.length = 0
  · obtain rfl : s = [] := List.eq_nil_of_length_eq_zero h0
    decide
  · have e : (textB s).take (sizeI s.length + s.length - 1) = intB (s.length : Int) ++ s.take (s.length - 1) := by
      unfold textB
      rw [List.take_append, hl, List.take_of_length_le (by rw [hl]; omega)]
      congr 2
      omega
    rw [e]
    have hr := readI_intB (s.length : Int) (by omega) (by omega) (s.take (s.length - 1))
    unfold readT
    rw [hr]
    dsimp only
    rw [if_pos rfl, if_pos]
    rw [List.length_append, hl, List.length_take]
    omega
theorem readC_cut : ∀ (cs : List Chg) (c : Chg) (f : Nat), cs.length < f → (∀ x ∈ cs, okC x) → okC c → readC f (cs.flatMap chgB ++ (chgB c).take ((chgB c).length - 1)) = ([], 4)
  | [], c, 0, h, _, _ => by simp at h
  | [], c, f + 1, _, _, h => by
    obtain ⟨hm, h1, h2⟩ := h
    have hi := inB_le c
    have hk := may_kind c hm
    have hp : 1 ≤ (textB (inB c)).length := by rw [textB_length]; have := (sizeI_le (inB c).length).1; omega
    have e : (chgB c).take ((chgB c).length - 1) = UInt8.ofNat c.1.toNat :: (textB (inB c)).take ((textB (inB c)).length - 1) := by
      unfold chgB
      rw [List.length_cons, show (textB (inB c)).length + 1 - 1 = ((textB (inB c)).length - 1) + 1 by omega, List.take_succ_cons]
    rw [List.flatMap_nil, List.nil_append, e]
    have ht := readT_cut (inB c) (by omega)
    obtain ⟨x, n, r, hq⟩ : ∃ x n r, readT ((textB (inB c)).take ((textB (inB c)).length - 1)) = (x, n, r) := ⟨_, _, _, rfl⟩
    rw [hq] at ht
    dsimp only at ht
    subst ht
    have hk2 : (UInt8.ofNat c.1.toNat).toNat = c.1.toNat := by rw [UInt8.toNat_ofNat']; omega
    refine readC_text f _ (by simp) ?_ (show readT (List.drop 1 (_ :: _)) = (x, n, 4) from hq) (by decide)
    show ¬ 5 < (UInt8.ofNat c.1.toNat).toNat
    rw [hk2]
    omega
  | a :: cs, c, 0, h, _, _ => by simp at h
  | a :: cs, c, f + 1, h, ho, hc => by
    rw [List.flatMap_cons, List.append_assoc, readC_step f a _ (ho a (by simp)), readC_cut cs c f (by simpa using h) (fun x hx => ho x (by simp [hx])) hc]
    rfl
end Go.Proofs.Ytdjnjhlgpflcjaa
