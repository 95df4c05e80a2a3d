/- What was written is what is read: plain. -/
import Derived.Test.YtdjnjhlgpflcjaaTrS
namespace Go.Proofs.Ytdjnjhlgpflcjaa

theorem back_all (K : List Chg) (h : ∀ c ∈ K, okC c) : readCs (K.flatMap chgB) = (K, 0) := readC_back K _ (flat_le K) h
theorem back_cut (K : List Chg) (h : ∀ c ∈ K, okC c) (hne : (K.flatMap chgB).length ≠ 0) : readCs ((K.flatMap chgB).take ((K.flatMap chgB).length - 1)) = ([], 4) := by
  rcases List.eq_nil_or_concat K with rfl | ⟨K', c, rfl⟩
  · simp at hne
  · rw [List.concat_eq_append] at h ⊢
    have hp : 2 ≤ (chgB c).length := by
      unfold chgB
      rw [List.length_cons, textB_length]
      have := (sizeI_le (inB c).length).1
      omega
    have hl := flat_le K'
    have e1 : (K' ++ [c]).flatMap chgB = K'.flatMap chgB ++ chgB c := by simp
    rw [e1, List.length_append]
    have e2 : (K'.flatMap chgB ++ chgB c).take ((K'.flatMap chgB).length + (chgB c).length - 1) = K'.flatMap chgB ++ (chgB c).take ((chgB c).length - 1) := by
      rw [List.take_append, List.take_of_length_le (by omega)]
      congr 2
      omega
    rw [e2]
    exact readC_cut K' c _ (by rw [List.length_append, List.length_take]; omega) (fun x hx => h x (by simp [hx])) (h c (by simp))
/-- Those that may be among the first k. -/
def kept (cs : List Chg) (k : Nat) : List Chg := (cs.take k).filter mayP
theorem kept_step (cs : List Chg) (k : Nat) (h : k < cs.length) (c : Chg) (hc : c = cs.getD k (0, [], [])) : kept cs (k + 1) = kept cs k ++ (if mayP c then [c] else []) := by
  unfold kept
  rw [List.take_add_one, List.getElem?_eq_getElem h, List.filter_append]
  have : c = cs[k] := by rw [hc, List.getD_eq_getElem?_getD, List.getElem?_eq_getElem h]; rfl
  subst this
  simp [List.filter_cons]
theorem kept_len (cs : List Chg) (k : Nat) : (kept cs k).length ≤ k := by
  unfold kept
  refine Nat.le_trans (List.length_filter_le _ _) ?_
  rw [List.length_take]; omega
theorem flat_le2 : ∀ (cs : List Chg), (∀ c ∈ cs, okC c) → (cs.flatMap chgB).length ≤ cs.length * 10028
  | [], _ => by simp
  | c :: cs, h => by
    have h1 := flat_le2 cs (fun x hx => h x (by simp [hx]))
    have h2 := chgB_le c
    obtain ⟨_, h3, h4⟩ := h c (by simp)
    rw [List.flatMap_cons, List.length_append, List.length_cons]
    omega
end Go.Proofs.Ytdjnjhlgpflcjaa
