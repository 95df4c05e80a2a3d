/- The plain law of logins' responses: nonces, what is stored, responses, what is right. No program in sight. -/
import Derived.Test.YtimelnihiocngaaShaI
import Derived.Lib.BytesEntry
namespace Go.Proofs.Ytimelnihiocngaa
open Go.RowKit

/-- The error of a nonce. -/
def checkE (n : List UInt8) : Int := if n.length = 20 ∧ n.contains 0 = false ∧ n.contains 36 = false then 0 else 2
def nonceB (c : UInt8) : UInt8 := if (c.toNat % 254 + 1) < 36 then UInt8.ofNat (c.toNat % 254 + 1) else UInt8.ofNat (c.toNat % 254 + 2)
def nonceP (d : List UInt8) : List UInt8 := if d.length = 20 then d.map nonceB else []
def nonceE (d : List UInt8) : Int := if d.length = 20 then 0 else 2
def xorL (a b : List UInt8) : List UInt8 := List.zipWith (fun x y => x ^^^ y) a b
def storedP (kind : Int) (pw : List UInt8) : List UInt8 := if (kind = 1 ∨ kind = 2) ∧ pw ≠ [] then sumP kind (sumP kind pw) else []
def storedE (kind : Int) : Int := if kind = 1 ∨ kind = 2 then 0 else 2
def mixP (kind : Int) (nonce stored : List UInt8) : List UInt8 := if kind = 1 then sumP kind (nonce ++ stored) else sumP kind (stored ++ nonce)
def respP (kind : Int) (pw nonce : List UInt8) : List UInt8 := if checkE nonce = 0 ∧ pw ≠ [] then xorL (sumP kind pw) (mixP kind nonce (storedP kind pw)) else []
def sizeK (kind : Int) : Nat := if kind = 1 then 20 else if kind = 2 then 32 else 0
def rightP (kind : Int) (stored nonce resp : List UInt8) : Bool × Int :=
  if sizeK kind = 0 then (false, 2) else if checkE nonce ≠ 0 then (false, 2) else if stored = [] then (resp.isEmpty, 0) else if stored.length ≠ sizeK kind then (false, 5)
  else if resp.length ≠ sizeK kind then (false, 0) else (sumP kind (xorL resp (mixP kind nonce stored)) == stored, 0)

theorem checkE_or (n : List UInt8) : checkE n = 0 ∨ checkE n = 2 := by unfold checkE; split <;> simp
theorem checkE_len {n : List UInt8} (h : checkE n = 0) : n.length = 20 := by
  unfold checkE at h
  split at h
  · rename_i hh; exact hh.1
  · cases h
theorem sumP_len (kind : Int) (l : List UInt8) (hk : kind = 1 ∨ kind = 2) : (sumP kind l).length = sizeK kind := by
  have h := (goodH_fin kind (s := feedH kind (initH kind) l) l.length (goodH_feed kind l (goodH_init kind))).1
  unfold sumP sumH
  rw [outH_length]
  rcases hk with rfl | rfl
  · rw [if_pos rfl, List.length_take]; simp [sizeK]; omega
  · rw [if_neg (by decide)]; simp [sizeK]; omega
theorem sizeK_le (kind : Int) : sizeK kind ≤ 32 := by unfold sizeK; split <;> (try split) <;> omega
theorem mixP_len (kind : Int) (a b : List UInt8) (hk : kind = 1 ∨ kind = 2) : (mixP kind a b).length = sizeK kind := by
  unfold mixP; split <;> exact sumP_len kind _ hk
theorem xorL_length (a b : List UInt8) : (xorL a b).length = min a.length b.length := by simp [xorL]
theorem storedP_le (kind : Int) (pw : List UInt8) : (storedP kind pw).length ≤ 32 := by
  unfold storedP
  split
  · rename_i h; rw [sumP_len kind _ h.1]; exact sizeK_le kind
  · simp
theorem xorL_take (a b : List UInt8) (k : Nat) (h1 : k < a.length) (h2 : k < b.length) : xorL (a.take (k + 1)) (b.take (k + 1)) = xorL (a.take k) (b.take k) ++ [a.getD k 0 ^^^ b.getD k 0] := by
  unfold xorL
  rw [List.take_add_one, List.take_add_one, List.getElem?_eq_getElem h1, List.getElem?_eq_getElem h2, List.getD_eq_getElem?_getD, List.getD_eq_getElem?_getD, List.getElem?_eq_getElem h1, List.getElem?_eq_getElem h2]
  simp only [Option.toList_some, Option.getD_some]
  rw [List.zipWith_append (by rw [List.length_take, List.length_take]; omega)]
  rfl
theorem xorL_self : ∀ a b : List UInt8, a.length ≤ b.length → xorL (xorL a b) b = a
  | [], b, _ => rfl
  | x :: a, [], h => by simp at h
  | x :: a, y :: b, h => by
    have ih := xorL_self a b (by simpa using h)
    unfold xorL at ih ⊢
    simp only [List.zipWith_cons_cons, ih, List.cons.injEq, and_true]
    rw [UInt8.xor_assoc, UInt8.xor_self, UInt8.xor_zero]

/-- What a password answers is right for what is stored of it. -/
theorem right_resp (kind : Int) (pw nonce : List UInt8) (hk : kind = 1 ∨ kind = 2) (hn : checkE nonce = 0) : rightP kind (storedP kind pw) nonce (respP kind pw nonce) = (true, 0) := by
  have h0 : sizeK kind ≠ 0 := by rcases hk with rfl | rfl <;> decide
  by_cases hp : pw = []
  · subst hp
    have e1 : storedP kind [] = [] := by simp [storedP]
    have e2 : respP kind [] nonce = [] := by simp [respP]
    rw [e1, e2]
    unfold rightP
    rw [if_neg h0, if_neg (by simpa using hn), if_pos rfl]
    rfl
  · have hs : storedP kind pw = sumP kind (sumP kind pw) := by unfold storedP; rw [if_pos ⟨hk, hp⟩]
    have hl : (storedP kind pw).length = sizeK kind := by rw [hs]; exact sumP_len kind _ hk
    have hx : (xorL (sumP kind pw) (mixP kind nonce (storedP kind pw))).length = sizeK kind := by rw [xorL_length, sumP_len kind _ hk, mixP_len kind _ _ hk]; omega
    have e2 : respP kind pw nonce = xorL (sumP kind pw) (mixP kind nonce (storedP kind pw)) := by unfold respP; rw [if_pos ⟨hn, hp⟩]
    rw [e2]
    unfold rightP
    rw [if_neg h0, if_neg (by simpa using hn), if_neg (by intro e; rw [e] at hl; exact h0 hl.symm), if_neg (by simpa using hl), if_neg (by simpa using hx), xorL_self _ _ (by rw [sumP_len kind _ hk, mixP_len kind _ _ hk]; omega), hs]
    simp

/-- Where a byte stands first, if anywhere. -/
theorem idx_has (c : UInt8) : ∀ l : List UInt8, (l.contains c = true → 0 ≤ Lib.indexByte l c) ∧ (l.contains c = false → Lib.indexByte l c = -1)
  | [] => by simp [Lib.indexByte]
  | a :: t => by
    have ih := idx_has c t
    unfold Lib.indexByte
    by_cases ha : a = c
    · subst ha; simp
    · have h1 : (a == c) = false := by simpa using ha
      have h3 : (a :: t).contains c = t.contains c := by
        rw [List.contains_cons]
        have : (c == a) = false := by simpa using Ne.symm ha
        rw [this, Bool.false_or]
      rw [h1, h3]
      by_cases hc : t.contains c = true
      · have h2 := ih.1 hc
        have : (Lib.indexByte t c == -1) = false := by rw [beq_eq_false_iff_ne]; omega
        rw [hc, this]
        exact ⟨fun _ => by show 0 ≤ Lib.indexByte t c + 1; omega, (fun h => by cases h)⟩
      · have hc' : t.contains c = false := by simpa using hc
        rw [hc', ih.2 hc']
        exact ⟨(fun h => by cases h), fun _ => rfl⟩
theorem nonceB_ne (c : UInt8) : nonceB c ≠ 0 ∧ nonceB c ≠ 36 := by
  unfold nonceB
  constructor <;> (split <;> (intro e; have := congrArg UInt8.toNat e; rw [UInt8.toNat_ofNat'] at this; simp at this; omega))
theorem nonceP_check {d : List UInt8} (h : d.length = 20) : checkE (nonceP d) = 0 := by
  unfold checkE nonceP
  rw [if_pos h, if_pos]
  refine ⟨by simpa using h, ?_, ?_⟩
  · simp only [List.contains_eq_mem, List.mem_map, decide_eq_false_iff_not, not_exists, not_and]
    intro x _ e; exact (nonceB_ne x).1 e
  · simp only [List.contains_eq_mem, List.mem_map, decide_eq_false_iff_not, not_exists, not_and]
    intro x _ e; exact (nonceB_ne x).2 e
theorem nonceP_take (d : List UInt8) (k : Nat) (h : k < d.length) : (d.take (k + 1)).map nonceB = (d.take k).map nonceB ++ [nonceB (d.getD k 0)] := by
  rw [List.take_add_one, List.getElem?_eq_getElem h, List.getD_eq_getElem?_getD, List.getElem?_eq_getElem h, List.map_append]
  rfl
end Go.Proofs.Ytimelnihiocngaa
