/- The contracts of bytes.IndexByte and strings.IndexByte: where a byte stands first. -/
import Derived.Test.YtdjnjhlgpflcjaaFacts
import Derived.Test.YtdjnjhlgpflcjaaSpecB
import Derived.Lib.BytesEntry
namespace Go.Proofs.Ytdjnjhlgpflcjaa
open Go.RowKit

theorem bytesOf_map (l : List UInt8) : Lib.bytesOf (l.map fun c => (c.toNat : Int)) = l := by
  unfold Lib.bytesOf
  rw [List.map_map]
  conv => rhs; rw [← List.map_id l]
  refine List.map_congr_left fun c _ => ?_
  simp

/-- Where the first nought stands. -/
theorem idx_zero : ∀ l : List UInt8, Lib.indexByte l 0 = if l.contains 0 then ((upZ l).length : Int) else -1
  | [] => rfl
  | a :: t => by
    unfold Lib.indexByte
    by_cases ha : a = 0
    · subst ha
      simp [upZ]
    · have h1 : (a == 0) = false := by simpa using ha
      have h2 : upZ (a :: t) = a :: upZ t := by simp [upZ, ha]
      have h3 : (a :: t).contains 0 = t.contains 0 := by
        rw [List.contains_cons]
        have : ((0 : UInt8) == a) = false := by simpa using Ne.symm ha
        rw [this, Bool.false_or]
      rw [h1, h2, h3, idx_zero t]
      by_cases hc : t.contains 0 = true
      · rw [if_pos hc, if_pos hc]
        have : ((((upZ t).length : Nat) : Int) == -1) = false := by
          rw [beq_eq_false_iff_ne]
          omega
        simp [this]
      · rw [if_neg hc, if_neg hc]
        simp

theorem run_idx {P : Program} (w : World) (v : Value) (l : List UInt8) (c : Int) (hr : Rd w v l) :
    (Extern.BytealgIndexByte.indexByte #[v, .int .u8 c]).run P w = .ok (.int .i64 (Lib.indexByte l c.toNat.toUInt8)) w := by
  obtain ⟨A, cap, rfl, hle, hm, hA, hc⟩ := hr
  by_cases hl : l = []
  · subst hl
    rcases A with _ | ad
    · exact Lib.run_indexByteNil w _ _ c
    · have hl := Lib.run_loadBytesX (P := P) w [] ad .empty (fun j x hj => by simp at hj)
      have hs := Lib.run_indexByteString (P := P) .empty c w
      have he : (⟨ByteArray.empty.data ++ (Lib.bytesOf []).toArray⟩ : ByteArray) = .empty := by
        apply ByteArray.ext
        simp [Lib.bytesOf]
      rw [he] at hl
      change Sem.run P (do
        let b ← Extern.Bytes.bytesOf (.slice (some ad) 0 cap)
        let c ← Extern.Bytes.asByte (.int .u8 c)
        match (List.range b.size).find? fun i => b[i]! == c with
        | some i => pure (goInt i)
        | none => pure (goInt (-1))) w = _
      change Sem.run P (do
        let b ← Extern.Bytes.bytesOf (.string .empty)
        let c ← Extern.Bytes.asByte (.int .u8 c)
        match (List.range b.size).find? fun i => b[i]! == c with
        | some i => pure (goInt i)
        | none => pure (goInt (-1))) w = _ at hs
      simp only [Extern.Bytes.bytesOf, Sem.run_bind, Sem.run_pure, List.length_nil] at hl hs ⊢
      rw [hl]
      exact hs
  · obtain ⟨b, o, rfl, hc2⟩ := hc hl
    rw [Lib.run_indexByteSlice w b o l.length cap (l.map fun c => (c.toNat : Int)) (by simp) (fun i hi => by
      rw [hc2 i hi]
      simp [List.getD, List.getElem?_eq_getElem hi]) c, bytesOf_map]

end Go.Proofs.Ytdjnjhlgpflcjaa
