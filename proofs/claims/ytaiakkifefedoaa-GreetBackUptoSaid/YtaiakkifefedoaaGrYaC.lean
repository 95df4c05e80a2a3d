import Derived.Test.YtaiakkifefedoaaGrXbC
import Derived.Test.YtaiakkifefedoaaGrWC
import Derived.Test.YtaiakkifefedoaaGrPlC
import Derived.Test.YtaiakkifefedoaaGrZcC
import Derived.Test.YtaiakkifefedoaaGrZdC
import Derived.Test.YtaiakkifefedoaaGrZeC
/- What GreetBack's walk needs: sizes, what is read of what was written. -/
namespace Go.Proofs.Ytaiakkifefedoaa
open Go.RowKit

theorem endB_le (f : Bool) (s : List UInt8) : (endB f s).length ≤ s.length + 1 := by
  unfold endB
  cases f <;> simp
theorem attrsB_bound : ∀ ps : Pairs, (attrsB ps).length ≤ sumA ps + 18 * ps.length
  | [] => by simp [attrsB]
  | p :: ps => by
    have ih := attrsB_bound ps
    have e : attrsB (p :: ps) = attrB p ++ attrsB ps := by unfold attrsB; rw [List.flatMap_cons]
    have e2 : (attrB p).length = (textB p.1).length + (textB p.2).length := by unfold attrB; rw [List.length_append]
    have h1 := textB_size p.1
    have h2 := textB_size p.2
    have h3 := (sizeI_le p.1.length).2
    have h4 := (sizeI_le p.2.length).2
    rw [e, List.length_append, sumA, List.length_cons]
    omega
theorem textB_le9 (s : List UInt8) : (textB s).length ≤ s.length + 9 := by
  have h1 := textB_size s
  have h3 := (sizeI_le s.length).2
  omega
theorem attB_le (f : Bool) (ps : Pairs) : (attB f ps).length ≤ (attrsB ps).length + 9 := by
  unfold attB
  cases f
  · simp
  · exact textB_le9 _
theorem respB_le (f : Bool) (s : List UInt8) : (respB f s).length ≤ s.length + 9 := by
  unfold respB
  cases f
  · simp
  · exact textB_le9 _
theorem gre_len (g : GreV) : 0 < (greetB g).length ∧ (greetB g).length ≤ 100 + g.ver.length + 2 * g.nonce.length + g.pl.length := by
  have h := endB_le (hasC g.caps 524288) g.pl
  simp only [greetB, greetBs, List.length_append, List.length_cons, List.length_nil, List.length_take, List.length_drop, List.length_replicate, fixB_length]
  omega
theorem ans_len (a : AnsV) : 0 < (answerB a).length ∧ (answerB a).length ≤ 100 + a.user.length + a.resp.length + a.db.length + a.pl.length + (attrsB a.at_).length := by
  have h1 := endB_le (hasC a.caps 8) a.db
  have h2 := endB_le (hasC a.caps 524288) a.pl
  have h3 := attB_le (hasC a.caps 1048576) a.at_
  have h4 := respB_le (hasC a.caps 2097152) a.resp
  simp only [answerB, List.length_append, List.length_cons, List.length_nil, List.length_replicate, fixB_length]
  omega
theorem swi_len (s : List UInt8 × List UInt8) : 0 < (switchB s).length ∧ (switchB s).length ≤ 10 + s.1.length + s.2.length := by
  simp only [switchB, List.length_append, List.length_cons, List.length_nil]
  omega
theorem chg_len (c : Int) (a : ChgV) : 0 < (changeB c a).length ∧ (changeB c a).length ≤ 100 + a.user.length + a.resp.length + a.db.length + a.pl.length + (attrsB a.at_).length := by
  have h2 := endB_le (hasC c 524288) a.pl
  have h3 := attB_le (hasC c 1048576) a.at_
  have h4 := respB_le false a.resp
  simp only [changeB, List.length_append, List.length_cons, List.length_nil, fixB_length]
  omega
/-- The place that is picked. -/
theorem pick_k (x : Int) (n : Nat) (h : 0 < n) : ∃ k : Nat, x % (n : Int) = (k : Int) ∧ k < n := by
  have h1 := Int.emod_nonneg x (show (n : Int) ≠ 0 by omega)
  have h2 := Int.emod_lt_of_pos x (show (0 : Int) < (n : Int) by omega)
  exact ⟨(x % (n : Int)).toNat, by omega, by omega⟩
theorem smallK_true {n0 : Nat} {pa pc : Pairs} (h : smallK n0 pa pc = true) : pa.length ≤ 100 ∧ pc.length ≤ 100 ∧ n0 + sumA pa + sumA pc ≤ 4000 := by
  unfold smallK at h
  simp only [Bool.and_eq_true, decide_eq_true_eq] at h
  omega
end Go.Proofs.Ytaiakkifefedoaa
