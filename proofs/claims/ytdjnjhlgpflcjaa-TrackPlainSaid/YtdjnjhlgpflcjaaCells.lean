/- A slice value whose elements are known, one by one. -/
import Derived.Test.YtdjnjhlgpflcjaaMem
namespace Go.Proofs.Ytdjnjhlgpflcjaa
open Go.RowKit

/-- What a list of cells is: a slice value whose elements are known, one by one. -/
def Cells (w : World) (v : Value) (n : Nat) (f : Nat → Value) : Prop :=
  ∃ (A : Option Addr) (cap : Nat), v = .slice A n cap ∧ n ≤ cap ∧ cap ≤ maxLen ∧ (0 < n → ∃ b o, A = some ⟨b, o, none⟩ ∧ ∀ j, j < n → w.cell? ⟨b, o + j, none⟩ = some (f j))
end Go.Proofs.Ytdjnjhlgpflcjaa
