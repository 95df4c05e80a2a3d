/-
  No cell of these rows narrows 'for every input' (looked for: loops, veiled, ifaces, maps, wideKeys, modest, calm, conditions, laid).
  DERIVED. THE GIVEN ROWS OF THIS SEAT. 3 by the template 'for every input the law returns true; each argument reads behind the call as it read before'; 0 by the template 'total and deterministic' (their statements: YtaiakkifefedoaaTotals.lean).
  GIVEN WITH THE SEED: the statements are not yours to turn. If you find one false, say at which input.
  Laid BY PROGRAM, IN A SANDBOX (cutbox-rows.mjs): the forced cells as the released guide's own fill.sh prints them over the translation b36aa9c20714d33d… (all of the seat's roots in one cut). By AI agents, Wed Nov 11 2026. No macro, syntax, notation, axiom, sorry.
-/
import Derived.Test.YtaiakkifefedoaaChecked
import GoSem.Claim
import GoSem.ClaimJoined
import GoSem.ClaimMapViews
import Derived.JoinedTies
import Derived.KernelRfl
namespace Go.Proofs.Ytaiakkifefedoaa
/- THE CELL 'sum', in the pinned program and in every row, IS THE sha256 OF THE DUMP (.gsa) THAT YtaiakkifefedoaaProg.lean LOADS. Nothing in Lean hashes anything: it is a label: what it is worth is what the hold of that sum in a sandbox is worth. -/
noncomputable def Try.pinned : Pinned := { name := "ytaiakkifefedoaa", sum := "b36aa9c20714d33d32bba0389bd7b021341d70192d3f0e5612656cfd1a33d8bf", checked := Try.checked }
namespace Rows
def none {H : Type} : Left H := { results := [], args := [] }

/-- 'sluicegatelaw12.GreetNames': WHATEVER THE INPUT: true; the input reads as it did. -/
def greetNamesSpec : ChangeSpec := { name := "greetNames", fn := fun _ => fun
  | [] => { results := [.lit (.bool true)], args := [] }
  | _ => none }
def greetNamesRow : OpenClaim := { program := "ytaiakkifefedoaa", sum := "b36aa9c20714d33d32bba0389bd7b021341d70192d3f0e5612656cfd1a33d8bf", func := "sluicegate/sluicegatelaw12.GreetNames", spec := "greetNames", inPlace := ["internal/bytealg.IndexByteString", "internal/bytealg.IndexByte"], apart := false }
def GreetNamesSaid : Prop := greetNamesRow.holds Try.pinned (OpenSpec.ofChange greetNamesSpec)

/-- ITS FALSE NEIGHBOUR: 'it returns false'. Refute it at one input. -/
def greetNamesWrong : ChangeSpec := { name := "greetNames", fn := fun _ => fun
  | [] => { results := [.lit (.bool false)], args := [] }
  | _ => none }
def GreetNamesWrongFalsely : Prop := greetNamesRow.holds Try.pinned (OpenSpec.ofChange greetNamesWrong)

/-- 'sluicegatelaw12.GreetBack': WHATEVER THE INPUT: true; the input reads as it did. -/
def greetBackSpec : ChangeSpec := { name := "greetBack", fn := fun _ => fun
  | [d1, d2, d3] => { results := [.lit (.bool true)], args := [d1, d2, d3] }
  | _ => none }
def greetBackRow : OpenClaim := { program := "ytaiakkifefedoaa", sum := "b36aa9c20714d33d32bba0389bd7b021341d70192d3f0e5612656cfd1a33d8bf", func := "sluicegate/sluicegatelaw12.GreetBack", spec := "greetBack", inPlace := ["internal/bytealg.IndexByteString", "internal/bytealg.IndexByte"], apart := false }
def GreetBackSaid : Prop := greetBackRow.holds Try.pinned (OpenSpec.ofChange greetBackSpec)

/-- ITS FALSE NEIGHBOUR: 'it returns false'. Refute it at one input. -/
def greetBackWrong : ChangeSpec := { name := "greetBack", fn := fun _ => fun
  | [d1, d2, d3] => { results := [.lit (.bool false)], args := [d1, d2, d3] }
  | _ => none }
def GreetBackWrongFalsely : Prop := greetBackRow.holds Try.pinned (OpenSpec.ofChange greetBackWrong)

/-- 'sluicegatelaw12.GreetAgain': WHATEVER THE INPUT: true; the input reads as it did. -/
def greetAgainSpec : ChangeSpec := { name := "greetAgain", fn := fun _ => fun
  | [d1, d2] => { results := [.lit (.bool true)], args := [d1, d2] }
  | _ => none }
def greetAgainRow : OpenClaim := { program := "ytaiakkifefedoaa", sum := "b36aa9c20714d33d32bba0389bd7b021341d70192d3f0e5612656cfd1a33d8bf", func := "sluicegate/sluicegatelaw12.GreetAgain", spec := "greetAgain", inPlace := ["internal/bytealg.IndexByteString", "internal/bytealg.IndexByte"], apart := false }
def GreetAgainSaid : Prop := greetAgainRow.holds Try.pinned (OpenSpec.ofChange greetAgainSpec)

/-- ITS FALSE NEIGHBOUR: 'it returns false'. Refute it at one input. -/
def greetAgainWrong : ChangeSpec := { name := "greetAgain", fn := fun _ => fun
  | [d1, d2] => { results := [.lit (.bool false)], args := [d1, d2] }
  | _ => none }
def GreetAgainWrongFalsely : Prop := greetAgainRow.holds Try.pinned (OpenSpec.ofChange greetAgainWrong)

/- THE SECOND FORM. 'bulk': how many values and letters a reading holds, each counted each time it is reached (what is shared counts as often as it is met; a slice's spare places count too). A statement '..UptoSaid' is the law's where the arguments, and the package variables that the reading takes, are together of bulk at most 1048576: NARROWER than '..Said'. Prove '..Said' where nothing that the law and all that it calls make is longer than what came in: it says more and counts as full. Else prove '..UptoSaid'. A law counts once. -/
mutual
def uptoBulk {H : Type} : DataW H → Nat
  | .lit (.string bytes) => bytes.length + 1
  | .lit _ => 1
  | .nil => 1
  | .ptr d => uptoBulk d + 1
  | .slice elems spare => uptoBulkAll elems + uptoBulkAll spare + 1
  | .agg parts => uptoBulkAll parts + 1
  | .iface _ d => uptoBulk d + 1
  | .map entries => uptoBulkEntries entries + 1
  | .held _ => 1
def uptoBulkAll {H : Type} : List (DataW H) → Nat
  | [] => 0
  | d :: r => uptoBulk d + uptoBulkAll r
def uptoBulkEntries {H : Type} : List (Lit × DataW H) → Nat
  | [] => 0
  | x :: r => uptoBulkEntry x + uptoBulkEntries r
def uptoBulkEntry {H : Type} : Lit × DataW H → Nat
  | (.string bytes, d) => bytes.length + uptoBulk d + 1
  | (_, d) => uptoBulk d + 1
 end
def uptoSmall : (H : Type) → List (DataW H) → Bool := fun _ ds => decide (uptoBulkAll ds ≤ 1048576)
def OpenSpec.upto (s : _root_.Go.ChangeSpec) : _root_.Go.OpenSpec := { _root_.Go.OpenSpec.ofChange s with cond := some uptoSmall }

/-- 'sluicegatelaw12.GreetNames', WHERE WHAT IT READS IS OF BULK AT MOST 1048576: true; the input reads as it did. -/
def greetNamesUptoRow : OpenClaim := { program := "ytaiakkifefedoaa", sum := "b36aa9c20714d33d32bba0389bd7b021341d70192d3f0e5612656cfd1a33d8bf", func := "sluicegate/sluicegatelaw12.GreetNames", spec := "greetNames", inPlace := ["internal/bytealg.IndexByteString", "internal/bytealg.IndexByte"], apart := false, narrowed := true }
def GreetNamesUptoSaid : Prop := greetNamesUptoRow.holds Try.pinned (OpenSpec.upto greetNamesSpec)

/-- 'sluicegatelaw12.GreetBack', WHERE WHAT IT READS IS OF BULK AT MOST 1048576: true; the input reads as it did. -/
def greetBackUptoRow : OpenClaim := { program := "ytaiakkifefedoaa", sum := "b36aa9c20714d33d32bba0389bd7b021341d70192d3f0e5612656cfd1a33d8bf", func := "sluicegate/sluicegatelaw12.GreetBack", spec := "greetBack", inPlace := ["internal/bytealg.IndexByteString", "internal/bytealg.IndexByte"], apart := false, narrowed := true }
def GreetBackUptoSaid : Prop := greetBackUptoRow.holds Try.pinned (OpenSpec.upto greetBackSpec)

/-- 'sluicegatelaw12.GreetAgain', WHERE WHAT IT READS IS OF BULK AT MOST 1048576: true; the input reads as it did. -/
def greetAgainUptoRow : OpenClaim := { program := "ytaiakkifefedoaa", sum := "b36aa9c20714d33d32bba0389bd7b021341d70192d3f0e5612656cfd1a33d8bf", func := "sluicegate/sluicegatelaw12.GreetAgain", spec := "greetAgain", inPlace := ["internal/bytealg.IndexByteString", "internal/bytealg.IndexByte"], apart := false, narrowed := true }
def GreetAgainUptoSaid : Prop := greetAgainUptoRow.holds Try.pinned (OpenSpec.upto greetAgainSpec)

end Rows
end Go.Proofs.Ytaiakkifefedoaa
