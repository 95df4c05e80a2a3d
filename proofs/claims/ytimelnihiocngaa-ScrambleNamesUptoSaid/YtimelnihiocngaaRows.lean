/-
  No cell of these rows narrows 'for every input' (looked for: loops, veiled, ifaces, maps, wideKeys, modest, calm, conditions, laid).
  DERIVED. THE GIVEN ROWS OF THIS SEAT. 10 by the template 'for every input the law returns true; each argument reads behind the call as it read before'; 0 by the template 'total and deterministic' (their statements: YtimelnihiocngaaTotals.lean).
  GIVEN WITH THE SEED: the statements are not yours to turn. If you find one false, say at which input.
  Laid BY PROGRAM, IN A SANDBOX (cutbox-rows.mjs): the forced cells as the released guide's own fill.sh prints them over the translation 088b3e9d7d6289fd… (all of the seat's roots in one cut). By AI agents, Wed Nov 11 2026. No macro, syntax, notation, axiom, sorry.
-/
import Derived.Test.YtimelnihiocngaaChecked
import GoSem.Claim
import GoSem.ClaimJoined
import GoSem.ClaimMapViews
import Derived.JoinedTies
import Derived.KernelRfl
namespace Go.Proofs.Ytimelnihiocngaa
/- THE CELL 'sum', in the pinned program and in every row, IS THE sha256 OF THE DUMP (.gsa) THAT YtimelnihiocngaaProg.lean LOADS. Nothing in Lean hashes anything: it is a label: what it is worth is what the hold of that sum in a sandbox is worth. -/
noncomputable def Try.pinned : Pinned := { name := "ytimelnihiocngaa", sum := "088b3e9d7d6289fd9e08026bc6ad3779a4bee7f6707f189aa7dd27a7aebef28a", checked := Try.checked }
namespace Rows
def none {H : Type} : Left H := { results := [], args := [] }

/-- 'sluicegatelaw07.ShaNames': WHATEVER THE INPUT: true; the input reads as it did. -/
def shaNamesSpec : ChangeSpec := { name := "shaNames", fn := fun _ => fun
  | [] => { results := [.lit (.bool true)], args := [] }
  | _ => none }
def shaNamesRow : OpenClaim := { program := "ytimelnihiocngaa", sum := "088b3e9d7d6289fd9e08026bc6ad3779a4bee7f6707f189aa7dd27a7aebef28a", func := "sluicegate/sluicegatelaw07.ShaNames", spec := "shaNames", apart := false }
def ShaNamesSaid : Prop := shaNamesRow.holds Try.pinned (OpenSpec.ofChange shaNamesSpec)

/-- ITS FALSE NEIGHBOUR: 'it returns false'. Refute it at one input. -/
def shaNamesWrong : ChangeSpec := { name := "shaNames", fn := fun _ => fun
  | [] => { results := [.lit (.bool false)], args := [] }
  | _ => none }
def ShaNamesWrongFalsely : Prop := shaNamesRow.holds Try.pinned (OpenSpec.ofChange shaNamesWrong)

/-- 'sluicegatelaw07.ShaCalls': WHATEVER THE INPUT: true; the input reads as it did. -/
def shaCallsSpec : ChangeSpec := { name := "shaCalls", fn := fun _ => fun
  | [d] => { results := [.lit (.bool true)], args := [d] }
  | _ => none }
def shaCallsRow : OpenClaim := { program := "ytimelnihiocngaa", sum := "088b3e9d7d6289fd9e08026bc6ad3779a4bee7f6707f189aa7dd27a7aebef28a", func := "sluicegate/sluicegatelaw07.ShaCalls", spec := "shaCalls", apart := false }
def ShaCallsSaid : Prop := shaCallsRow.holds Try.pinned (OpenSpec.ofChange shaCallsSpec)

/-- ITS FALSE NEIGHBOUR: 'it returns false'. Refute it at one input. -/
def shaCallsWrong : ChangeSpec := { name := "shaCalls", fn := fun _ => fun
  | [d] => { results := [.lit (.bool false)], args := [d] }
  | _ => none }
def ShaCallsWrongFalsely : Prop := shaCallsRow.holds Try.pinned (OpenSpec.ofChange shaCallsWrong)

/-- 'sluicegatelaw07.ShaPieces': WHATEVER THE INPUT: true; the input reads as it did. -/
def shaPiecesSpec : ChangeSpec := { name := "shaPieces", fn := fun _ => fun
  | [d1, d2] => { results := [.lit (.bool true)], args := [d1, d2] }
  | _ => none }
def shaPiecesRow : OpenClaim := { program := "ytimelnihiocngaa", sum := "088b3e9d7d6289fd9e08026bc6ad3779a4bee7f6707f189aa7dd27a7aebef28a", func := "sluicegate/sluicegatelaw07.ShaPieces", spec := "shaPieces", apart := false }
def ShaPiecesSaid : Prop := shaPiecesRow.holds Try.pinned (OpenSpec.ofChange shaPiecesSpec)

/-- ITS FALSE NEIGHBOUR: 'it returns false'. Refute it at one input. -/
def shaPiecesWrong : ChangeSpec := { name := "shaPieces", fn := fun _ => fun
  | [d1, d2] => { results := [.lit (.bool false)], args := [d1, d2] }
  | _ => none }
def ShaPiecesWrongFalsely : Prop := shaPiecesRow.holds Try.pinned (OpenSpec.ofChange shaPiecesWrong)

/-- 'sluicegatelaw07.ShaNil': WHATEVER THE INPUT: true; the input reads as it did. -/
def shaNilSpec : ChangeSpec := { name := "shaNil", fn := fun _ => fun
  | [d] => { results := [.lit (.bool true)], args := [d] }
  | _ => none }
def shaNilRow : OpenClaim := { program := "ytimelnihiocngaa", sum := "088b3e9d7d6289fd9e08026bc6ad3779a4bee7f6707f189aa7dd27a7aebef28a", func := "sluicegate/sluicegatelaw07.ShaNil", spec := "shaNil", apart := false }
def ShaNilSaid : Prop := shaNilRow.holds Try.pinned (OpenSpec.ofChange shaNilSpec)

/-- ITS FALSE NEIGHBOUR: 'it returns false'. Refute it at one input. -/
def shaNilWrong : ChangeSpec := { name := "shaNil", fn := fun _ => fun
  | [d] => { results := [.lit (.bool false)], args := [d] }
  | _ => none }
def ShaNilWrongFalsely : Prop := shaNilRow.holds Try.pinned (OpenSpec.ofChange shaNilWrong)

/-- 'sluicegatelaw08.ScrambleNames': WHATEVER THE INPUT: true; the input reads as it did. -/
def scrambleNamesSpec : ChangeSpec := { name := "scrambleNames", fn := fun _ => fun
  | [] => { results := [.lit (.bool true)], args := [] }
  | _ => none }
def scrambleNamesRow : OpenClaim := { program := "ytimelnihiocngaa", sum := "088b3e9d7d6289fd9e08026bc6ad3779a4bee7f6707f189aa7dd27a7aebef28a", func := "sluicegate/sluicegatelaw08.ScrambleNames", spec := "scrambleNames", inPlace := ["internal/bytealg.IndexByte"], apart := false }
def ScrambleNamesSaid : Prop := scrambleNamesRow.holds Try.pinned (OpenSpec.ofChange scrambleNamesSpec)

/-- ITS FALSE NEIGHBOUR: 'it returns false'. Refute it at one input. -/
def scrambleNamesWrong : ChangeSpec := { name := "scrambleNames", fn := fun _ => fun
  | [] => { results := [.lit (.bool false)], args := [] }
  | _ => none }
def ScrambleNamesWrongFalsely : Prop := scrambleNamesRow.holds Try.pinned (OpenSpec.ofChange scrambleNamesWrong)

/-- 'sluicegatelaw08.ScrambleCalls': WHATEVER THE INPUT: true; the input reads as it did. -/
def scrambleCallsSpec : ChangeSpec := { name := "scrambleCalls", fn := fun _ => fun
  | [d1, d2, d3, d4, d5] => { results := [.lit (.bool true)], args := [d1, d2, d3, d4, d5] }
  | _ => none }
def scrambleCallsRow : OpenClaim := { program := "ytimelnihiocngaa", sum := "088b3e9d7d6289fd9e08026bc6ad3779a4bee7f6707f189aa7dd27a7aebef28a", func := "sluicegate/sluicegatelaw08.ScrambleCalls", spec := "scrambleCalls", inPlace := ["internal/bytealg.IndexByte"], apart := false }
def ScrambleCallsSaid : Prop := scrambleCallsRow.holds Try.pinned (OpenSpec.ofChange scrambleCallsSpec)

/-- ITS FALSE NEIGHBOUR: 'it returns false'. Refute it at one input. -/
def scrambleCallsWrong : ChangeSpec := { name := "scrambleCalls", fn := fun _ => fun
  | [d1, d2, d3, d4, d5] => { results := [.lit (.bool false)], args := [d1, d2, d3, d4, d5] }
  | _ => none }
def ScrambleCallsWrongFalsely : Prop := scrambleCallsRow.holds Try.pinned (OpenSpec.ofChange scrambleCallsWrong)

/-- 'sluicegatelaw08.ScrambleKnows': WHATEVER THE INPUT: true; the input reads as it did. -/
def scrambleKnowsSpec : ChangeSpec := { name := "scrambleKnows", fn := fun _ => fun
  | [d1, d2, d3] => { results := [.lit (.bool true)], args := [d1, d2, d3] }
  | _ => none }
def scrambleKnowsRow : OpenClaim := { program := "ytimelnihiocngaa", sum := "088b3e9d7d6289fd9e08026bc6ad3779a4bee7f6707f189aa7dd27a7aebef28a", func := "sluicegate/sluicegatelaw08.ScrambleKnows", spec := "scrambleKnows", inPlace := ["internal/bytealg.IndexByte"], apart := false }
def ScrambleKnowsSaid : Prop := scrambleKnowsRow.holds Try.pinned (OpenSpec.ofChange scrambleKnowsSpec)

/-- ITS FALSE NEIGHBOUR: 'it returns false'. Refute it at one input. -/
def scrambleKnowsWrong : ChangeSpec := { name := "scrambleKnows", fn := fun _ => fun
  | [d1, d2, d3] => { results := [.lit (.bool false)], args := [d1, d2, d3] }
  | _ => none }
def ScrambleKnowsWrongFalsely : Prop := scrambleKnowsRow.holds Try.pinned (OpenSpec.ofChange scrambleKnowsWrong)

/-- 'sluicegatelaw12.GreetNames': WHATEVER THE INPUT: true; the input reads as it did. -/
def greetNamesSpec : ChangeSpec := { name := "greetNames", fn := fun _ => fun
  | [] => { results := [.lit (.bool true)], args := [] }
  | _ => none }
def greetNamesRow : OpenClaim := { program := "ytimelnihiocngaa", sum := "088b3e9d7d6289fd9e08026bc6ad3779a4bee7f6707f189aa7dd27a7aebef28a", func := "sluicegate/sluicegatelaw12.GreetNames", spec := "greetNames", inPlace := ["internal/bytealg.IndexByteString", "internal/bytealg.IndexByte"], apart := false }
def GreetNamesSaid : Prop := greetNamesRow.holds Try.pinned (OpenSpec.ofChange greetNamesSpec)

/-- ITS FALSE NEIGHBOUR: 'it returns false'. Refute it at one input. -/
def greetNamesWrong : ChangeSpec := { name := "greetNames", fn := fun _ => fun
  | [] => { results := [.lit (.bool false)], args := [] }
  | _ => none }
def GreetNamesWrongFalsely : Prop := greetNamesRow.holds Try.pinned (OpenSpec.ofChange greetNamesWrong)

/-- 'sluicegatelaw12.GreetBack': WHATEVER THE INPUT: true; the input reads as it did. -/
def greetBackSpec : ChangeSpec := { name := "greetBack", fn := fun _ => fun
  | [d1, d2, d3] => { results := [.lit (.bool true)], args := [d1, d2, d3] }
  | _ => none }
def greetBackRow : OpenClaim := { program := "ytimelnihiocngaa", sum := "088b3e9d7d6289fd9e08026bc6ad3779a4bee7f6707f189aa7dd27a7aebef28a", func := "sluicegate/sluicegatelaw12.GreetBack", spec := "greetBack", inPlace := ["internal/bytealg.IndexByteString", "internal/bytealg.IndexByte"], apart := false }
def GreetBackSaid : Prop := greetBackRow.holds Try.pinned (OpenSpec.ofChange greetBackSpec)

/-- ITS FALSE NEIGHBOUR: 'it returns false'. Refute it at one input. -/
def greetBackWrong : ChangeSpec := { name := "greetBack", fn := fun _ => fun
  | [d1, d2, d3] => { results := [.lit (.bool false)], args := [d1, d2, d3] }
  | _ => none }
def GreetBackWrongFalsely : Prop := greetBackRow.holds Try.pinned (OpenSpec.ofChange greetBackWrong)

/-- 'sluicegatelaw12.GreetAgain': WHATEVER THE INPUT: true; the input reads as it did. -/
def greetAgainSpec : ChangeSpec := { name := "greetAgain", fn := fun _ => fun
  | [d1, d2] => { results := [.lit (.bool true)], args := [d1, d2] }
  | _ => none }
def greetAgainRow : OpenClaim := { program := "ytimelnihiocngaa", sum := "088b3e9d7d6289fd9e08026bc6ad3779a4bee7f6707f189aa7dd27a7aebef28a", func := "sluicegate/sluicegatelaw12.GreetAgain", spec := "greetAgain", inPlace := ["internal/bytealg.IndexByteString", "internal/bytealg.IndexByte"], apart := false }
def GreetAgainSaid : Prop := greetAgainRow.holds Try.pinned (OpenSpec.ofChange greetAgainSpec)

/-- ITS FALSE NEIGHBOUR: 'it returns false'. Refute it at one input. -/
def greetAgainWrong : ChangeSpec := { name := "greetAgain", fn := fun _ => fun
  | [d1, d2] => { results := [.lit (.bool false)], args := [d1, d2] }
  | _ => none }
def GreetAgainWrongFalsely : Prop := greetAgainRow.holds Try.pinned (OpenSpec.ofChange greetAgainWrong)

/- THE SECOND FORM. 'bulk': how many values and letters a reading holds, each counted each time it is reached (what is shared counts as often as it is met; a slice's spare places count too). A statement '..UptoSaid' is the law's where the arguments, and the package variables that the reading takes, are together of bulk at most 1048576: NARROWER than '..Said'. Prove '..Said' where nothing that the law and all that it calls make is longer than what came in: it says more and counts as full. Else prove '..UptoSaid'. A law counts once. -/
mutual
def uptoBulk {H : Type} : DataW H → Nat
  | .lit (.string bytes) => bytes.length + 1
  | .lit _ => 1
  | .nil => 1
  | .ptr d => uptoBulk d + 1
  | .slice elems spare => uptoBulkAll elems + uptoBulkAll spare + 1
  | .agg parts => uptoBulkAll parts + 1
  | .iface _ d => uptoBulk d + 1
  | .map entries => uptoBulkEntries entries + 1
  | .held _ => 1
def uptoBulkAll {H : Type} : List (DataW H) → Nat
  | [] => 0
  | d :: r => uptoBulk d + uptoBulkAll r
def uptoBulkEntries {H : Type} : List (Lit × DataW H) → Nat
  | [] => 0
  | x :: r => uptoBulkEntry x + uptoBulkEntries r
def uptoBulkEntry {H : Type} : Lit × DataW H → Nat
  | (.string bytes, d) => bytes.length + uptoBulk d + 1
  | (_, d) => uptoBulk d + 1
 end
def uptoSmall : (H : Type) → List (DataW H) → Bool := fun _ ds => decide (uptoBulkAll ds ≤ 1048576)
def OpenSpec.upto (s : _root_.Go.ChangeSpec) : _root_.Go.OpenSpec := { _root_.Go.OpenSpec.ofChange s with cond := some uptoSmall }

/-- 'sluicegatelaw07.ShaNames', WHERE WHAT IT READS IS OF BULK AT MOST 1048576: true; the input reads as it did. -/
def shaNamesUptoRow : OpenClaim := { program := "ytimelnihiocngaa", sum := "088b3e9d7d6289fd9e08026bc6ad3779a4bee7f6707f189aa7dd27a7aebef28a", func := "sluicegate/sluicegatelaw07.ShaNames", spec := "shaNames", apart := false, narrowed := true }
def ShaNamesUptoSaid : Prop := shaNamesUptoRow.holds Try.pinned (OpenSpec.upto shaNamesSpec)

/-- 'sluicegatelaw07.ShaCalls', WHERE WHAT IT READS IS OF BULK AT MOST 1048576: true; the input reads as it did. -/
def shaCallsUptoRow : OpenClaim := { program := "ytimelnihiocngaa", sum := "088b3e9d7d6289fd9e08026bc6ad3779a4bee7f6707f189aa7dd27a7aebef28a", func := "sluicegate/sluicegatelaw07.ShaCalls", spec := "shaCalls", apart := false, narrowed := true }
def ShaCallsUptoSaid : Prop := shaCallsUptoRow.holds Try.pinned (OpenSpec.upto shaCallsSpec)

/-- 'sluicegatelaw07.ShaPieces', WHERE WHAT IT READS IS OF BULK AT MOST 1048576: true; the input reads as it did. -/
def shaPiecesUptoRow : OpenClaim := { program := "ytimelnihiocngaa", sum := "088b3e9d7d6289fd9e08026bc6ad3779a4bee7f6707f189aa7dd27a7aebef28a", func := "sluicegate/sluicegatelaw07.ShaPieces", spec := "shaPieces", apart := false, narrowed := true }
def ShaPiecesUptoSaid : Prop := shaPiecesUptoRow.holds Try.pinned (OpenSpec.upto shaPiecesSpec)

/-- 'sluicegatelaw07.ShaNil', WHERE WHAT IT READS IS OF BULK AT MOST 1048576: true; the input reads as it did. -/
def shaNilUptoRow : OpenClaim := { program := "ytimelnihiocngaa", sum := "088b3e9d7d6289fd9e08026bc6ad3779a4bee7f6707f189aa7dd27a7aebef28a", func := "sluicegate/sluicegatelaw07.ShaNil", spec := "shaNil", apart := false, narrowed := true }
def ShaNilUptoSaid : Prop := shaNilUptoRow.holds Try.pinned (OpenSpec.upto shaNilSpec)

/-- 'sluicegatelaw08.ScrambleNames', WHERE WHAT IT READS IS OF BULK AT MOST 1048576: true; the input reads as it did. -/
def scrambleNamesUptoRow : OpenClaim := { program := "ytimelnihiocngaa", sum := "088b3e9d7d6289fd9e08026bc6ad3779a4bee7f6707f189aa7dd27a7aebef28a", func := "sluicegate/sluicegatelaw08.ScrambleNames", spec := "scrambleNames", inPlace := ["internal/bytealg.IndexByte"], apart := false, narrowed := true }
def ScrambleNamesUptoSaid : Prop := scrambleNamesUptoRow.holds Try.pinned (OpenSpec.upto scrambleNamesSpec)

/-- 'sluicegatelaw08.ScrambleCalls', WHERE WHAT IT READS IS OF BULK AT MOST 1048576: true; the input reads as it did. -/
def scrambleCallsUptoRow : OpenClaim := { program := "ytimelnihiocngaa", sum := "088b3e9d7d6289fd9e08026bc6ad3779a4bee7f6707f189aa7dd27a7aebef28a", func := "sluicegate/sluicegatelaw08.ScrambleCalls", spec := "scrambleCalls", inPlace := ["internal/bytealg.IndexByte"], apart := false, narrowed := true }
def ScrambleCallsUptoSaid : Prop := scrambleCallsUptoRow.holds Try.pinned (OpenSpec.upto scrambleCallsSpec)

/-- 'sluicegatelaw08.ScrambleKnows', WHERE WHAT IT READS IS OF BULK AT MOST 1048576: true; the input reads as it did. -/
def scrambleKnowsUptoRow : OpenClaim := { program := "ytimelnihiocngaa", sum := "088b3e9d7d6289fd9e08026bc6ad3779a4bee7f6707f189aa7dd27a7aebef28a", func := "sluicegate/sluicegatelaw08.ScrambleKnows", spec := "scrambleKnows", inPlace := ["internal/bytealg.IndexByte"], apart := false, narrowed := true }
def ScrambleKnowsUptoSaid : Prop := scrambleKnowsUptoRow.holds Try.pinned (OpenSpec.upto scrambleKnowsSpec)

/-- 'sluicegatelaw12.GreetNames', WHERE WHAT IT READS IS OF BULK AT MOST 1048576: true; the input reads as it did. -/
def greetNamesUptoRow : OpenClaim := { program := "ytimelnihiocngaa", sum := "088b3e9d7d6289fd9e08026bc6ad3779a4bee7f6707f189aa7dd27a7aebef28a", func := "sluicegate/sluicegatelaw12.GreetNames", spec := "greetNames", inPlace := ["internal/bytealg.IndexByteString", "internal/bytealg.IndexByte"], apart := false, narrowed := true }
def GreetNamesUptoSaid : Prop := greetNamesUptoRow.holds Try.pinned (OpenSpec.upto greetNamesSpec)

/-- 'sluicegatelaw12.GreetBack', WHERE WHAT IT READS IS OF BULK AT MOST 1048576: true; the input reads as it did. -/
def greetBackUptoRow : OpenClaim := { program := "ytimelnihiocngaa", sum := "088b3e9d7d6289fd9e08026bc6ad3779a4bee7f6707f189aa7dd27a7aebef28a", func := "sluicegate/sluicegatelaw12.GreetBack", spec := "greetBack", inPlace := ["internal/bytealg.IndexByteString", "internal/bytealg.IndexByte"], apart := false, narrowed := true }
def GreetBackUptoSaid : Prop := greetBackUptoRow.holds Try.pinned (OpenSpec.upto greetBackSpec)

/-- 'sluicegatelaw12.GreetAgain', WHERE WHAT IT READS IS OF BULK AT MOST 1048576: true; the input reads as it did. -/
def greetAgainUptoRow : OpenClaim := { program := "ytimelnihiocngaa", sum := "088b3e9d7d6289fd9e08026bc6ad3779a4bee7f6707f189aa7dd27a7aebef28a", func := "sluicegate/sluicegatelaw12.GreetAgain", spec := "greetAgain", inPlace := ["internal/bytealg.IndexByteString", "internal/bytealg.IndexByte"], apart := false, narrowed := true }
def GreetAgainUptoSaid : Prop := greetAgainUptoRow.holds Try.pinned (OpenSpec.upto greetAgainSpec)

end Rows
end Go.Proofs.Ytimelnihiocngaa
