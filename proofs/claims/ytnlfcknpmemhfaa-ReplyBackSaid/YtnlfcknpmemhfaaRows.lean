/-
  No cell of these rows narrows 'for every input' (looked for: loops, veiled, ifaces, maps, wideKeys, modest, calm, conditions, laid).
  DERIVED. THE GIVEN ROWS OF THIS SEAT. 11 by the template 'for every input the law returns true; each argument reads behind the call as it read before'; 0 by the template 'total and deterministic' (their statements: YtnlfcknpmemhfaaTotals.lean).
  GIVEN WITH THE SEED: the statements are not yours to turn. If you find one false, say at which input.
  Laid BY PROGRAM, IN A SANDBOX (cutbox-rows.mjs): the forced cells as the released guide's own fill.sh prints them over the translation 6a917bb4a451ec3e… (all of the seat's roots in one cut). By AI agents, Wed Nov 11 2026. No macro, syntax, notation, axiom, sorry.
-/
import Derived.Test.YtnlfcknpmemhfaaChecked
import GoSem.Claim
import GoSem.ClaimJoined
import GoSem.ClaimMapViews
import Derived.JoinedTies
import Derived.KernelRfl
namespace Go.Proofs.Ytnlfcknpmemhfaa
/- THE CELL 'sum', in the pinned program and in every row, IS THE sha256 OF THE DUMP (.gsa) THAT YtnlfcknpmemhfaaProg.lean LOADS. Nothing in Lean hashes anything: it is a label: what it is worth is what the hold of that sum in a sandbox is worth. -/
noncomputable def Try.pinned : Pinned := { name := "ytnlfcknpmemhfaa", sum := "6a917bb4a451ec3ecf50dd15b21a27f3cd1a02300bc00f671ce6b679b3fb41c7", checked := Try.checked }
namespace Rows
def none {H : Type} : Left H := { results := [], args := [] }

/-- 'sluicegatelaw14.ReplyWrites': WHATEVER THE INPUT: true; the input reads as it did. -/
def replyWritesSpec : ChangeSpec := { name := "replyWrites", fn := fun _ => fun
  | [d1, d2, d3] => { results := [.lit (.bool true)], args := [d1, d2, d3] }
  | _ => none }
def replyWritesRow : OpenClaim := { program := "ytnlfcknpmemhfaa", sum := "6a917bb4a451ec3ecf50dd15b21a27f3cd1a02300bc00f671ce6b679b3fb41c7", func := "sluicegate/sluicegatelaw14.ReplyWrites", spec := "replyWrites", apart := false }
def ReplyWritesSaid : Prop := replyWritesRow.holds Try.pinned (OpenSpec.ofChange replyWritesSpec)

/-- ITS FALSE NEIGHBOUR: 'it returns false'. Refute it at one input. -/
def replyWritesWrong : ChangeSpec := { name := "replyWrites", fn := fun _ => fun
  | [d1, d2, d3] => { results := [.lit (.bool false)], args := [d1, d2, d3] }
  | _ => none }
def ReplyWritesWrongFalsely : Prop := replyWritesRow.holds Try.pinned (OpenSpec.ofChange replyWritesWrong)

/-- 'sluicegatelaw01.LenencShort': WHATEVER THE INPUT: true; the input reads as it did. -/
def lenencShortSpec : ChangeSpec := { name := "lenencShort", fn := fun _ => fun
  | [d] => { results := [.lit (.bool true)], args := [d] }
  | _ => none }
def lenencShortRow : OpenClaim := { program := "ytnlfcknpmemhfaa", sum := "6a917bb4a451ec3ecf50dd15b21a27f3cd1a02300bc00f671ce6b679b3fb41c7", func := "sluicegate/sluicegatelaw01.LenencShort", spec := "lenencShort", inPlace := ["internal/bytealg.IndexByte"], apart := false }
def LenencShortSaid : Prop := lenencShortRow.holds Try.pinned (OpenSpec.ofChange lenencShortSpec)

/-- ITS FALSE NEIGHBOUR: 'it returns false'. Refute it at one input. -/
def lenencShortWrong : ChangeSpec := { name := "lenencShort", fn := fun _ => fun
  | [d] => { results := [.lit (.bool false)], args := [d] }
  | _ => none }
def LenencShortWrongFalsely : Prop := lenencShortRow.holds Try.pinned (OpenSpec.ofChange lenencShortWrong)

/-- 'sluicegatelaw01.LenencRow': WHATEVER THE INPUT: true; the input reads as it did. -/
def lenencRowSpec : ChangeSpec := { name := "lenencRow", fn := fun _ => fun
  | [d1, d2] => { results := [.lit (.bool true)], args := [d1, d2] }
  | _ => none }
def lenencRowRow : OpenClaim := { program := "ytnlfcknpmemhfaa", sum := "6a917bb4a451ec3ecf50dd15b21a27f3cd1a02300bc00f671ce6b679b3fb41c7", func := "sluicegate/sluicegatelaw01.LenencRow", spec := "lenencRow", inPlace := ["internal/bytealg.IndexByte"], apart := false }
def LenencRowSaid : Prop := lenencRowRow.holds Try.pinned (OpenSpec.ofChange lenencRowSpec)

/-- ITS FALSE NEIGHBOUR: 'it returns false'. Refute it at one input. -/
def lenencRowWrong : ChangeSpec := { name := "lenencRow", fn := fun _ => fun
  | [d1, d2] => { results := [.lit (.bool false)], args := [d1, d2] }
  | _ => none }
def LenencRowWrongFalsely : Prop := lenencRowRow.holds Try.pinned (OpenSpec.ofChange lenencRowWrong)

/-- 'sluicegatelaw01.LenencNumbers': WHATEVER THE INPUT: true; the input reads as it did. -/
def lenencNumbersSpec : ChangeSpec := { name := "lenencNumbers", fn := fun _ => fun
  | [d1, d2, d3] => { results := [.lit (.bool true)], args := [d1, d2, d3] }
  | _ => none }
def lenencNumbersRow : OpenClaim := { program := "ytnlfcknpmemhfaa", sum := "6a917bb4a451ec3ecf50dd15b21a27f3cd1a02300bc00f671ce6b679b3fb41c7", func := "sluicegate/sluicegatelaw01.LenencNumbers", spec := "lenencNumbers", inPlace := ["internal/bytealg.IndexByte"], apart := false }
def LenencNumbersSaid : Prop := lenencNumbersRow.holds Try.pinned (OpenSpec.ofChange lenencNumbersSpec)

/-- ITS FALSE NEIGHBOUR: 'it returns false'. Refute it at one input. -/
def lenencNumbersWrong : ChangeSpec := { name := "lenencNumbers", fn := fun _ => fun
  | [d1, d2, d3] => { results := [.lit (.bool false)], args := [d1, d2, d3] }
  | _ => none }
def LenencNumbersWrongFalsely : Prop := lenencNumbersRow.holds Try.pinned (OpenSpec.ofChange lenencNumbersWrong)

/-- 'sluicegatelaw14.ReplyOnce': WHATEVER THE INPUT: true; the input reads as it did. -/
def replyOnceSpec : ChangeSpec := { name := "replyOnce", fn := fun _ => fun
  | [d1, d2] => { results := [.lit (.bool true)], args := [d1, d2] }
  | _ => none }
def replyOnceRow : OpenClaim := { program := "ytnlfcknpmemhfaa", sum := "6a917bb4a451ec3ecf50dd15b21a27f3cd1a02300bc00f671ce6b679b3fb41c7", func := "sluicegate/sluicegatelaw14.ReplyOnce", spec := "replyOnce", apart := false }
def ReplyOnceSaid : Prop := replyOnceRow.holds Try.pinned (OpenSpec.ofChange replyOnceSpec)

/-- ITS FALSE NEIGHBOUR: 'it returns false'. Refute it at one input. -/
def replyOnceWrong : ChangeSpec := { name := "replyOnce", fn := fun _ => fun
  | [d1, d2] => { results := [.lit (.bool false)], args := [d1, d2] }
  | _ => none }
def ReplyOnceWrongFalsely : Prop := replyOnceRow.holds Try.pinned (OpenSpec.ofChange replyOnceWrong)

/-- 'sluicegatelaw01.LenencNames': WHATEVER THE INPUT: true; the input reads as it did. -/
def lenencNamesSpec : ChangeSpec := { name := "lenencNames", fn := fun _ => fun
  | [] => { results := [.lit (.bool true)], args := [] }
  | _ => none }
def lenencNamesRow : OpenClaim := { program := "ytnlfcknpmemhfaa", sum := "6a917bb4a451ec3ecf50dd15b21a27f3cd1a02300bc00f671ce6b679b3fb41c7", func := "sluicegate/sluicegatelaw01.LenencNames", spec := "lenencNames", inPlace := ["internal/bytealg.IndexByte", "internal/bytealg.IndexByteString"], apart := false }
def LenencNamesSaid : Prop := lenencNamesRow.holds Try.pinned (OpenSpec.ofChange lenencNamesSpec)

/-- ITS FALSE NEIGHBOUR: 'it returns false'. Refute it at one input. -/
def lenencNamesWrong : ChangeSpec := { name := "lenencNames", fn := fun _ => fun
  | [] => { results := [.lit (.bool false)], args := [] }
  | _ => none }
def LenencNamesWrongFalsely : Prop := lenencNamesRow.holds Try.pinned (OpenSpec.ofChange lenencNamesWrong)

/-- 'sluicegatelaw01.LenencTexts': WHATEVER THE INPUT: true; the input reads as it did. -/
def lenencTextsSpec : ChangeSpec := { name := "lenencTexts", fn := fun _ => fun
  | [d1, d2] => { results := [.lit (.bool true)], args := [d1, d2] }
  | _ => none }
def lenencTextsRow : OpenClaim := { program := "ytnlfcknpmemhfaa", sum := "6a917bb4a451ec3ecf50dd15b21a27f3cd1a02300bc00f671ce6b679b3fb41c7", func := "sluicegate/sluicegatelaw01.LenencTexts", spec := "lenencTexts", inPlace := ["internal/bytealg.IndexByte", "internal/bytealg.IndexByteString"], apart := false }
def LenencTextsSaid : Prop := lenencTextsRow.holds Try.pinned (OpenSpec.ofChange lenencTextsSpec)

/-- ITS FALSE NEIGHBOUR: 'it returns false'. Refute it at one input. -/
def lenencTextsWrong : ChangeSpec := { name := "lenencTexts", fn := fun _ => fun
  | [d1, d2] => { results := [.lit (.bool false)], args := [d1, d2] }
  | _ => none }
def LenencTextsWrongFalsely : Prop := lenencTextsRow.holds Try.pinned (OpenSpec.ofChange lenencTextsWrong)

/-- 'sluicegatelaw01.LenencBack': WHATEVER THE INPUT: true; the input reads as it did. -/
def lenencBackSpec : ChangeSpec := { name := "lenencBack", fn := fun _ => fun
  | [d1, d2, d3] => { results := [.lit (.bool true)], args := [d1, d2, d3] }
  | _ => none }
def lenencBackRow : OpenClaim := { program := "ytnlfcknpmemhfaa", sum := "6a917bb4a451ec3ecf50dd15b21a27f3cd1a02300bc00f671ce6b679b3fb41c7", func := "sluicegate/sluicegatelaw01.LenencBack", spec := "lenencBack", inPlace := ["internal/bytealg.IndexByte", "internal/bytealg.IndexByteString"], apart := false }
def LenencBackSaid : Prop := lenencBackRow.holds Try.pinned (OpenSpec.ofChange lenencBackSpec)

/-- ITS FALSE NEIGHBOUR: 'it returns false'. Refute it at one input. -/
def lenencBackWrong : ChangeSpec := { name := "lenencBack", fn := fun _ => fun
  | [d1, d2, d3] => { results := [.lit (.bool false)], args := [d1, d2, d3] }
  | _ => none }
def LenencBackWrongFalsely : Prop := lenencBackRow.holds Try.pinned (OpenSpec.ofChange lenencBackWrong)

/-- 'sluicegatelaw14.ReplyNames': WHATEVER THE INPUT: true; the input reads as it did. -/
def replyNamesSpec : ChangeSpec := { name := "replyNames", fn := fun _ => fun
  | [] => { results := [.lit (.bool true)], args := [] }
  | _ => none }
def replyNamesRow : OpenClaim := { program := "ytnlfcknpmemhfaa", sum := "6a917bb4a451ec3ecf50dd15b21a27f3cd1a02300bc00f671ce6b679b3fb41c7", func := "sluicegate/sluicegatelaw14.ReplyNames", spec := "replyNames", inPlace := ["internal/bytealg.IndexByte"], apart := false }
def ReplyNamesSaid : Prop := replyNamesRow.holds Try.pinned (OpenSpec.ofChange replyNamesSpec)

/-- ITS FALSE NEIGHBOUR: 'it returns false'. Refute it at one input. -/
def replyNamesWrong : ChangeSpec := { name := "replyNames", fn := fun _ => fun
  | [] => { results := [.lit (.bool false)], args := [] }
  | _ => none }
def ReplyNamesWrongFalsely : Prop := replyNamesRow.holds Try.pinned (OpenSpec.ofChange replyNamesWrong)

/-- 'sluicegatelaw14.ReplyReads': WHATEVER THE INPUT: true; the input reads as it did. -/
def replyReadsSpec : ChangeSpec := { name := "replyReads", fn := fun _ => fun
  | [d1, d2] => { results := [.lit (.bool true)], args := [d1, d2] }
  | _ => none }
def replyReadsRow : OpenClaim := { program := "ytnlfcknpmemhfaa", sum := "6a917bb4a451ec3ecf50dd15b21a27f3cd1a02300bc00f671ce6b679b3fb41c7", func := "sluicegate/sluicegatelaw14.ReplyReads", spec := "replyReads", inPlace := ["internal/bytealg.IndexByte"], apart := false }
def ReplyReadsSaid : Prop := replyReadsRow.holds Try.pinned (OpenSpec.ofChange replyReadsSpec)

/-- ITS FALSE NEIGHBOUR: 'it returns false'. Refute it at one input. -/
def replyReadsWrong : ChangeSpec := { name := "replyReads", fn := fun _ => fun
  | [d1, d2] => { results := [.lit (.bool false)], args := [d1, d2] }
  | _ => none }
def ReplyReadsWrongFalsely : Prop := replyReadsRow.holds Try.pinned (OpenSpec.ofChange replyReadsWrong)

/-- 'sluicegatelaw14.ReplyBack': WHATEVER THE INPUT: true; the input reads as it did. -/
def replyBackSpec : ChangeSpec := { name := "replyBack", fn := fun _ => fun
  | [d1, d2] => { results := [.lit (.bool true)], args := [d1, d2] }
  | _ => none }
def replyBackRow : OpenClaim := { program := "ytnlfcknpmemhfaa", sum := "6a917bb4a451ec3ecf50dd15b21a27f3cd1a02300bc00f671ce6b679b3fb41c7", func := "sluicegate/sluicegatelaw14.ReplyBack", spec := "replyBack", inPlace := ["internal/bytealg.IndexByte"], apart := false }
def ReplyBackSaid : Prop := replyBackRow.holds Try.pinned (OpenSpec.ofChange replyBackSpec)

/-- ITS FALSE NEIGHBOUR: 'it returns false'. Refute it at one input. -/
def replyBackWrong : ChangeSpec := { name := "replyBack", fn := fun _ => fun
  | [d1, d2] => { results := [.lit (.bool false)], args := [d1, d2] }
  | _ => none }
def ReplyBackWrongFalsely : Prop := replyBackRow.holds Try.pinned (OpenSpec.ofChange replyBackWrong)

/- THE SECOND FORM. 'bulk': how many values and letters a reading holds, each counted each time it is reached (what is shared counts as often as it is met; a slice's spare places count too). A statement '..UptoSaid' is the law's where the arguments, and the package variables that the reading takes, are together of bulk at most 1048576: NARROWER than '..Said'. Prove '..Said' where nothing that the law and all that it calls make is longer than what came in: it says more and counts as full. Else prove '..UptoSaid'. A law counts once. -/
mutual
def uptoBulk {H : Type} : DataW H → Nat
  | .lit (.string bytes) => bytes.length + 1
  | .lit _ => 1
  | .nil => 1
  | .ptr d => uptoBulk d + 1
  | .slice elems spare => uptoBulkAll elems + uptoBulkAll spare + 1
  | .agg parts => uptoBulkAll parts + 1
  | .iface _ d => uptoBulk d + 1
  | .map entries => uptoBulkEntries entries + 1
  | .held _ => 1
def uptoBulkAll {H : Type} : List (DataW H) → Nat
  | [] => 0
  | d :: r => uptoBulk d + uptoBulkAll r
def uptoBulkEntries {H : Type} : List (Lit × DataW H) → Nat
  | [] => 0
  | x :: r => uptoBulkEntry x + uptoBulkEntries r
def uptoBulkEntry {H : Type} : Lit × DataW H → Nat
  | (.string bytes, d) => bytes.length + uptoBulk d + 1
  | (_, d) => uptoBulk d + 1
 end
def uptoSmall : (H : Type) → List (DataW H) → Bool := fun _ ds => decide (uptoBulkAll ds ≤ 1048576)
def OpenSpec.upto (s : _root_.Go.ChangeSpec) : _root_.Go.OpenSpec := { _root_.Go.OpenSpec.ofChange s with cond := some uptoSmall }

/-- 'sluicegatelaw14.ReplyWrites', WHERE WHAT IT READS IS OF BULK AT MOST 1048576: true; the input reads as it did. -/
def replyWritesUptoRow : OpenClaim := { program := "ytnlfcknpmemhfaa", sum := "6a917bb4a451ec3ecf50dd15b21a27f3cd1a02300bc00f671ce6b679b3fb41c7", func := "sluicegate/sluicegatelaw14.ReplyWrites", spec := "replyWrites", apart := false, narrowed := true }
def ReplyWritesUptoSaid : Prop := replyWritesUptoRow.holds Try.pinned (OpenSpec.upto replyWritesSpec)

/-- 'sluicegatelaw01.LenencShort', WHERE WHAT IT READS IS OF BULK AT MOST 1048576: true; the input reads as it did. -/
def lenencShortUptoRow : OpenClaim := { program := "ytnlfcknpmemhfaa", sum := "6a917bb4a451ec3ecf50dd15b21a27f3cd1a02300bc00f671ce6b679b3fb41c7", func := "sluicegate/sluicegatelaw01.LenencShort", spec := "lenencShort", inPlace := ["internal/bytealg.IndexByte"], apart := false, narrowed := true }
def LenencShortUptoSaid : Prop := lenencShortUptoRow.holds Try.pinned (OpenSpec.upto lenencShortSpec)

/-- 'sluicegatelaw01.LenencRow', WHERE WHAT IT READS IS OF BULK AT MOST 1048576: true; the input reads as it did. -/
def lenencRowUptoRow : OpenClaim := { program := "ytnlfcknpmemhfaa", sum := "6a917bb4a451ec3ecf50dd15b21a27f3cd1a02300bc00f671ce6b679b3fb41c7", func := "sluicegate/sluicegatelaw01.LenencRow", spec := "lenencRow", inPlace := ["internal/bytealg.IndexByte"], apart := false, narrowed := true }
def LenencRowUptoSaid : Prop := lenencRowUptoRow.holds Try.pinned (OpenSpec.upto lenencRowSpec)

/-- 'sluicegatelaw01.LenencNumbers', WHERE WHAT IT READS IS OF BULK AT MOST 1048576: true; the input reads as it did. -/
def lenencNumbersUptoRow : OpenClaim := { program := "ytnlfcknpmemhfaa", sum := "6a917bb4a451ec3ecf50dd15b21a27f3cd1a02300bc00f671ce6b679b3fb41c7", func := "sluicegate/sluicegatelaw01.LenencNumbers", spec := "lenencNumbers", inPlace := ["internal/bytealg.IndexByte"], apart := false, narrowed := true }
def LenencNumbersUptoSaid : Prop := lenencNumbersUptoRow.holds Try.pinned (OpenSpec.upto lenencNumbersSpec)

/-- 'sluicegatelaw14.ReplyOnce', WHERE WHAT IT READS IS OF BULK AT MOST 1048576: true; the input reads as it did. -/
def replyOnceUptoRow : OpenClaim := { program := "ytnlfcknpmemhfaa", sum := "6a917bb4a451ec3ecf50dd15b21a27f3cd1a02300bc00f671ce6b679b3fb41c7", func := "sluicegate/sluicegatelaw14.ReplyOnce", spec := "replyOnce", apart := false, narrowed := true }
def ReplyOnceUptoSaid : Prop := replyOnceUptoRow.holds Try.pinned (OpenSpec.upto replyOnceSpec)

/-- 'sluicegatelaw01.LenencNames', WHERE WHAT IT READS IS OF BULK AT MOST 1048576: true; the input reads as it did. -/
def lenencNamesUptoRow : OpenClaim := { program := "ytnlfcknpmemhfaa", sum := "6a917bb4a451ec3ecf50dd15b21a27f3cd1a02300bc00f671ce6b679b3fb41c7", func := "sluicegate/sluicegatelaw01.LenencNames", spec := "lenencNames", inPlace := ["internal/bytealg.IndexByte", "internal/bytealg.IndexByteString"], apart := false, narrowed := true }
def LenencNamesUptoSaid : Prop := lenencNamesUptoRow.holds Try.pinned (OpenSpec.upto lenencNamesSpec)

/-- 'sluicegatelaw01.LenencTexts', WHERE WHAT IT READS IS OF BULK AT MOST 1048576: true; the input reads as it did. -/
def lenencTextsUptoRow : OpenClaim := { program := "ytnlfcknpmemhfaa", sum := "6a917bb4a451ec3ecf50dd15b21a27f3cd1a02300bc00f671ce6b679b3fb41c7", func := "sluicegate/sluicegatelaw01.LenencTexts", spec := "lenencTexts", inPlace := ["internal/bytealg.IndexByte", "internal/bytealg.IndexByteString"], apart := false, narrowed := true }
def LenencTextsUptoSaid : Prop := lenencTextsUptoRow.holds Try.pinned (OpenSpec.upto lenencTextsSpec)

/-- 'sluicegatelaw01.LenencBack', WHERE WHAT IT READS IS OF BULK AT MOST 1048576: true; the input reads as it did. -/
def lenencBackUptoRow : OpenClaim := { program := "ytnlfcknpmemhfaa", sum := "6a917bb4a451ec3ecf50dd15b21a27f3cd1a02300bc00f671ce6b679b3fb41c7", func := "sluicegate/sluicegatelaw01.LenencBack", spec := "lenencBack", inPlace := ["internal/bytealg.IndexByte", "internal/bytealg.IndexByteString"], apart := false, narrowed := true }
def LenencBackUptoSaid : Prop := lenencBackUptoRow.holds Try.pinned (OpenSpec.upto lenencBackSpec)

/-- 'sluicegatelaw14.ReplyNames', WHERE WHAT IT READS IS OF BULK AT MOST 1048576: true; the input reads as it did. -/
def replyNamesUptoRow : OpenClaim := { program := "ytnlfcknpmemhfaa", sum := "6a917bb4a451ec3ecf50dd15b21a27f3cd1a02300bc00f671ce6b679b3fb41c7", func := "sluicegate/sluicegatelaw14.ReplyNames", spec := "replyNames", inPlace := ["internal/bytealg.IndexByte"], apart := false, narrowed := true }
def ReplyNamesUptoSaid : Prop := replyNamesUptoRow.holds Try.pinned (OpenSpec.upto replyNamesSpec)

/-- 'sluicegatelaw14.ReplyReads', WHERE WHAT IT READS IS OF BULK AT MOST 1048576: true; the input reads as it did. -/
def replyReadsUptoRow : OpenClaim := { program := "ytnlfcknpmemhfaa", sum := "6a917bb4a451ec3ecf50dd15b21a27f3cd1a02300bc00f671ce6b679b3fb41c7", func := "sluicegate/sluicegatelaw14.ReplyReads", spec := "replyReads", inPlace := ["internal/bytealg.IndexByte"], apart := false, narrowed := true }
def ReplyReadsUptoSaid : Prop := replyReadsUptoRow.holds Try.pinned (OpenSpec.upto replyReadsSpec)

/-- 'sluicegatelaw14.ReplyBack', WHERE WHAT IT READS IS OF BULK AT MOST 1048576: true; the input reads as it did. -/
def replyBackUptoRow : OpenClaim := { program := "ytnlfcknpmemhfaa", sum := "6a917bb4a451ec3ecf50dd15b21a27f3cd1a02300bc00f671ce6b679b3fb41c7", func := "sluicegate/sluicegatelaw14.ReplyBack", spec := "replyBack", inPlace := ["internal/bytealg.IndexByte"], apart := false, narrowed := true }
def ReplyBackUptoSaid : Prop := replyBackUptoRow.holds Try.pinned (OpenSpec.upto replyBackSpec)

end Rows
end Go.Proofs.Ytnlfcknpmemhfaa
