/-
  No cell of these rows narrows 'for every input' (looked for: loops, veiled, ifaces, maps, wideKeys, modest, calm, conditions, laid).
  DERIVED. THE GIVEN ROWS OF THIS SEAT. 4 by the template 'for every input the law returns true; each argument reads behind the call as it read before'; 0 by the template 'total and deterministic' (their statements: YtdjnjhlgpflcjaaTotals.lean).
  GIVEN WITH THE SEED: the statements are not yours to turn. If you find one false, say at which input.
  Laid BY PROGRAM, IN A SANDBOX (cutbox-rows.mjs): the forced cells as the released guide's own fill.sh prints them over the translation 4b68a083bd0d8f0a… (all of the seat's roots in one cut). By AI agents, Wed Nov 11 2026. No macro, syntax, notation, axiom, sorry.
-/
import Derived.Test.YtdjnjhlgpflcjaaChecked
import GoSem.Claim
import GoSem.ClaimJoined
import GoSem.ClaimMapViews
import Derived.JoinedTies
import Derived.KernelRfl
namespace Go.Proofs.Ytdjnjhlgpflcjaa
/- THE CELL 'sum', in the pinned program and in every row, IS THE sha256 OF THE DUMP (.gsa) THAT YtdjnjhlgpflcjaaProg.lean LOADS. Nothing in Lean hashes anything: it is a label: what it is worth is what the hold of that sum in a sandbox is worth. -/
noncomputable def Try.pinned : Pinned := { name := "ytdjnjhlgpflcjaa", sum := "4b68a083bd0d8f0a647f155a202c46396172c25f405c715499b32d116f26b885", checked := Try.checked }
namespace Rows
def none {H : Type} : Left H := { results := [], args := [] }

/-- 'sluicegatelaw23.TrackNames': WHATEVER THE INPUT: true; the input reads as it did. -/
def trackNamesSpec : ChangeSpec := { name := "trackNames", fn := fun _ => fun
  | [] => { results := [.lit (.bool true)], args := [] }
  | _ => none }
def trackNamesRow : OpenClaim := { program := "ytdjnjhlgpflcjaa", sum := "4b68a083bd0d8f0a647f155a202c46396172c25f405c715499b32d116f26b885", func := "sluicegate/sluicegatelaw23.TrackNames", spec := "trackNames", inPlace := ["slices.overlaps[sluicegate/api.Var]", "slices.overlaps[string]"], unfollowed := true, recurses := true, apart := false }
def TrackNamesSaid : Prop := trackNamesRow.holds Try.pinned (OpenSpec.ofChange trackNamesSpec)

/-- ITS FALSE NEIGHBOUR: 'it returns false'. Refute it at one input. -/
def trackNamesWrong : ChangeSpec := { name := "trackNames", fn := fun _ => fun
  | [] => { results := [.lit (.bool false)], args := [] }
  | _ => none }
def TrackNamesWrongFalsely : Prop := trackNamesRow.holds Try.pinned (OpenSpec.ofChange trackNamesWrong)

/-- 'sluicegatelaw23.TrackBytes': WHATEVER THE INPUT: true; the input reads as it did. -/
def trackBytesSpec : ChangeSpec := { name := "trackBytes", fn := fun _ => fun
  | [d1, d2, d3] => { results := [.lit (.bool true)], args := [d1, d2, d3] }
  | _ => none }
def trackBytesRow : OpenClaim := { program := "ytdjnjhlgpflcjaa", sum := "4b68a083bd0d8f0a647f155a202c46396172c25f405c715499b32d116f26b885", func := "sluicegate/sluicegatelaw23.TrackBytes", spec := "trackBytes", inPlace := ["slices.overlaps[sluicegate/api.Var]", "slices.overlaps[string]"], unfollowed := true, recurses := true, apart := false }
def TrackBytesSaid : Prop := trackBytesRow.holds Try.pinned (OpenSpec.ofChange trackBytesSpec)

/-- ITS FALSE NEIGHBOUR: 'it returns false'. Refute it at one input. -/
def trackBytesWrong : ChangeSpec := { name := "trackBytes", fn := fun _ => fun
  | [d1, d2, d3] => { results := [.lit (.bool false)], args := [d1, d2, d3] }
  | _ => none }
def TrackBytesWrongFalsely : Prop := trackBytesRow.holds Try.pinned (OpenSpec.ofChange trackBytesWrong)

/-- 'sluicegatelaw23.TrackBack': WHATEVER THE INPUT: true; the input reads as it did. -/
def trackBackSpec : ChangeSpec := { name := "trackBack", fn := fun _ => fun
  | [d] => { results := [.lit (.bool true)], args := [d] }
  | _ => none }
def trackBackRow : OpenClaim := { program := "ytdjnjhlgpflcjaa", sum := "4b68a083bd0d8f0a647f155a202c46396172c25f405c715499b32d116f26b885", func := "sluicegate/sluicegatelaw23.TrackBack", spec := "trackBack", inPlace := ["slices.overlaps[sluicegate/api.Var]", "slices.overlaps[string]"], unfollowed := true, recurses := true, apart := false }
def TrackBackSaid : Prop := trackBackRow.holds Try.pinned (OpenSpec.ofChange trackBackSpec)

/-- ITS FALSE NEIGHBOUR: 'it returns false'. Refute it at one input. -/
def trackBackWrong : ChangeSpec := { name := "trackBack", fn := fun _ => fun
  | [d] => { results := [.lit (.bool false)], args := [d] }
  | _ => none }
def TrackBackWrongFalsely : Prop := trackBackRow.holds Try.pinned (OpenSpec.ofChange trackBackWrong)

/-- 'sluicegatelaw23.TrackPlain': WHATEVER THE INPUT: true; the input reads as it did. -/
def trackPlainSpec : ChangeSpec := { name := "trackPlain", fn := fun _ => fun
  | [d1, d2, d3] => { results := [.lit (.bool true)], args := [d1, d2, d3] }
  | _ => none }
def trackPlainRow : OpenClaim := { program := "ytdjnjhlgpflcjaa", sum := "4b68a083bd0d8f0a647f155a202c46396172c25f405c715499b32d116f26b885", func := "sluicegate/sluicegatelaw23.TrackPlain", spec := "trackPlain", inPlace := ["slices.overlaps[sluicegate/api.Var]", "slices.overlaps[string]"], unfollowed := true, recurses := true, apart := false }
def TrackPlainSaid : Prop := trackPlainRow.holds Try.pinned (OpenSpec.ofChange trackPlainSpec)

/-- ITS FALSE NEIGHBOUR: 'it returns false'. Refute it at one input. -/
def trackPlainWrong : ChangeSpec := { name := "trackPlain", fn := fun _ => fun
  | [d1, d2, d3] => { results := [.lit (.bool false)], args := [d1, d2, d3] }
  | _ => none }
def TrackPlainWrongFalsely : Prop := trackPlainRow.holds Try.pinned (OpenSpec.ofChange trackPlainWrong)

/- THE SECOND FORM. 'bulk': how many values and letters a reading holds, each counted each time it is reached (what is shared counts as often as it is met; a slice's spare places count too). A statement '..UptoSaid' is the law's where the arguments, and the package variables that the reading takes, are together of bulk at most 1048576: NARROWER than '..Said'. Prove '..Said' where nothing that the law and all that it calls make is longer than what came in: it says more and counts as full. Else prove '..UptoSaid'. A law counts once. -/
mutual
def uptoBulk {H : Type} : DataW H → Nat
  | .lit (.string bytes) => bytes.length + 1
  | .lit _ => 1
  | .nil => 1
  | .ptr d => uptoBulk d + 1
  | .slice elems spare => uptoBulkAll elems + uptoBulkAll spare + 1
  | .agg parts => uptoBulkAll parts + 1
  | .iface _ d => uptoBulk d + 1
  | .map entries => uptoBulkEntries entries + 1
  | .held _ => 1
def uptoBulkAll {H : Type} : List (DataW H) → Nat
  | [] => 0
  | d :: r => uptoBulk d + uptoBulkAll r
def uptoBulkEntries {H : Type} : List (Lit × DataW H) → Nat
  | [] => 0
  | x :: r => uptoBulkEntry x + uptoBulkEntries r
def uptoBulkEntry {H : Type} : Lit × DataW H → Nat
  | (.string bytes, d) => bytes.length + uptoBulk d + 1
  | (_, d) => uptoBulk d + 1
 end
def uptoSmall : (H : Type) → List (DataW H) → Bool := fun _ ds => decide (uptoBulkAll ds ≤ 1048576)
def OpenSpec.upto (s : _root_.Go.ChangeSpec) : _root_.Go.OpenSpec := { _root_.Go.OpenSpec.ofChange s with cond := some uptoSmall }

/-- 'sluicegatelaw23.TrackNames', WHERE WHAT IT READS IS OF BULK AT MOST 1048576: true; the input reads as it did. -/
def trackNamesUptoRow : OpenClaim := { program := "ytdjnjhlgpflcjaa", sum := "4b68a083bd0d8f0a647f155a202c46396172c25f405c715499b32d116f26b885", func := "sluicegate/sluicegatelaw23.TrackNames", spec := "trackNames", inPlace := ["slices.overlaps[sluicegate/api.Var]", "slices.overlaps[string]"], unfollowed := true, recurses := true, apart := false, narrowed := true }
def TrackNamesUptoSaid : Prop := trackNamesUptoRow.holds Try.pinned (OpenSpec.upto trackNamesSpec)

/-- 'sluicegatelaw23.TrackBytes', WHERE WHAT IT READS IS OF BULK AT MOST 1048576: true; the input reads as it did. -/
def trackBytesUptoRow : OpenClaim := { program := "ytdjnjhlgpflcjaa", sum := "4b68a083bd0d8f0a647f155a202c46396172c25f405c715499b32d116f26b885", func := "sluicegate/sluicegatelaw23.TrackBytes", spec := "trackBytes", inPlace := ["slices.overlaps[sluicegate/api.Var]", "slices.overlaps[string]"], unfollowed := true, recurses := true, apart := false, narrowed := true }
def TrackBytesUptoSaid : Prop := trackBytesUptoRow.holds Try.pinned (OpenSpec.upto trackBytesSpec)

/-- 'sluicegatelaw23.TrackBack', WHERE WHAT IT READS IS OF BULK AT MOST 1048576: true; the input reads as it did. -/
def trackBackUptoRow : OpenClaim := { program := "ytdjnjhlgpflcjaa", sum := "4b68a083bd0d8f0a647f155a202c46396172c25f405c715499b32d116f26b885", func := "sluicegate/sluicegatelaw23.TrackBack", spec := "trackBack", inPlace := ["slices.overlaps[sluicegate/api.Var]", "slices.overlaps[string]"], unfollowed := true, recurses := true, apart := false, narrowed := true }
def TrackBackUptoSaid : Prop := trackBackUptoRow.holds Try.pinned (OpenSpec.upto trackBackSpec)

/-- 'sluicegatelaw23.TrackPlain', WHERE WHAT IT READS IS OF BULK AT MOST 1048576: true; the input reads as it did. -/
def trackPlainUptoRow : OpenClaim := { program := "ytdjnjhlgpflcjaa", sum := "4b68a083bd0d8f0a647f155a202c46396172c25f405c715499b32d116f26b885", func := "sluicegate/sluicegatelaw23.TrackPlain", spec := "trackPlain", inPlace := ["slices.overlaps[sluicegate/api.Var]", "slices.overlaps[string]"], unfollowed := true, recurses := true, apart := false, narrowed := true }
def TrackPlainUptoSaid : Prop := trackPlainUptoRow.holds Try.pinned (OpenSpec.upto trackPlainSpec)

end Rows
end Go.Proofs.Ytdjnjhlgpflcjaa
