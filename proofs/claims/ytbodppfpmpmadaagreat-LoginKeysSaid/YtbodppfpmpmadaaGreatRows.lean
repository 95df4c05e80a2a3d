/-
  No cell of these rows narrows 'for every input' (looked for: loops, veiled, ifaces, maps, wideKeys, modest, calm, conditions, laid).
  DERIVED. THE GIVEN ROWS OF THIS SEAT. 3 by the template 'for every input the law returns true; each argument reads behind the call as it read before'; 0 by the template 'total and deterministic' (their statements: YtbodppfpmpmadaaGreatTotals.lean).
  GIVEN WITH THE SEED: the statements are not yours to turn. If you find one false, say at which input.
  Laid BY PROGRAM, IN A SANDBOX (cutbox-rows.mjs): the forced cells as the released guide's own fill.sh prints them over the translation e7ece9c7ef33d4e5… (all of the seat's roots in one cut). By AI agents, Wed Nov 11 2026. No macro, syntax, notation, axiom, sorry.
-/
import Derived.Test.YtbodppfpmpmadaaGreatChecked
import GoSem.Claim
import GoSem.ClaimJoined
import GoSem.ClaimMapViews
import Derived.JoinedTies
import Derived.KernelRfl
namespace Go.Proofs.YtbodppfpmpmadaaGreat
/- THE CELL 'sum', in the pinned program and in every row, IS THE sha256 OF THE DUMP (.gsa) THAT YtbodppfpmpmadaaGreatProg.lean LOADS. Nothing in Lean hashes anything: it is a label: what it is worth is what the hold of that sum in a sandbox is worth. -/
noncomputable def Tryz.pinned : Pinned := { name := "ytbodppfpmpmadaagreat", sum := "e7ece9c7ef33d4e5ffa05d7b8e090b264d642c98c1698b6d74cb58d8de6c0444", checked := Tryz.checked }
namespace Rows
def none {H : Type} : Left H := { results := [], args := [] }

/-- 'sluicegatelaw27.LoginNil': WHATEVER THE INPUT: true; the input reads as it did. -/
def loginNilSpec : ChangeSpec := { name := "loginNil", fn := fun _ => fun
  | [d] => { results := [.lit (.bool true)], args := [d] }
  | _ => none }
def loginNilRow : OpenClaim := { program := "ytbodppfpmpmadaagreat", sum := "e7ece9c7ef33d4e5ffa05d7b8e090b264d642c98c1698b6d74cb58d8de6c0444", func := "sluicegate/sluicegatelaw27.LoginNil", spec := "loginNil", inPlace := ["internal/bytealg.IndexByte", "internal/bytealg.IndexByteString"], unfollowed := true, recurses := true, apart := false }
def LoginNilSaid : Prop := loginNilRow.holds Tryz.pinned (OpenSpec.ofChange loginNilSpec)

/-- ITS FALSE NEIGHBOUR: 'it returns false'. Refute it at one input. -/
def loginNilWrong : ChangeSpec := { name := "loginNil", fn := fun _ => fun
  | [d] => { results := [.lit (.bool false)], args := [d] }
  | _ => none }
def LoginNilWrongFalsely : Prop := loginNilRow.holds Tryz.pinned (OpenSpec.ofChange loginNilWrong)

/-- 'sluicegatelaw27.LoginDoors': WHATEVER THE INPUT: true; the input reads as it did. -/
def loginDoorsSpec : ChangeSpec := { name := "loginDoors", fn := fun _ => fun
  | [d1, d2, d3, d4, d5] => { results := [.lit (.bool true)], args := [d1, d2, d3, d4, d5] }
  | _ => none }
def loginDoorsRow : OpenClaim := { program := "ytbodppfpmpmadaagreat", sum := "e7ece9c7ef33d4e5ffa05d7b8e090b264d642c98c1698b6d74cb58d8de6c0444", func := "sluicegate/sluicegatelaw27.LoginDoors", spec := "loginDoors", inPlace := ["internal/bytealg.IndexByteString", "internal/bytealg.IndexByte"], unfollowed := true, recurses := true, apart := false }
def LoginDoorsSaid : Prop := loginDoorsRow.holds Tryz.pinned (OpenSpec.ofChange loginDoorsSpec)

/-- ITS FALSE NEIGHBOUR: 'it returns false'. Refute it at one input. -/
def loginDoorsWrong : ChangeSpec := { name := "loginDoors", fn := fun _ => fun
  | [d1, d2, d3, d4, d5] => { results := [.lit (.bool false)], args := [d1, d2, d3, d4, d5] }
  | _ => none }
def LoginDoorsWrongFalsely : Prop := loginDoorsRow.holds Tryz.pinned (OpenSpec.ofChange loginDoorsWrong)

/-- 'sluicegatelaw27.LoginKeys': WHATEVER THE INPUT: true; the input reads as it did. -/
def loginKeysSpec : ChangeSpec := { name := "loginKeys", fn := fun _ => fun
  | [d1, d2, d3, d4, d5, d6] => { results := [.lit (.bool true)], args := [d1, d2, d3, d4, d5, d6] }
  | _ => none }
def loginKeysRow : OpenClaim := { program := "ytbodppfpmpmadaagreat", sum := "e7ece9c7ef33d4e5ffa05d7b8e090b264d642c98c1698b6d74cb58d8de6c0444", func := "sluicegate/sluicegatelaw27.LoginKeys", spec := "loginKeys", inPlace := ["internal/bytealg.IndexByteString", "internal/bytealg.IndexByte"], unfollowed := true, recurses := true, apart := false }
def LoginKeysSaid : Prop := loginKeysRow.holds Tryz.pinned (OpenSpec.ofChange loginKeysSpec)

/-- ITS FALSE NEIGHBOUR: 'it returns false'. Refute it at one input. -/
def loginKeysWrong : ChangeSpec := { name := "loginKeys", fn := fun _ => fun
  | [d1, d2, d3, d4, d5, d6] => { results := [.lit (.bool false)], args := [d1, d2, d3, d4, d5, d6] }
  | _ => none }
def LoginKeysWrongFalsely : Prop := loginKeysRow.holds Tryz.pinned (OpenSpec.ofChange loginKeysWrong)

/- THE SECOND FORM. 'bulk': how many values and letters a reading holds, each counted each time it is reached (what is shared counts as often as it is met; a slice's spare places count too). A statement '..UptoSaid' is the law's where the arguments, and the package variables that the reading takes, are together of bulk at most 1048576: NARROWER than '..Said'. Prove '..Said' where nothing that the law and all that it calls make is longer than what came in: it says more and counts as full. Else prove '..UptoSaid'. A law counts once. -/
mutual
def uptoBulk {H : Type} : DataW H → Nat
  | .lit (.string bytes) => bytes.length + 1
  | .lit _ => 1
  | .nil => 1
  | .ptr d => uptoBulk d + 1
  | .slice elems spare => uptoBulkAll elems + uptoBulkAll spare + 1
  | .agg parts => uptoBulkAll parts + 1
  | .iface _ d => uptoBulk d + 1
  | .map entries => uptoBulkEntries entries + 1
  | .held _ => 1
def uptoBulkAll {H : Type} : List (DataW H) → Nat
  | [] => 0
  | d :: r => uptoBulk d + uptoBulkAll r
def uptoBulkEntries {H : Type} : List (Lit × DataW H) → Nat
  | [] => 0
  | x :: r => uptoBulkEntry x + uptoBulkEntries r
def uptoBulkEntry {H : Type} : Lit × DataW H → Nat
  | (.string bytes, d) => bytes.length + uptoBulk d + 1
  | (_, d) => uptoBulk d + 1
 end
def uptoSmall : (H : Type) → List (DataW H) → Bool := fun _ ds => decide (uptoBulkAll ds ≤ 1048576)
def OpenSpec.upto (s : _root_.Go.ChangeSpec) : _root_.Go.OpenSpec := { _root_.Go.OpenSpec.ofChange s with cond := some uptoSmall }

/-- 'sluicegatelaw27.LoginNil', WHERE WHAT IT READS IS OF BULK AT MOST 1048576: true; the input reads as it did. -/
def loginNilUptoRow : OpenClaim := { program := "ytbodppfpmpmadaagreat", sum := "e7ece9c7ef33d4e5ffa05d7b8e090b264d642c98c1698b6d74cb58d8de6c0444", func := "sluicegate/sluicegatelaw27.LoginNil", spec := "loginNil", inPlace := ["internal/bytealg.IndexByte", "internal/bytealg.IndexByteString"], unfollowed := true, recurses := true, apart := false, narrowed := true }
def LoginNilUptoSaid : Prop := loginNilUptoRow.holds Tryz.pinned (OpenSpec.upto loginNilSpec)

/-- 'sluicegatelaw27.LoginDoors', WHERE WHAT IT READS IS OF BULK AT MOST 1048576: true; the input reads as it did. -/
def loginDoorsUptoRow : OpenClaim := { program := "ytbodppfpmpmadaagreat", sum := "e7ece9c7ef33d4e5ffa05d7b8e090b264d642c98c1698b6d74cb58d8de6c0444", func := "sluicegate/sluicegatelaw27.LoginDoors", spec := "loginDoors", inPlace := ["internal/bytealg.IndexByteString", "internal/bytealg.IndexByte"], unfollowed := true, recurses := true, apart := false, narrowed := true }
def LoginDoorsUptoSaid : Prop := loginDoorsUptoRow.holds Tryz.pinned (OpenSpec.upto loginDoorsSpec)

/-- 'sluicegatelaw27.LoginKeys', WHERE WHAT IT READS IS OF BULK AT MOST 1048576: true; the input reads as it did. -/
def loginKeysUptoRow : OpenClaim := { program := "ytbodppfpmpmadaagreat", sum := "e7ece9c7ef33d4e5ffa05d7b8e090b264d642c98c1698b6d74cb58d8de6c0444", func := "sluicegate/sluicegatelaw27.LoginKeys", spec := "loginKeys", inPlace := ["internal/bytealg.IndexByteString", "internal/bytealg.IndexByte"], unfollowed := true, recurses := true, apart := false, narrowed := true }
def LoginKeysUptoSaid : Prop := loginKeysUptoRow.holds Tryz.pinned (OpenSpec.upto loginKeysSpec)

end Rows
end Go.Proofs.YtbodppfpmpmadaaGreat
