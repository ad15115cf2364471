/-
  No cell of these rows narrows 'for every input' (looked for: loops, veiled, ifaces, maps, wideKeys, modest, calm, conditions, laid).
  DERIVED. THE GIVEN ROWS OF THIS SEAT. 5 by the template 'for every input the law returns true; each argument reads behind the call as it read before'; 0 by the template 'total and deterministic' (their statements: YtdemkcnhcgiheaaTotals.lean).
  GIVEN WITH THE SEED: the statements are not yours to turn. If you find one false, say at which input.
  Laid BY PROGRAM, IN A SANDBOX (cutbox-rows.mjs): the forced cells as the released guide's own fill.sh prints them over the translation 007e8c519a3ec202… (all of the seat's roots in one cut). By AI agents, Wed Nov 11 2026. No macro, syntax, notation, axiom, sorry.
-/
import Derived.Test.YtdemkcnhcgiheaaChecked
import GoSem.Claim
import GoSem.ClaimJoined
import GoSem.ClaimMapViews
import Derived.JoinedTies
import Derived.KernelRfl
namespace Go.Proofs.Ytdemkcnhcgiheaa
/- THE CELL 'sum', in the pinned program and in every row, IS THE sha256 OF THE DUMP (.gsa) THAT YtdemkcnhcgiheaaProg.lean LOADS. Nothing in Lean hashes anything: it is a label: what it is worth is what the hold of that sum in a sandbox is worth. -/
noncomputable def Try.pinned : Pinned := { name := "ytdemkcnhcgiheaa", sum := "007e8c519a3ec202c98233e1f0c4f5931b1003bc3aa598afe20f452f05c11c03", checked := Try.checked }
namespace Rows
def none {H : Type} : Left H := { results := [], args := [] }

/-- 'sedimentlaw23.RmsgLays': WHATEVER THE INPUT: true; the input reads as it did. -/
def rmsgLaysSpec : ChangeSpec := { name := "rmsgLays", fn := fun _ => fun
  | [d] => { results := [.lit (.bool true)], args := [d] }
  | _ => none }
def rmsgLaysRow : OpenClaim := { program := "ytdemkcnhcgiheaa", sum := "007e8c519a3ec202c98233e1f0c4f5931b1003bc3aa598afe20f452f05c11c03", func := "sediment/sedimentlaw23.RmsgLays", spec := "rmsgLays", unfollowed := true, recurses := true, apart := false }
def RmsgLaysSaid : Prop := rmsgLaysRow.holds Try.pinned (OpenSpec.ofChange rmsgLaysSpec)

/-- ITS FALSE NEIGHBOUR: 'it returns false'. Refute it at one input. -/
def rmsgLaysWrong : ChangeSpec := { name := "rmsgLays", fn := fun _ => fun
  | [d] => { results := [.lit (.bool false)], args := [d] }
  | _ => none }
def RmsgLaysWrongFalsely : Prop := rmsgLaysRow.holds Try.pinned (OpenSpec.ofChange rmsgLaysWrong)

/-- 'sedimentlaw23.RmsgReads': WHATEVER THE INPUT: true; the input reads as it did. -/
def rmsgReadsSpec : ChangeSpec := { name := "rmsgReads", fn := fun _ => fun
  | [d1, d2] => { results := [.lit (.bool true)], args := [d1, d2] }
  | _ => none }
def rmsgReadsRow : OpenClaim := { program := "ytdemkcnhcgiheaa", sum := "007e8c519a3ec202c98233e1f0c4f5931b1003bc3aa598afe20f452f05c11c03", func := "sediment/sedimentlaw23.RmsgReads", spec := "rmsgReads", unfollowed := true, recurses := true, apart := false }
def RmsgReadsSaid : Prop := rmsgReadsRow.holds Try.pinned (OpenSpec.ofChange rmsgReadsSpec)

/-- ITS FALSE NEIGHBOUR: 'it returns false'. Refute it at one input. -/
def rmsgReadsWrong : ChangeSpec := { name := "rmsgReads", fn := fun _ => fun
  | [d1, d2] => { results := [.lit (.bool false)], args := [d1, d2] }
  | _ => none }
def RmsgReadsWrongFalsely : Prop := rmsgReadsRow.holds Try.pinned (OpenSpec.ofChange rmsgReadsWrong)

/-- 'sedimentlaw23.RmsgBack': WHATEVER THE INPUT: true; the input reads as it did. -/
def rmsgBackSpec : ChangeSpec := { name := "rmsgBack", fn := fun _ => fun
  | [d1, d2, d3] => { results := [.lit (.bool true)], args := [d1, d2, d3] }
  | _ => none }
def rmsgBackRow : OpenClaim := { program := "ytdemkcnhcgiheaa", sum := "007e8c519a3ec202c98233e1f0c4f5931b1003bc3aa598afe20f452f05c11c03", func := "sediment/sedimentlaw23.RmsgBack", spec := "rmsgBack", unfollowed := true, recurses := true, apart := false }
def RmsgBackSaid : Prop := rmsgBackRow.holds Try.pinned (OpenSpec.ofChange rmsgBackSpec)

/-- ITS FALSE NEIGHBOUR: 'it returns false'. Refute it at one input. -/
def rmsgBackWrong : ChangeSpec := { name := "rmsgBack", fn := fun _ => fun
  | [d1, d2, d3] => { results := [.lit (.bool false)], args := [d1, d2, d3] }
  | _ => none }
def RmsgBackWrongFalsely : Prop := rmsgBackRow.holds Try.pinned (OpenSpec.ofChange rmsgBackWrong)

/-- 'sedimentlaw23.RmsgOne': WHATEVER THE INPUT: true; the input reads as it did. -/
def rmsgOneSpec : ChangeSpec := { name := "rmsgOne", fn := fun _ => fun
  | [d] => { results := [.lit (.bool true)], args := [d] }
  | _ => none }
def rmsgOneRow : OpenClaim := { program := "ytdemkcnhcgiheaa", sum := "007e8c519a3ec202c98233e1f0c4f5931b1003bc3aa598afe20f452f05c11c03", func := "sediment/sedimentlaw23.RmsgOne", spec := "rmsgOne", unfollowed := true, recurses := true, apart := false }
def RmsgOneSaid : Prop := rmsgOneRow.holds Try.pinned (OpenSpec.ofChange rmsgOneSpec)

/-- ITS FALSE NEIGHBOUR: 'it returns false'. Refute it at one input. -/
def rmsgOneWrong : ChangeSpec := { name := "rmsgOne", fn := fun _ => fun
  | [d] => { results := [.lit (.bool false)], args := [d] }
  | _ => none }
def RmsgOneWrongFalsely : Prop := rmsgOneRow.holds Try.pinned (OpenSpec.ofChange rmsgOneWrong)

/-- 'sedimentlaw23.RmsgKnown': WHATEVER THE INPUT: true; the input reads as it did. -/
def rmsgKnownSpec : ChangeSpec := { name := "rmsgKnown", fn := fun _ => fun
  | [] => { results := [.lit (.bool true)], args := [] }
  | _ => none }
def rmsgKnownRow : OpenClaim := { program := "ytdemkcnhcgiheaa", sum := "007e8c519a3ec202c98233e1f0c4f5931b1003bc3aa598afe20f452f05c11c03", func := "sediment/sedimentlaw23.RmsgKnown", spec := "rmsgKnown", unfollowed := true, recurses := true, apart := false }
def RmsgKnownSaid : Prop := rmsgKnownRow.holds Try.pinned (OpenSpec.ofChange rmsgKnownSpec)

/-- ITS FALSE NEIGHBOUR: 'it returns false'. Refute it at one input. -/
def rmsgKnownWrong : ChangeSpec := { name := "rmsgKnown", fn := fun _ => fun
  | [] => { results := [.lit (.bool false)], args := [] }
  | _ => none }
def RmsgKnownWrongFalsely : Prop := rmsgKnownRow.holds Try.pinned (OpenSpec.ofChange rmsgKnownWrong)

/- THE SECOND FORM. 'bulk': how many values and letters a reading holds, each counted each time it is reached (what is shared counts as often as it is met; a slice's spare places count too). A statement '..UptoSaid' is the law's where the arguments, and the package variables that the reading takes, are together of bulk at most 1048576: NARROWER than '..Said'. Prove '..Said' where nothing that the law and all that it calls make is longer than what came in: it says more and counts as full. Else prove '..UptoSaid'. A law counts once. -/
mutual
def uptoBulk {H : Type} : DataW H → Nat
  | .lit (.string bytes) => bytes.length + 1
  | .lit _ => 1
  | .nil => 1
  | .ptr d => uptoBulk d + 1
  | .slice elems spare => uptoBulkAll elems + uptoBulkAll spare + 1
  | .agg parts => uptoBulkAll parts + 1
  | .iface _ d => uptoBulk d + 1
  | .map entries => uptoBulkEntries entries + 1
  | .held _ => 1
def uptoBulkAll {H : Type} : List (DataW H) → Nat
  | [] => 0
  | d :: r => uptoBulk d + uptoBulkAll r
def uptoBulkEntries {H : Type} : List (Lit × DataW H) → Nat
  | [] => 0
  | x :: r => uptoBulkEntry x + uptoBulkEntries r
def uptoBulkEntry {H : Type} : Lit × DataW H → Nat
  | (.string bytes, d) => bytes.length + uptoBulk d + 1
  | (_, d) => uptoBulk d + 1
 end
def uptoSmall : (H : Type) → List (DataW H) → Bool := fun _ ds => decide (uptoBulkAll ds ≤ 1048576)
def OpenSpec.upto (s : _root_.Go.ChangeSpec) : _root_.Go.OpenSpec := { _root_.Go.OpenSpec.ofChange s with cond := some uptoSmall }

/-- 'sedimentlaw23.RmsgLays', WHERE WHAT IT READS IS OF BULK AT MOST 1048576: true; the input reads as it did. -/
def rmsgLaysUptoRow : OpenClaim := { program := "ytdemkcnhcgiheaa", sum := "007e8c519a3ec202c98233e1f0c4f5931b1003bc3aa598afe20f452f05c11c03", func := "sediment/sedimentlaw23.RmsgLays", spec := "rmsgLays", unfollowed := true, recurses := true, apart := false, narrowed := true }
def RmsgLaysUptoSaid : Prop := rmsgLaysUptoRow.holds Try.pinned (OpenSpec.upto rmsgLaysSpec)

/-- 'sedimentlaw23.RmsgReads', WHERE WHAT IT READS IS OF BULK AT MOST 1048576: true; the input reads as it did. -/
def rmsgReadsUptoRow : OpenClaim := { program := "ytdemkcnhcgiheaa", sum := "007e8c519a3ec202c98233e1f0c4f5931b1003bc3aa598afe20f452f05c11c03", func := "sediment/sedimentlaw23.RmsgReads", spec := "rmsgReads", unfollowed := true, recurses := true, apart := false, narrowed := true }
def RmsgReadsUptoSaid : Prop := rmsgReadsUptoRow.holds Try.pinned (OpenSpec.upto rmsgReadsSpec)

/-- 'sedimentlaw23.RmsgBack', WHERE WHAT IT READS IS OF BULK AT MOST 1048576: true; the input reads as it did. -/
def rmsgBackUptoRow : OpenClaim := { program := "ytdemkcnhcgiheaa", sum := "007e8c519a3ec202c98233e1f0c4f5931b1003bc3aa598afe20f452f05c11c03", func := "sediment/sedimentlaw23.RmsgBack", spec := "rmsgBack", unfollowed := true, recurses := true, apart := false, narrowed := true }
def RmsgBackUptoSaid : Prop := rmsgBackUptoRow.holds Try.pinned (OpenSpec.upto rmsgBackSpec)

/-- 'sedimentlaw23.RmsgOne', WHERE WHAT IT READS IS OF BULK AT MOST 1048576: true; the input reads as it did. -/
def rmsgOneUptoRow : OpenClaim := { program := "ytdemkcnhcgiheaa", sum := "007e8c519a3ec202c98233e1f0c4f5931b1003bc3aa598afe20f452f05c11c03", func := "sediment/sedimentlaw23.RmsgOne", spec := "rmsgOne", unfollowed := true, recurses := true, apart := false, narrowed := true }
def RmsgOneUptoSaid : Prop := rmsgOneUptoRow.holds Try.pinned (OpenSpec.upto rmsgOneSpec)

/-- 'sedimentlaw23.RmsgKnown', WHERE WHAT IT READS IS OF BULK AT MOST 1048576: true; the input reads as it did. -/
def rmsgKnownUptoRow : OpenClaim := { program := "ytdemkcnhcgiheaa", sum := "007e8c519a3ec202c98233e1f0c4f5931b1003bc3aa598afe20f452f05c11c03", func := "sediment/sedimentlaw23.RmsgKnown", spec := "rmsgKnown", unfollowed := true, recurses := true, apart := false, narrowed := true }
def RmsgKnownUptoSaid : Prop := rmsgKnownUptoRow.holds Try.pinned (OpenSpec.upto rmsgKnownSpec)

end Rows
end Go.Proofs.Ytdemkcnhcgiheaa
