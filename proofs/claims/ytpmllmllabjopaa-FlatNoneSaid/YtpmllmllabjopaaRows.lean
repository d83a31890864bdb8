/-
  No cell of these rows narrows 'for every input' (looked for: loops, veiled, ifaces, maps, wideKeys, modest, calm, conditions, laid).
  DERIVED. THE GIVEN ROWS OF THIS SEAT. 2 by the template 'for every input the law returns true; each argument reads behind the call as it read before'; 0 by the template 'total and deterministic' (their statements: YtpmllmllabjopaaTotals.lean).
  GIVEN WITH THE SEED: the statements are not yours to turn. If you find one false, say at which input.
  Laid BY PROGRAM, IN A SANDBOX (cutbox-rows.mjs): the forced cells as the released guide's own fill.sh prints them over the translation cc1e0326db1603ca… (all of the seat's roots in one cut). By AI agents, Wed Nov 11 2026. No macro, syntax, notation, axiom, sorry.
-/
import Derived.Test.YtpmllmllabjopaaChecked
import GoSem.Claim
import GoSem.ClaimJoined
import GoSem.ClaimMapViews
import Derived.JoinedTies
import Derived.KernelRfl
namespace Go.Proofs.Ytpmllmllabjopaa
/- THE CELL 'sum', in the pinned program and in every row, IS THE sha256 OF THE DUMP (.gsa) THAT YtpmllmllabjopaaProg.lean LOADS. Nothing in Lean hashes anything: it is a label: what it is worth is what the hold of that sum in a sandbox is worth. -/
noncomputable def Try.pinned : Pinned := { name := "ytpmllmllabjopaa", sum := "cc1e0326db1603ca4cff76e9c23ddc7d87cf44787ea6977acb93c39bcec3e94a", checked := Try.checked }
namespace Rows
def none {H : Type} : Left H := { results := [], args := [] }

/-- 'gladstonelaw10.FlatReads': WHATEVER THE INPUT: true; the input reads as it did. -/
def flatReadsSpec : ChangeSpec := { name := "flatReads", fn := fun _ => fun
  | [d1, d2, d3] => { results := [.lit (.bool true)], args := [d1, d2, d3] }
  | _ => none }
def flatReadsRow : OpenClaim := { program := "ytpmllmllabjopaa", sum := "cc1e0326db1603ca4cff76e9c23ddc7d87cf44787ea6977acb93c39bcec3e94a", func := "gladstone/gladstonelaw10.FlatReads", spec := "flatReads", apart := false }
def FlatReadsSaid : Prop := flatReadsRow.holds Try.pinned (OpenSpec.ofChange flatReadsSpec)

/-- ITS FALSE NEIGHBOUR: 'it returns false'. Refute it at one input. -/
def flatReadsWrong : ChangeSpec := { name := "flatReads", fn := fun _ => fun
  | [d1, d2, d3] => { results := [.lit (.bool false)], args := [d1, d2, d3] }
  | _ => none }
def FlatReadsWrongFalsely : Prop := flatReadsRow.holds Try.pinned (OpenSpec.ofChange flatReadsWrong)

/-- 'gladstonelaw10.FlatNone': WHATEVER THE INPUT: true; the input reads as it did. -/
def flatNoneSpec : ChangeSpec := { name := "flatNone", fn := fun _ => fun
  | [d] => { results := [.lit (.bool true)], args := [d] }
  | _ => none }
def flatNoneRow : OpenClaim := { program := "ytpmllmllabjopaa", sum := "cc1e0326db1603ca4cff76e9c23ddc7d87cf44787ea6977acb93c39bcec3e94a", func := "gladstone/gladstonelaw10.FlatNone", spec := "flatNone", apart := false }
def FlatNoneSaid : Prop := flatNoneRow.holds Try.pinned (OpenSpec.ofChange flatNoneSpec)

/-- ITS FALSE NEIGHBOUR: 'it returns false'. Refute it at one input. -/
def flatNoneWrong : ChangeSpec := { name := "flatNone", fn := fun _ => fun
  | [d] => { results := [.lit (.bool false)], args := [d] }
  | _ => none }
def FlatNoneWrongFalsely : Prop := flatNoneRow.holds Try.pinned (OpenSpec.ofChange flatNoneWrong)

/- THE SECOND FORM. 'bulk': how many values and letters a reading holds, each counted each time it is reached (what is shared counts as often as it is met; a slice's spare places count too). A statement '..UptoSaid' is the law's where the arguments, and the package variables that the reading takes, are together of bulk at most 1048576: NARROWER than '..Said'. Prove '..Said' where nothing that the law and all that it calls make is longer than what came in: it says more and counts as full. Else prove '..UptoSaid'. A law counts once. -/
mutual
def uptoBulk {H : Type} : DataW H → Nat
  | .lit (.string bytes) => bytes.length + 1
  | .lit _ => 1
  | .nil => 1
  | .ptr d => uptoBulk d + 1
  | .slice elems spare => uptoBulkAll elems + uptoBulkAll spare + 1
  | .agg parts => uptoBulkAll parts + 1
  | .iface _ d => uptoBulk d + 1
  | .map entries => uptoBulkEntries entries + 1
  | .held _ => 1
def uptoBulkAll {H : Type} : List (DataW H) → Nat
  | [] => 0
  | d :: r => uptoBulk d + uptoBulkAll r
def uptoBulkEntries {H : Type} : List (Lit × DataW H) → Nat
  | [] => 0
  | x :: r => uptoBulkEntry x + uptoBulkEntries r
def uptoBulkEntry {H : Type} : Lit × DataW H → Nat
  | (.string bytes, d) => bytes.length + uptoBulk d + 1
  | (_, d) => uptoBulk d + 1
 end
def uptoSmall : (H : Type) → List (DataW H) → Bool := fun _ ds => decide (uptoBulkAll ds ≤ 1048576)
def OpenSpec.upto (s : _root_.Go.ChangeSpec) : _root_.Go.OpenSpec := { _root_.Go.OpenSpec.ofChange s with cond := some uptoSmall }

/-- 'gladstonelaw10.FlatReads', WHERE WHAT IT READS IS OF BULK AT MOST 1048576: true; the input reads as it did. -/
def flatReadsUptoRow : OpenClaim := { program := "ytpmllmllabjopaa", sum := "cc1e0326db1603ca4cff76e9c23ddc7d87cf44787ea6977acb93c39bcec3e94a", func := "gladstone/gladstonelaw10.FlatReads", spec := "flatReads", apart := false, narrowed := true }
def FlatReadsUptoSaid : Prop := flatReadsUptoRow.holds Try.pinned (OpenSpec.upto flatReadsSpec)

/-- 'gladstonelaw10.FlatNone', WHERE WHAT IT READS IS OF BULK AT MOST 1048576: true; the input reads as it did. -/
def flatNoneUptoRow : OpenClaim := { program := "ytpmllmllabjopaa", sum := "cc1e0326db1603ca4cff76e9c23ddc7d87cf44787ea6977acb93c39bcec3e94a", func := "gladstone/gladstonelaw10.FlatNone", spec := "flatNone", apart := false, narrowed := true }
def FlatNoneUptoSaid : Prop := flatNoneUptoRow.holds Try.pinned (OpenSpec.upto flatNoneSpec)

end Rows
end Go.Proofs.Ytpmllmllabjopaa
