/-
  No cell of these rows narrows 'for every input' (looked for: loops, veiled, ifaces, maps, wideKeys, modest, calm, conditions, laid).
  DERIVED. THE GIVEN ROWS OF THIS SEAT. 2 by the template 'for every input the law returns true; each argument reads behind the call as it read before'; 0 by the template 'total and deterministic' (their statements: YtfmgoealbaihjaaTotals.lean).
  GIVEN WITH THE SEED: the statements are not yours to turn. If you find one false, say at which input.
  Laid BY PROGRAM, IN A SANDBOX (cutbox-rows.mjs): the forced cells as the released guide's own fill.sh prints them over the translation 3074dc9d11e17c3b… (all of the seat's roots in one cut). By AI agents, Wed Nov 11 2026. No macro, syntax, notation, axiom, sorry.
-/
import Derived.Test.YtfmgoealbaihjaaChecked
import GoSem.Claim
import GoSem.ClaimJoined
import GoSem.ClaimMapViews
import Derived.JoinedTies
import Derived.KernelRfl
namespace Go.Proofs.Ytfmgoealbaihjaa
/- THE CELL 'sum', in the pinned program and in every row, IS THE sha256 OF THE DUMP (.gsa) THAT YtfmgoealbaihjaaProg.lean LOADS. Nothing in Lean hashes anything: it is a label: what it is worth is what the hold of that sum in a sandbox is worth. -/
noncomputable def Try.pinned : Pinned := { name := "ytfmgoealbaihjaa", sum := "3074dc9d11e17c3b8bac2b5c8ccd6cc09ae18fc79c96e63bf72583edd53356e2", checked := Try.checked }
namespace Rows
def none {H : Type} : Left H := { results := [], args := [] }

/-- 'gladstonelaw20.LcpRows': WHATEVER THE INPUT: true; the input reads as it did. -/
def lcpRowsSpec : ChangeSpec := { name := "lcpRows", fn := fun _ => fun
  | [d1, d2, d3] => { results := [.lit (.bool true)], args := [d1, d2, d3] }
  | _ => none }
def lcpRowsRow : OpenClaim := { program := "ytfmgoealbaihjaa", sum := "3074dc9d11e17c3b8bac2b5c8ccd6cc09ae18fc79c96e63bf72583edd53356e2", func := "gladstone/gladstonelaw20.LcpRows", spec := "lcpRows", unfollowed := true, recurses := true, apart := false }
def LcpRowsSaid : Prop := lcpRowsRow.holds Try.pinned (OpenSpec.ofChange lcpRowsSpec)

/-- ITS FALSE NEIGHBOUR: 'it returns false'. Refute it at one input. -/
def lcpRowsWrong : ChangeSpec := { name := "lcpRows", fn := fun _ => fun
  | [d1, d2, d3] => { results := [.lit (.bool false)], args := [d1, d2, d3] }
  | _ => none }
def LcpRowsWrongFalsely : Prop := lcpRowsRow.holds Try.pinned (OpenSpec.ofChange lcpRowsWrong)

/-- 'gladstonelaw20.LcpLeast': WHATEVER THE INPUT: true; the input reads as it did. -/
def lcpLeastSpec : ChangeSpec := { name := "lcpLeast", fn := fun _ => fun
  | [d1, d2, d3] => { results := [.lit (.bool true)], args := [d1, d2, d3] }
  | _ => none }
def lcpLeastRow : OpenClaim := { program := "ytfmgoealbaihjaa", sum := "3074dc9d11e17c3b8bac2b5c8ccd6cc09ae18fc79c96e63bf72583edd53356e2", func := "gladstone/gladstonelaw20.LcpLeast", spec := "lcpLeast", unfollowed := true, recurses := true, apart := false }
def LcpLeastSaid : Prop := lcpLeastRow.holds Try.pinned (OpenSpec.ofChange lcpLeastSpec)

/-- ITS FALSE NEIGHBOUR: 'it returns false'. Refute it at one input. -/
def lcpLeastWrong : ChangeSpec := { name := "lcpLeast", fn := fun _ => fun
  | [d1, d2, d3] => { results := [.lit (.bool false)], args := [d1, d2, d3] }
  | _ => none }
def LcpLeastWrongFalsely : Prop := lcpLeastRow.holds Try.pinned (OpenSpec.ofChange lcpLeastWrong)

/- THE SECOND FORM. 'bulk': how many values and letters a reading holds, each counted each time it is reached (what is shared counts as often as it is met; a slice's spare places count too). A statement '..UptoSaid' is the law's where the arguments, and the package variables that the reading takes, are together of bulk at most 1048576: NARROWER than '..Said'. Prove '..Said' where nothing that the law and all that it calls make is longer than what came in: it says more and counts as full. Else prove '..UptoSaid'. A law counts once. -/
mutual
def uptoBulk {H : Type} : DataW H → Nat
  | .lit (.string bytes) => bytes.length + 1
  | .lit _ => 1
  | .nil => 1
  | .ptr d => uptoBulk d + 1
  | .slice elems spare => uptoBulkAll elems + uptoBulkAll spare + 1
  | .agg parts => uptoBulkAll parts + 1
  | .iface _ d => uptoBulk d + 1
  | .map entries => uptoBulkEntries entries + 1
  | .held _ => 1
def uptoBulkAll {H : Type} : List (DataW H) → Nat
  | [] => 0
  | d :: r => uptoBulk d + uptoBulkAll r
def uptoBulkEntries {H : Type} : List (Lit × DataW H) → Nat
  | [] => 0
  | x :: r => uptoBulkEntry x + uptoBulkEntries r
def uptoBulkEntry {H : Type} : Lit × DataW H → Nat
  | (.string bytes, d) => bytes.length + uptoBulk d + 1
  | (_, d) => uptoBulk d + 1
 end
def uptoSmall : (H : Type) → List (DataW H) → Bool := fun _ ds => decide (uptoBulkAll ds ≤ 1048576)
def OpenSpec.upto (s : _root_.Go.ChangeSpec) : _root_.Go.OpenSpec := { _root_.Go.OpenSpec.ofChange s with cond := some uptoSmall }

/-- 'gladstonelaw20.LcpRows', WHERE WHAT IT READS IS OF BULK AT MOST 1048576: true; the input reads as it did. -/
def lcpRowsUptoRow : OpenClaim := { program := "ytfmgoealbaihjaa", sum := "3074dc9d11e17c3b8bac2b5c8ccd6cc09ae18fc79c96e63bf72583edd53356e2", func := "gladstone/gladstonelaw20.LcpRows", spec := "lcpRows", unfollowed := true, recurses := true, apart := false, narrowed := true }
def LcpRowsUptoSaid : Prop := lcpRowsUptoRow.holds Try.pinned (OpenSpec.upto lcpRowsSpec)

/-- 'gladstonelaw20.LcpLeast', WHERE WHAT IT READS IS OF BULK AT MOST 1048576: true; the input reads as it did. -/
def lcpLeastUptoRow : OpenClaim := { program := "ytfmgoealbaihjaa", sum := "3074dc9d11e17c3b8bac2b5c8ccd6cc09ae18fc79c96e63bf72583edd53356e2", func := "gladstone/gladstonelaw20.LcpLeast", spec := "lcpLeast", unfollowed := true, recurses := true, apart := false, narrowed := true }
def LcpLeastUptoSaid : Prop := lcpLeastUptoRow.holds Try.pinned (OpenSpec.upto lcpLeastSpec)

end Rows
end Go.Proofs.Ytfmgoealbaihjaa
