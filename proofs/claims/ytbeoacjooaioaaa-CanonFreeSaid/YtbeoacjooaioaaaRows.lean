/-
  No cell of these rows narrows 'for every input' (looked for: loops, veiled, ifaces, maps, wideKeys, modest, calm, conditions, laid).
  DERIVED. THE GIVEN ROWS OF THIS SEAT. 3 by the template 'for every input the law returns true; each argument reads behind the call as it read before'; 0 by the template 'total and deterministic' (their statements: YtbeoacjooaioaaaTotals.lean).
  GIVEN WITH THE SEED: the statements are not yours to turn. If you find one false, say at which input.
  Laid BY PROGRAM, IN A SANDBOX (cutbox-rows.mjs): the forced cells as the released guide's own fill.sh prints them over the translation 4d3df35a0ddc479f… (all of the seat's roots in one cut). By AI agents, Wed Nov 11 2026. No macro, syntax, notation, axiom, sorry.
-/
import Derived.Test.YtbeoacjooaioaaaChecked
import GoSem.Claim
import GoSem.ClaimJoined
import GoSem.ClaimMapViews
import Derived.JoinedTies
import Derived.KernelRfl
namespace Go.Proofs.Ytbeoacjooaioaaa
/- THE CELL 'sum', in the pinned program and in every row, IS THE sha256 OF THE DUMP (.gsa) THAT YtbeoacjooaioaaaProg.lean LOADS. Nothing in Lean hashes anything: it is a label: what it is worth is what the hold of that sum in a sandbox is worth. -/
noncomputable def Try.pinned : Pinned := { name := "ytbeoacjooaioaaa", sum := "4d3df35a0ddc479fd03d69a6288481dcf263d924ccbcfcf261e0a0e196b0b44e", checked := Try.checked }
namespace Rows
def none {H : Type} : Left H := { results := [], args := [] }

/-- 'gladstonelaw08.CanonCodes': WHATEVER THE INPUT: true; the input reads as it did. -/
def canonCodesSpec : ChangeSpec := { name := "canonCodes", fn := fun _ => fun
  | [d1, d2, d3] => { results := [.lit (.bool true)], args := [d1, d2, d3] }
  | _ => none }
def canonCodesRow : OpenClaim := { program := "ytbeoacjooaioaaa", sum := "4d3df35a0ddc479fd03d69a6288481dcf263d924ccbcfcf261e0a0e196b0b44e", func := "gladstone/gladstonelaw08.CanonCodes", spec := "canonCodes", apart := false }
def CanonCodesSaid : Prop := canonCodesRow.holds Try.pinned (OpenSpec.ofChange canonCodesSpec)

/-- ITS FALSE NEIGHBOUR: 'it returns false'. Refute it at one input. -/
def canonCodesWrong : ChangeSpec := { name := "canonCodes", fn := fun _ => fun
  | [d1, d2, d3] => { results := [.lit (.bool false)], args := [d1, d2, d3] }
  | _ => none }
def CanonCodesWrongFalsely : Prop := canonCodesRow.holds Try.pinned (OpenSpec.ofChange canonCodesWrong)

/-- 'gladstonelaw08.CanonFree': WHATEVER THE INPUT: true; the input reads as it did. -/
def canonFreeSpec : ChangeSpec := { name := "canonFree", fn := fun _ => fun
  | [d] => { results := [.lit (.bool true)], args := [d] }
  | _ => none }
def canonFreeRow : OpenClaim := { program := "ytbeoacjooaioaaa", sum := "4d3df35a0ddc479fd03d69a6288481dcf263d924ccbcfcf261e0a0e196b0b44e", func := "gladstone/gladstonelaw08.CanonFree", spec := "canonFree", apart := false }
def CanonFreeSaid : Prop := canonFreeRow.holds Try.pinned (OpenSpec.ofChange canonFreeSpec)

/-- ITS FALSE NEIGHBOUR: 'it returns false'. Refute it at one input. -/
def canonFreeWrong : ChangeSpec := { name := "canonFree", fn := fun _ => fun
  | [d] => { results := [.lit (.bool false)], args := [d] }
  | _ => none }
def CanonFreeWrongFalsely : Prop := canonFreeRow.holds Try.pinned (OpenSpec.ofChange canonFreeWrong)

/-- 'gladstonelaw08.CanonTurns': WHATEVER THE INPUT: true; the input reads as it did. -/
def canonTurnsSpec : ChangeSpec := { name := "canonTurns", fn := fun _ => fun
  | [d1, d2] => { results := [.lit (.bool true)], args := [d1, d2] }
  | _ => none }
def canonTurnsRow : OpenClaim := { program := "ytbeoacjooaioaaa", sum := "4d3df35a0ddc479fd03d69a6288481dcf263d924ccbcfcf261e0a0e196b0b44e", func := "gladstone/gladstonelaw08.CanonTurns", spec := "canonTurns", apart := false }
def CanonTurnsSaid : Prop := canonTurnsRow.holds Try.pinned (OpenSpec.ofChange canonTurnsSpec)

/-- ITS FALSE NEIGHBOUR: 'it returns false'. Refute it at one input. -/
def canonTurnsWrong : ChangeSpec := { name := "canonTurns", fn := fun _ => fun
  | [d1, d2] => { results := [.lit (.bool false)], args := [d1, d2] }
  | _ => none }
def CanonTurnsWrongFalsely : Prop := canonTurnsRow.holds Try.pinned (OpenSpec.ofChange canonTurnsWrong)

/- THE SECOND FORM. 'bulk': how many values and letters a reading holds, each counted each time it is reached (what is shared counts as often as it is met; a slice's spare places count too). A statement '..UptoSaid' is the law's where the arguments, and the package variables that the reading takes, are together of bulk at most 1048576: NARROWER than '..Said'. Prove '..Said' where nothing that the law and all that it calls make is longer than what came in: it says more and counts as full. Else prove '..UptoSaid'. A law counts once. -/
mutual
def uptoBulk {H : Type} : DataW H → Nat
  | .lit (.string bytes) => bytes.length + 1
  | .lit _ => 1
  | .nil => 1
  | .ptr d => uptoBulk d + 1
  | .slice elems spare => uptoBulkAll elems + uptoBulkAll spare + 1
  | .agg parts => uptoBulkAll parts + 1
  | .iface _ d => uptoBulk d + 1
  | .map entries => uptoBulkEntries entries + 1
  | .held _ => 1
def uptoBulkAll {H : Type} : List (DataW H) → Nat
  | [] => 0
  | d :: r => uptoBulk d + uptoBulkAll r
def uptoBulkEntries {H : Type} : List (Lit × DataW H) → Nat
  | [] => 0
  | x :: r => uptoBulkEntry x + uptoBulkEntries r
def uptoBulkEntry {H : Type} : Lit × DataW H → Nat
  | (.string bytes, d) => bytes.length + uptoBulk d + 1
  | (_, d) => uptoBulk d + 1
 end
def uptoSmall : (H : Type) → List (DataW H) → Bool := fun _ ds => decide (uptoBulkAll ds ≤ 1048576)
def OpenSpec.upto (s : _root_.Go.ChangeSpec) : _root_.Go.OpenSpec := { _root_.Go.OpenSpec.ofChange s with cond := some uptoSmall }

/-- 'gladstonelaw08.CanonCodes', WHERE WHAT IT READS IS OF BULK AT MOST 1048576: true; the input reads as it did. -/
def canonCodesUptoRow : OpenClaim := { program := "ytbeoacjooaioaaa", sum := "4d3df35a0ddc479fd03d69a6288481dcf263d924ccbcfcf261e0a0e196b0b44e", func := "gladstone/gladstonelaw08.CanonCodes", spec := "canonCodes", apart := false, narrowed := true }
def CanonCodesUptoSaid : Prop := canonCodesUptoRow.holds Try.pinned (OpenSpec.upto canonCodesSpec)

/-- 'gladstonelaw08.CanonFree', WHERE WHAT IT READS IS OF BULK AT MOST 1048576: true; the input reads as it did. -/
def canonFreeUptoRow : OpenClaim := { program := "ytbeoacjooaioaaa", sum := "4d3df35a0ddc479fd03d69a6288481dcf263d924ccbcfcf261e0a0e196b0b44e", func := "gladstone/gladstonelaw08.CanonFree", spec := "canonFree", apart := false, narrowed := true }
def CanonFreeUptoSaid : Prop := canonFreeUptoRow.holds Try.pinned (OpenSpec.upto canonFreeSpec)

/-- 'gladstonelaw08.CanonTurns', WHERE WHAT IT READS IS OF BULK AT MOST 1048576: true; the input reads as it did. -/
def canonTurnsUptoRow : OpenClaim := { program := "ytbeoacjooaioaaa", sum := "4d3df35a0ddc479fd03d69a6288481dcf263d924ccbcfcf261e0a0e196b0b44e", func := "gladstone/gladstonelaw08.CanonTurns", spec := "canonTurns", apart := false, narrowed := true }
def CanonTurnsUptoSaid : Prop := canonTurnsUptoRow.holds Try.pinned (OpenSpec.upto canonTurnsSpec)

end Rows
end Go.Proofs.Ytbeoacjooaioaaa
