/-
  No cell of these rows narrows 'for every input' (looked for: loops, veiled, ifaces, maps, wideKeys, modest, calm, conditions, laid).
  DERIVED. THE GIVEN ROWS OF THIS SEAT. 3 by the template 'for every input the law returns true; each argument reads behind the call as it read before'; 0 by the template 'total and deterministic' (their statements: YtbbmnaiofdjacaaTotals.lean).
  GIVEN WITH THE SEED: the statements are not yours to turn. If you find one false, say at which input.
  Laid BY PROGRAM, IN A SANDBOX (cutbox-rows.mjs): the forced cells as the released guide's own fill.sh prints them over the translation 83bd8253e6245174… (all of the seat's roots in one cut). By AI agents, Wed Nov 11 2026. No macro, syntax, notation, axiom, sorry.
-/
import Derived.Test.YtbbmnaiofdjacaaChecked
import GoSem.Claim
import GoSem.ClaimJoined
import GoSem.ClaimMapViews
import Derived.JoinedTies
import Derived.KernelRfl
namespace Go.Proofs.Ytbbmnaiofdjacaa
/- THE CELL 'sum', in the pinned program and in every row, IS THE sha256 OF THE DUMP (.gsa) THAT YtbbmnaiofdjacaaProg.lean LOADS. Nothing in Lean hashes anything: it is a label: what it is worth is what the hold of that sum in a sandbox is worth. -/
noncomputable def Try.pinned : Pinned := { name := "ytbbmnaiofdjacaa", sum := "83bd8253e62451744be89e40ba5aa5a616fc716472a888b2d5da1338fb1a17c1", checked := Try.checked }
namespace Rows
def none {H : Type} : Left H := { results := [], args := [] }

/-- 'gladstonelaw01.BitwPlays': WHATEVER THE INPUT: true; the input reads as it did. -/
def bitwPlaysSpec : ChangeSpec := { name := "bitwPlays", fn := fun _ => fun
  | [d] => { results := [.lit (.bool true)], args := [d] }
  | _ => none }
def bitwPlaysRow : OpenClaim := { program := "ytbbmnaiofdjacaa", sum := "83bd8253e62451744be89e40ba5aa5a616fc716472a888b2d5da1338fb1a17c1", func := "gladstone/gladstonelaw01.BitwPlays", spec := "bitwPlays", unfollowed := true, recurses := true, apart := false }
def BitwPlaysSaid : Prop := bitwPlaysRow.holds Try.pinned (OpenSpec.ofChange bitwPlaysSpec)

/-- ITS FALSE NEIGHBOUR: 'it returns false'. Refute it at one input. -/
def bitwPlaysWrong : ChangeSpec := { name := "bitwPlays", fn := fun _ => fun
  | [d] => { results := [.lit (.bool false)], args := [d] }
  | _ => none }
def BitwPlaysWrongFalsely : Prop := bitwPlaysRow.holds Try.pinned (OpenSpec.ofChange bitwPlaysWrong)

/-- 'gladstonelaw01.BitwParts': WHATEVER THE INPUT: true; the input reads as it did. -/
def bitwPartsSpec : ChangeSpec := { name := "bitwParts", fn := fun _ => fun
  | [d1, d2, d3] => { results := [.lit (.bool true)], args := [d1, d2, d3] }
  | _ => none }
def bitwPartsRow : OpenClaim := { program := "ytbbmnaiofdjacaa", sum := "83bd8253e62451744be89e40ba5aa5a616fc716472a888b2d5da1338fb1a17c1", func := "gladstone/gladstonelaw01.BitwParts", spec := "bitwParts", unfollowed := true, recurses := true, apart := false }
def BitwPartsSaid : Prop := bitwPartsRow.holds Try.pinned (OpenSpec.ofChange bitwPartsSpec)

/-- ITS FALSE NEIGHBOUR: 'it returns false'. Refute it at one input. -/
def bitwPartsWrong : ChangeSpec := { name := "bitwParts", fn := fun _ => fun
  | [d1, d2, d3] => { results := [.lit (.bool false)], args := [d1, d2, d3] }
  | _ => none }
def BitwPartsWrongFalsely : Prop := bitwPartsRow.holds Try.pinned (OpenSpec.ofChange bitwPartsWrong)

/-- 'gladstonelaw01.BitwNone': WHATEVER THE INPUT: true; the input reads as it did. -/
def bitwNoneSpec : ChangeSpec := { name := "bitwNone", fn := fun _ => fun
  | [d] => { results := [.lit (.bool true)], args := [d] }
  | _ => none }
def bitwNoneRow : OpenClaim := { program := "ytbbmnaiofdjacaa", sum := "83bd8253e62451744be89e40ba5aa5a616fc716472a888b2d5da1338fb1a17c1", func := "gladstone/gladstonelaw01.BitwNone", spec := "bitwNone", unfollowed := true, recurses := true, apart := false }
def BitwNoneSaid : Prop := bitwNoneRow.holds Try.pinned (OpenSpec.ofChange bitwNoneSpec)

/-- ITS FALSE NEIGHBOUR: 'it returns false'. Refute it at one input. -/
def bitwNoneWrong : ChangeSpec := { name := "bitwNone", fn := fun _ => fun
  | [d] => { results := [.lit (.bool false)], args := [d] }
  | _ => none }
def BitwNoneWrongFalsely : Prop := bitwNoneRow.holds Try.pinned (OpenSpec.ofChange bitwNoneWrong)

/- THE SECOND FORM. 'bulk': how many values and letters a reading holds, each counted each time it is reached (what is shared counts as often as it is met; a slice's spare places count too). A statement '..UptoSaid' is the law's where the arguments, and the package variables that the reading takes, are together of bulk at most 1048576: NARROWER than '..Said'. Prove '..Said' where nothing that the law and all that it calls make is longer than what came in: it says more and counts as full. Else prove '..UptoSaid'. A law counts once. -/
mutual
def uptoBulk {H : Type} : DataW H → Nat
  | .lit (.string bytes) => bytes.length + 1
  | .lit _ => 1
  | .nil => 1
  | .ptr d => uptoBulk d + 1
  | .slice elems spare => uptoBulkAll elems + uptoBulkAll spare + 1
  | .agg parts => uptoBulkAll parts + 1
  | .iface _ d => uptoBulk d + 1
  | .map entries => uptoBulkEntries entries + 1
  | .held _ => 1
def uptoBulkAll {H : Type} : List (DataW H) → Nat
  | [] => 0
  | d :: r => uptoBulk d + uptoBulkAll r
def uptoBulkEntries {H : Type} : List (Lit × DataW H) → Nat
  | [] => 0
  | x :: r => uptoBulkEntry x + uptoBulkEntries r
def uptoBulkEntry {H : Type} : Lit × DataW H → Nat
  | (.string bytes, d) => bytes.length + uptoBulk d + 1
  | (_, d) => uptoBulk d + 1
 end
def uptoSmall : (H : Type) → List (DataW H) → Bool := fun _ ds => decide (uptoBulkAll ds ≤ 1048576)
def OpenSpec.upto (s : _root_.Go.ChangeSpec) : _root_.Go.OpenSpec := { _root_.Go.OpenSpec.ofChange s with cond := some uptoSmall }

/-- 'gladstonelaw01.BitwPlays', WHERE WHAT IT READS IS OF BULK AT MOST 1048576: true; the input reads as it did. -/
def bitwPlaysUptoRow : OpenClaim := { program := "ytbbmnaiofdjacaa", sum := "83bd8253e62451744be89e40ba5aa5a616fc716472a888b2d5da1338fb1a17c1", func := "gladstone/gladstonelaw01.BitwPlays", spec := "bitwPlays", unfollowed := true, recurses := true, apart := false, narrowed := true }
def BitwPlaysUptoSaid : Prop := bitwPlaysUptoRow.holds Try.pinned (OpenSpec.upto bitwPlaysSpec)

/-- 'gladstonelaw01.BitwParts', WHERE WHAT IT READS IS OF BULK AT MOST 1048576: true; the input reads as it did. -/
def bitwPartsUptoRow : OpenClaim := { program := "ytbbmnaiofdjacaa", sum := "83bd8253e62451744be89e40ba5aa5a616fc716472a888b2d5da1338fb1a17c1", func := "gladstone/gladstonelaw01.BitwParts", spec := "bitwParts", unfollowed := true, recurses := true, apart := false, narrowed := true }
def BitwPartsUptoSaid : Prop := bitwPartsUptoRow.holds Try.pinned (OpenSpec.upto bitwPartsSpec)

/-- 'gladstonelaw01.BitwNone', WHERE WHAT IT READS IS OF BULK AT MOST 1048576: true; the input reads as it did. -/
def bitwNoneUptoRow : OpenClaim := { program := "ytbbmnaiofdjacaa", sum := "83bd8253e62451744be89e40ba5aa5a616fc716472a888b2d5da1338fb1a17c1", func := "gladstone/gladstonelaw01.BitwNone", spec := "bitwNone", unfollowed := true, recurses := true, apart := false, narrowed := true }
def BitwNoneUptoSaid : Prop := bitwNoneUptoRow.holds Try.pinned (OpenSpec.upto bitwNoneSpec)

end Rows
end Go.Proofs.Ytbbmnaiofdjacaa
