/-
  No cell of these rows narrows 'for every input' (looked for: loops, veiled, ifaces, maps, wideKeys, modest, calm, conditions, laid).
  DERIVED. THE GIVEN ROWS OF THIS SEAT. 3 by the template 'for every input the law returns true; each argument reads behind the call as it read before'; 0 by the template 'total and deterministic' (their statements: YtoondlhlcmjniaaTotals.lean).
  GIVEN WITH THE SEED: the statements are not yours to turn. If you find one false, say at which input.
  Laid BY PROGRAM, IN A SANDBOX (cutbox-rows.mjs): the forced cells as the released guide's own fill.sh prints them over the translation 6021857b64292650… (all of the seat's roots in one cut). By AI agents, Wed Nov 11 2026. No macro, syntax, notation, axiom, sorry.
-/
import Derived.Test.YtoondlhlcmjniaaChecked
import GoSem.Claim
import GoSem.ClaimJoined
import GoSem.ClaimMapViews
import Derived.JoinedTies
import Derived.KernelRfl
namespace Go.Proofs.Ytoondlhlcmjniaa
/- THE CELL 'sum', in the pinned program and in every row, IS THE sha256 OF THE DUMP (.gsa) THAT YtoondlhlcmjniaaProg.lean LOADS. Nothing in Lean hashes anything: it is a label: what it is worth is what the hold of that sum in a sandbox is worth. -/
noncomputable def Try.pinned : Pinned := { name := "ytoondlhlcmjniaa", sum := "6021857b6429265002ee88865d3319aef85c4fb62a49352fd76441e249acc052", checked := Try.checked }
namespace Rows
def none {H : Type} : Left H := { results := [], args := [] }

/-- 'gladstonelaw59.TansNorms': WHATEVER THE INPUT: true; the input reads as it did. -/
def tansNormsSpec : ChangeSpec := { name := "tansNorms", fn := fun _ => fun
  | [d1, d2, d3] => { results := [.lit (.bool true)], args := [d1, d2, d3] }
  | _ => none }
def tansNormsRow : OpenClaim := { program := "ytoondlhlcmjniaa", sum := "6021857b6429265002ee88865d3319aef85c4fb62a49352fd76441e249acc052", func := "gladstone/gladstonelaw59.TansNorms", spec := "tansNorms", unfollowed := true, recurses := true, apart := false }
def TansNormsSaid : Prop := tansNormsRow.holds Try.pinned (OpenSpec.ofChange tansNormsSpec)

/-- ITS FALSE NEIGHBOUR: 'it returns false'. Refute it at one input. -/
def tansNormsWrong : ChangeSpec := { name := "tansNorms", fn := fun _ => fun
  | [d1, d2, d3] => { results := [.lit (.bool false)], args := [d1, d2, d3] }
  | _ => none }
def TansNormsWrongFalsely : Prop := tansNormsRow.holds Try.pinned (OpenSpec.ofChange tansNormsWrong)

/-- 'gladstonelaw59.TansDecodes': WHATEVER THE INPUT: true; the input reads as it did. -/
def tansDecodesSpec : ChangeSpec := { name := "tansDecodes", fn := fun _ => fun
  | [d1, d2, d3] => { results := [.lit (.bool true)], args := [d1, d2, d3] }
  | _ => none }
def tansDecodesRow : OpenClaim := { program := "ytoondlhlcmjniaa", sum := "6021857b6429265002ee88865d3319aef85c4fb62a49352fd76441e249acc052", func := "gladstone/gladstonelaw59.TansDecodes", spec := "tansDecodes", unfollowed := true, recurses := true, apart := false }
def TansDecodesSaid : Prop := tansDecodesRow.holds Try.pinned (OpenSpec.ofChange tansDecodesSpec)

/-- ITS FALSE NEIGHBOUR: 'it returns false'. Refute it at one input. -/
def tansDecodesWrong : ChangeSpec := { name := "tansDecodes", fn := fun _ => fun
  | [d1, d2, d3] => { results := [.lit (.bool false)], args := [d1, d2, d3] }
  | _ => none }
def TansDecodesWrongFalsely : Prop := tansDecodesRow.holds Try.pinned (OpenSpec.ofChange tansDecodesWrong)

/-- 'gladstonelaw59.TansBack': WHATEVER THE INPUT: true; the input reads as it did. -/
def tansBackSpec : ChangeSpec := { name := "tansBack", fn := fun _ => fun
  | [d1, d2, d3] => { results := [.lit (.bool true)], args := [d1, d2, d3] }
  | _ => none }
def tansBackRow : OpenClaim := { program := "ytoondlhlcmjniaa", sum := "6021857b6429265002ee88865d3319aef85c4fb62a49352fd76441e249acc052", func := "gladstone/gladstonelaw59.TansBack", spec := "tansBack", unfollowed := true, recurses := true, apart := false }
def TansBackSaid : Prop := tansBackRow.holds Try.pinned (OpenSpec.ofChange tansBackSpec)

/-- ITS FALSE NEIGHBOUR: 'it returns false'. Refute it at one input. -/
def tansBackWrong : ChangeSpec := { name := "tansBack", fn := fun _ => fun
  | [d1, d2, d3] => { results := [.lit (.bool false)], args := [d1, d2, d3] }
  | _ => none }
def TansBackWrongFalsely : Prop := tansBackRow.holds Try.pinned (OpenSpec.ofChange tansBackWrong)

/- THE SECOND FORM. 'bulk': how many values and letters a reading holds, each counted each time it is reached (what is shared counts as often as it is met; a slice's spare places count too). A statement '..UptoSaid' is the law's where the arguments, and the package variables that the reading takes, are together of bulk at most 1048576: NARROWER than '..Said'. Prove '..Said' where nothing that the law and all that it calls make is longer than what came in: it says more and counts as full. Else prove '..UptoSaid'. A law counts once. -/
mutual
def uptoBulk {H : Type} : DataW H → Nat
  | .lit (.string bytes) => bytes.length + 1
  | .lit _ => 1
  | .nil => 1
  | .ptr d => uptoBulk d + 1
  | .slice elems spare => uptoBulkAll elems + uptoBulkAll spare + 1
  | .agg parts => uptoBulkAll parts + 1
  | .iface _ d => uptoBulk d + 1
  | .map entries => uptoBulkEntries entries + 1
  | .held _ => 1
def uptoBulkAll {H : Type} : List (DataW H) → Nat
  | [] => 0
  | d :: r => uptoBulk d + uptoBulkAll r
def uptoBulkEntries {H : Type} : List (Lit × DataW H) → Nat
  | [] => 0
  | x :: r => uptoBulkEntry x + uptoBulkEntries r
def uptoBulkEntry {H : Type} : Lit × DataW H → Nat
  | (.string bytes, d) => bytes.length + uptoBulk d + 1
  | (_, d) => uptoBulk d + 1
 end
def uptoSmall : (H : Type) → List (DataW H) → Bool := fun _ ds => decide (uptoBulkAll ds ≤ 1048576)
def OpenSpec.upto (s : _root_.Go.ChangeSpec) : _root_.Go.OpenSpec := { _root_.Go.OpenSpec.ofChange s with cond := some uptoSmall }

/-- 'gladstonelaw59.TansNorms', WHERE WHAT IT READS IS OF BULK AT MOST 1048576: true; the input reads as it did. -/
def tansNormsUptoRow : OpenClaim := { program := "ytoondlhlcmjniaa", sum := "6021857b6429265002ee88865d3319aef85c4fb62a49352fd76441e249acc052", func := "gladstone/gladstonelaw59.TansNorms", spec := "tansNorms", unfollowed := true, recurses := true, apart := false, narrowed := true }
def TansNormsUptoSaid : Prop := tansNormsUptoRow.holds Try.pinned (OpenSpec.upto tansNormsSpec)

/-- 'gladstonelaw59.TansDecodes', WHERE WHAT IT READS IS OF BULK AT MOST 1048576: true; the input reads as it did. -/
def tansDecodesUptoRow : OpenClaim := { program := "ytoondlhlcmjniaa", sum := "6021857b6429265002ee88865d3319aef85c4fb62a49352fd76441e249acc052", func := "gladstone/gladstonelaw59.TansDecodes", spec := "tansDecodes", unfollowed := true, recurses := true, apart := false, narrowed := true }
def TansDecodesUptoSaid : Prop := tansDecodesUptoRow.holds Try.pinned (OpenSpec.upto tansDecodesSpec)

/-- 'gladstonelaw59.TansBack', WHERE WHAT IT READS IS OF BULK AT MOST 1048576: true; the input reads as it did. -/
def tansBackUptoRow : OpenClaim := { program := "ytoondlhlcmjniaa", sum := "6021857b6429265002ee88865d3319aef85c4fb62a49352fd76441e249acc052", func := "gladstone/gladstonelaw59.TansBack", spec := "tansBack", unfollowed := true, recurses := true, apart := false, narrowed := true }
def TansBackUptoSaid : Prop := tansBackUptoRow.holds Try.pinned (OpenSpec.upto tansBackSpec)

end Rows
end Go.Proofs.Ytoondlhlcmjniaa
