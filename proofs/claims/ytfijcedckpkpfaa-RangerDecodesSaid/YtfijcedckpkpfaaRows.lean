/-
  No cell of these rows narrows 'for every input' (looked for: loops, veiled, ifaces, maps, wideKeys, modest, calm, conditions, laid).
  DERIVED. THE GIVEN ROWS OF THIS SEAT. 4 by the template 'for every input the law returns true; each argument reads behind the call as it read before'; 0 by the template 'total and deterministic' (their statements: YtfijcedckpkpfaaTotals.lean).
  GIVEN WITH THE SEED: the statements are not yours to turn. If you find one false, say at which input.
  Laid BY PROGRAM, IN A SANDBOX (cutbox-rows.mjs): the forced cells as the released guide's own fill.sh prints them over the translation 4825e2a9d08aadde… (all of the seat's roots in one cut). By AI agents, Wed Nov 11 2026. No macro, syntax, notation, axiom, sorry.
-/
import Derived.Test.YtfijcedckpkpfaaChecked
import GoSem.Claim
import GoSem.ClaimJoined
import GoSem.ClaimMapViews
import Derived.JoinedTies
import Derived.KernelRfl
namespace Go.Proofs.Ytfijcedckpkpfaa
/- THE CELL 'sum', in the pinned program and in every row, IS THE sha256 OF THE DUMP (.gsa) THAT YtfijcedckpkpfaaProg.lean LOADS. Nothing in Lean hashes anything: it is a label: what it is worth is what the hold of that sum in a sandbox is worth. -/
noncomputable def Try.pinned : Pinned := { name := "ytfijcedckpkpfaa", sum := "4825e2a9d08aadde95b80ac8a3e6812d1c8a04b9de2e6c07728e467124b2a78d", checked := Try.checked }
namespace Rows
def none {H : Type} : Left H := { results := [], args := [] }

/-- 'gladstonelaw45.RangerEncodes': WHATEVER THE INPUT: true; the input reads as it did. -/
def rangerEncodesSpec : ChangeSpec := { name := "rangerEncodes", fn := fun _ => fun
  | [d1, d2] => { results := [.lit (.bool true)], args := [d1, d2] }
  | _ => none }
def rangerEncodesRow : OpenClaim := { program := "ytfijcedckpkpfaa", sum := "4825e2a9d08aadde95b80ac8a3e6812d1c8a04b9de2e6c07728e467124b2a78d", func := "gladstone/gladstonelaw45.RangerEncodes", spec := "rangerEncodes", unfollowed := true, recurses := true, apart := false }
def RangerEncodesSaid : Prop := rangerEncodesRow.holds Try.pinned (OpenSpec.ofChange rangerEncodesSpec)

/-- ITS FALSE NEIGHBOUR: 'it returns false'. Refute it at one input. -/
def rangerEncodesWrong : ChangeSpec := { name := "rangerEncodes", fn := fun _ => fun
  | [d1, d2] => { results := [.lit (.bool false)], args := [d1, d2] }
  | _ => none }
def RangerEncodesWrongFalsely : Prop := rangerEncodesRow.holds Try.pinned (OpenSpec.ofChange rangerEncodesWrong)

/-- 'gladstonelaw45.RangerDecodes': WHATEVER THE INPUT: true; the input reads as it did. -/
def rangerDecodesSpec : ChangeSpec := { name := "rangerDecodes", fn := fun _ => fun
  | [d1, d2] => { results := [.lit (.bool true)], args := [d1, d2] }
  | _ => none }
def rangerDecodesRow : OpenClaim := { program := "ytfijcedckpkpfaa", sum := "4825e2a9d08aadde95b80ac8a3e6812d1c8a04b9de2e6c07728e467124b2a78d", func := "gladstone/gladstonelaw45.RangerDecodes", spec := "rangerDecodes", unfollowed := true, recurses := true, apart := false }
def RangerDecodesSaid : Prop := rangerDecodesRow.holds Try.pinned (OpenSpec.ofChange rangerDecodesSpec)

/-- ITS FALSE NEIGHBOUR: 'it returns false'. Refute it at one input. -/
def rangerDecodesWrong : ChangeSpec := { name := "rangerDecodes", fn := fun _ => fun
  | [d1, d2] => { results := [.lit (.bool false)], args := [d1, d2] }
  | _ => none }
def RangerDecodesWrongFalsely : Prop := rangerDecodesRow.holds Try.pinned (OpenSpec.ofChange rangerDecodesWrong)

/-- 'gladstonelaw45.RangerBack': WHATEVER THE INPUT: true; the input reads as it did. -/
def rangerBackSpec : ChangeSpec := { name := "rangerBack", fn := fun _ => fun
  | [d1, d2, d3] => { results := [.lit (.bool true)], args := [d1, d2, d3] }
  | _ => none }
def rangerBackRow : OpenClaim := { program := "ytfijcedckpkpfaa", sum := "4825e2a9d08aadde95b80ac8a3e6812d1c8a04b9de2e6c07728e467124b2a78d", func := "gladstone/gladstonelaw45.RangerBack", spec := "rangerBack", unfollowed := true, recurses := true, apart := false }
def RangerBackSaid : Prop := rangerBackRow.holds Try.pinned (OpenSpec.ofChange rangerBackSpec)

/-- ITS FALSE NEIGHBOUR: 'it returns false'. Refute it at one input. -/
def rangerBackWrong : ChangeSpec := { name := "rangerBack", fn := fun _ => fun
  | [d1, d2, d3] => { results := [.lit (.bool false)], args := [d1, d2, d3] }
  | _ => none }
def RangerBackWrongFalsely : Prop := rangerBackRow.holds Try.pinned (OpenSpec.ofChange rangerBackWrong)

/-- 'gladstonelaw45.RangerNone': WHATEVER THE INPUT: true; the input reads as it did. -/
def rangerNoneSpec : ChangeSpec := { name := "rangerNone", fn := fun _ => fun
  | [d] => { results := [.lit (.bool true)], args := [d] }
  | _ => none }
def rangerNoneRow : OpenClaim := { program := "ytfijcedckpkpfaa", sum := "4825e2a9d08aadde95b80ac8a3e6812d1c8a04b9de2e6c07728e467124b2a78d", func := "gladstone/gladstonelaw45.RangerNone", spec := "rangerNone", unfollowed := true, recurses := true, apart := false }
def RangerNoneSaid : Prop := rangerNoneRow.holds Try.pinned (OpenSpec.ofChange rangerNoneSpec)

/-- ITS FALSE NEIGHBOUR: 'it returns false'. Refute it at one input. -/
def rangerNoneWrong : ChangeSpec := { name := "rangerNone", fn := fun _ => fun
  | [d] => { results := [.lit (.bool false)], args := [d] }
  | _ => none }
def RangerNoneWrongFalsely : Prop := rangerNoneRow.holds Try.pinned (OpenSpec.ofChange rangerNoneWrong)

/- THE SECOND FORM. 'bulk': how many values and letters a reading holds, each counted each time it is reached (what is shared counts as often as it is met; a slice's spare places count too). A statement '..UptoSaid' is the law's where the arguments, and the package variables that the reading takes, are together of bulk at most 1048576: NARROWER than '..Said'. Prove '..Said' where nothing that the law and all that it calls make is longer than what came in: it says more and counts as full. Else prove '..UptoSaid'. A law counts once. -/
mutual
def uptoBulk {H : Type} : DataW H → Nat
  | .lit (.string bytes) => bytes.length + 1
  | .lit _ => 1
  | .nil => 1
  | .ptr d => uptoBulk d + 1
  | .slice elems spare => uptoBulkAll elems + uptoBulkAll spare + 1
  | .agg parts => uptoBulkAll parts + 1
  | .iface _ d => uptoBulk d + 1
  | .map entries => uptoBulkEntries entries + 1
  | .held _ => 1
def uptoBulkAll {H : Type} : List (DataW H) → Nat
  | [] => 0
  | d :: r => uptoBulk d + uptoBulkAll r
def uptoBulkEntries {H : Type} : List (Lit × DataW H) → Nat
  | [] => 0
  | x :: r => uptoBulkEntry x + uptoBulkEntries r
def uptoBulkEntry {H : Type} : Lit × DataW H → Nat
  | (.string bytes, d) => bytes.length + uptoBulk d + 1
  | (_, d) => uptoBulk d + 1
 end
def uptoSmall : (H : Type) → List (DataW H) → Bool := fun _ ds => decide (uptoBulkAll ds ≤ 1048576)
def OpenSpec.upto (s : _root_.Go.ChangeSpec) : _root_.Go.OpenSpec := { _root_.Go.OpenSpec.ofChange s with cond := some uptoSmall }

/-- 'gladstonelaw45.RangerEncodes', WHERE WHAT IT READS IS OF BULK AT MOST 1048576: true; the input reads as it did. -/
def rangerEncodesUptoRow : OpenClaim := { program := "ytfijcedckpkpfaa", sum := "4825e2a9d08aadde95b80ac8a3e6812d1c8a04b9de2e6c07728e467124b2a78d", func := "gladstone/gladstonelaw45.RangerEncodes", spec := "rangerEncodes", unfollowed := true, recurses := true, apart := false, narrowed := true }
def RangerEncodesUptoSaid : Prop := rangerEncodesUptoRow.holds Try.pinned (OpenSpec.upto rangerEncodesSpec)

/-- 'gladstonelaw45.RangerDecodes', WHERE WHAT IT READS IS OF BULK AT MOST 1048576: true; the input reads as it did. -/
def rangerDecodesUptoRow : OpenClaim := { program := "ytfijcedckpkpfaa", sum := "4825e2a9d08aadde95b80ac8a3e6812d1c8a04b9de2e6c07728e467124b2a78d", func := "gladstone/gladstonelaw45.RangerDecodes", spec := "rangerDecodes", unfollowed := true, recurses := true, apart := false, narrowed := true }
def RangerDecodesUptoSaid : Prop := rangerDecodesUptoRow.holds Try.pinned (OpenSpec.upto rangerDecodesSpec)

/-- 'gladstonelaw45.RangerBack', WHERE WHAT IT READS IS OF BULK AT MOST 1048576: true; the input reads as it did. -/
def rangerBackUptoRow : OpenClaim := { program := "ytfijcedckpkpfaa", sum := "4825e2a9d08aadde95b80ac8a3e6812d1c8a04b9de2e6c07728e467124b2a78d", func := "gladstone/gladstonelaw45.RangerBack", spec := "rangerBack", unfollowed := true, recurses := true, apart := false, narrowed := true }
def RangerBackUptoSaid : Prop := rangerBackUptoRow.holds Try.pinned (OpenSpec.upto rangerBackSpec)

/-- 'gladstonelaw45.RangerNone', WHERE WHAT IT READS IS OF BULK AT MOST 1048576: true; the input reads as it did. -/
def rangerNoneUptoRow : OpenClaim := { program := "ytfijcedckpkpfaa", sum := "4825e2a9d08aadde95b80ac8a3e6812d1c8a04b9de2e6c07728e467124b2a78d", func := "gladstone/gladstonelaw45.RangerNone", spec := "rangerNone", unfollowed := true, recurses := true, apart := false, narrowed := true }
def RangerNoneUptoSaid : Prop := rangerNoneUptoRow.holds Try.pinned (OpenSpec.upto rangerNoneSpec)

end Rows
end Go.Proofs.Ytfijcedckpkpfaa
