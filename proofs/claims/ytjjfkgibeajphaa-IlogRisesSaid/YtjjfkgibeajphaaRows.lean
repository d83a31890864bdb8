/-
  No cell of these rows narrows 'for every input' (looked for: loops, veiled, ifaces, maps, wideKeys, modest, calm, conditions, laid).
  DERIVED. THE GIVEN ROWS OF THIS SEAT. 3 by the template 'for every input the law returns true; each argument reads behind the call as it read before'; 0 by the template 'total and deterministic' (their statements: YtjjfkgibeajphaaTotals.lean).
  GIVEN WITH THE SEED: the statements are not yours to turn. If you find one false, say at which input.
  Laid BY PROGRAM, IN A SANDBOX (cutbox-rows.mjs): the forced cells as the released guide's own fill.sh prints them over the translation ca828f25a66db790… (all of the seat's roots in one cut). By AI agents, Wed Nov 11 2026. No macro, syntax, notation, axiom, sorry.
-/
import Derived.Test.YtjjfkgibeajphaaChecked
import GoSem.Claim
import GoSem.ClaimJoined
import GoSem.ClaimMapViews
import Derived.JoinedTies
import Derived.KernelRfl
namespace Go.Proofs.Ytjjfkgibeajphaa
/- THE CELL 'sum', in the pinned program and in every row, IS THE sha256 OF THE DUMP (.gsa) THAT YtjjfkgibeajphaaProg.lean LOADS. Nothing in Lean hashes anything: it is a label: what it is worth is what the hold of that sum in a sandbox is worth. -/
noncomputable def Try.pinned : Pinned := { name := "ytjjfkgibeajphaa", sum := "ca828f25a66db790b9a4d6c0ad15f6584fa7eddb575706a26f5888f1d4b8d561", checked := Try.checked }
namespace Rows
def none {H : Type} : Left H := { results := [], args := [] }

/-- 'gladstonelaw52.IlogLogs': WHATEVER THE INPUT: true; the input reads as it did. -/
def ilogLogsSpec : ChangeSpec := { name := "ilogLogs", fn := fun _ => fun
  | [d] => { results := [.lit (.bool true)], args := [d] }
  | _ => none }
def ilogLogsRow : OpenClaim := { program := "ytjjfkgibeajphaa", sum := "ca828f25a66db790b9a4d6c0ad15f6584fa7eddb575706a26f5888f1d4b8d561", func := "gladstone/gladstonelaw52.IlogLogs", spec := "ilogLogs", apart := false }
def IlogLogsSaid : Prop := ilogLogsRow.holds Try.pinned (OpenSpec.ofChange ilogLogsSpec)

/-- ITS FALSE NEIGHBOUR: 'it returns false'. Refute it at one input. -/
def ilogLogsWrong : ChangeSpec := { name := "ilogLogs", fn := fun _ => fun
  | [d] => { results := [.lit (.bool false)], args := [d] }
  | _ => none }
def IlogLogsWrongFalsely : Prop := ilogLogsRow.holds Try.pinned (OpenSpec.ofChange ilogLogsWrong)

/-- 'gladstonelaw52.IlogEntropies': WHATEVER THE INPUT: true; the input reads as it did. -/
def ilogEntropiesSpec : ChangeSpec := { name := "ilogEntropies", fn := fun _ => fun
  | [d] => { results := [.lit (.bool true)], args := [d] }
  | _ => none }
def ilogEntropiesRow : OpenClaim := { program := "ytjjfkgibeajphaa", sum := "ca828f25a66db790b9a4d6c0ad15f6584fa7eddb575706a26f5888f1d4b8d561", func := "gladstone/gladstonelaw52.IlogEntropies", spec := "ilogEntropies", apart := false }
def IlogEntropiesSaid : Prop := ilogEntropiesRow.holds Try.pinned (OpenSpec.ofChange ilogEntropiesSpec)

/-- ITS FALSE NEIGHBOUR: 'it returns false'. Refute it at one input. -/
def ilogEntropiesWrong : ChangeSpec := { name := "ilogEntropies", fn := fun _ => fun
  | [d] => { results := [.lit (.bool false)], args := [d] }
  | _ => none }
def IlogEntropiesWrongFalsely : Prop := ilogEntropiesRow.holds Try.pinned (OpenSpec.ofChange ilogEntropiesWrong)

/-- 'gladstonelaw52.IlogRises': WHATEVER THE INPUT: true; the input reads as it did. -/
def ilogRisesSpec : ChangeSpec := { name := "ilogRises", fn := fun _ => fun
  | [d1, d2] => { results := [.lit (.bool true)], args := [d1, d2] }
  | _ => none }
def ilogRisesRow : OpenClaim := { program := "ytjjfkgibeajphaa", sum := "ca828f25a66db790b9a4d6c0ad15f6584fa7eddb575706a26f5888f1d4b8d561", func := "gladstone/gladstonelaw52.IlogRises", spec := "ilogRises", apart := false }
def IlogRisesSaid : Prop := ilogRisesRow.holds Try.pinned (OpenSpec.ofChange ilogRisesSpec)

/-- ITS FALSE NEIGHBOUR: 'it returns false'. Refute it at one input. -/
def ilogRisesWrong : ChangeSpec := { name := "ilogRises", fn := fun _ => fun
  | [d1, d2] => { results := [.lit (.bool false)], args := [d1, d2] }
  | _ => none }
def IlogRisesWrongFalsely : Prop := ilogRisesRow.holds Try.pinned (OpenSpec.ofChange ilogRisesWrong)

/- THE SECOND FORM. 'bulk': how many values and letters a reading holds, each counted each time it is reached (what is shared counts as often as it is met; a slice's spare places count too). A statement '..UptoSaid' is the law's where the arguments, and the package variables that the reading takes, are together of bulk at most 1048576: NARROWER than '..Said'. Prove '..Said' where nothing that the law and all that it calls make is longer than what came in: it says more and counts as full. Else prove '..UptoSaid'. A law counts once. -/
mutual
def uptoBulk {H : Type} : DataW H → Nat
  | .lit (.string bytes) => bytes.length + 1
  | .lit _ => 1
  | .nil => 1
  | .ptr d => uptoBulk d + 1
  | .slice elems spare => uptoBulkAll elems + uptoBulkAll spare + 1
  | .agg parts => uptoBulkAll parts + 1
  | .iface _ d => uptoBulk d + 1
  | .map entries => uptoBulkEntries entries + 1
  | .held _ => 1
def uptoBulkAll {H : Type} : List (DataW H) → Nat
  | [] => 0
  | d :: r => uptoBulk d + uptoBulkAll r
def uptoBulkEntries {H : Type} : List (Lit × DataW H) → Nat
  | [] => 0
  | x :: r => uptoBulkEntry x + uptoBulkEntries r
def uptoBulkEntry {H : Type} : Lit × DataW H → Nat
  | (.string bytes, d) => bytes.length + uptoBulk d + 1
  | (_, d) => uptoBulk d + 1
 end
def uptoSmall : (H : Type) → List (DataW H) → Bool := fun _ ds => decide (uptoBulkAll ds ≤ 1048576)
def OpenSpec.upto (s : _root_.Go.ChangeSpec) : _root_.Go.OpenSpec := { _root_.Go.OpenSpec.ofChange s with cond := some uptoSmall }

/-- 'gladstonelaw52.IlogLogs', WHERE WHAT IT READS IS OF BULK AT MOST 1048576: true; the input reads as it did. -/
def ilogLogsUptoRow : OpenClaim := { program := "ytjjfkgibeajphaa", sum := "ca828f25a66db790b9a4d6c0ad15f6584fa7eddb575706a26f5888f1d4b8d561", func := "gladstone/gladstonelaw52.IlogLogs", spec := "ilogLogs", apart := false, narrowed := true }
def IlogLogsUptoSaid : Prop := ilogLogsUptoRow.holds Try.pinned (OpenSpec.upto ilogLogsSpec)

/-- 'gladstonelaw52.IlogEntropies', WHERE WHAT IT READS IS OF BULK AT MOST 1048576: true; the input reads as it did. -/
def ilogEntropiesUptoRow : OpenClaim := { program := "ytjjfkgibeajphaa", sum := "ca828f25a66db790b9a4d6c0ad15f6584fa7eddb575706a26f5888f1d4b8d561", func := "gladstone/gladstonelaw52.IlogEntropies", spec := "ilogEntropies", apart := false, narrowed := true }
def IlogEntropiesUptoSaid : Prop := ilogEntropiesUptoRow.holds Try.pinned (OpenSpec.upto ilogEntropiesSpec)

/-- 'gladstonelaw52.IlogRises', WHERE WHAT IT READS IS OF BULK AT MOST 1048576: true; the input reads as it did. -/
def ilogRisesUptoRow : OpenClaim := { program := "ytjjfkgibeajphaa", sum := "ca828f25a66db790b9a4d6c0ad15f6584fa7eddb575706a26f5888f1d4b8d561", func := "gladstone/gladstonelaw52.IlogRises", spec := "ilogRises", apart := false, narrowed := true }
def IlogRisesUptoSaid : Prop := ilogRisesUptoRow.holds Try.pinned (OpenSpec.upto ilogRisesSpec)

end Rows
end Go.Proofs.Ytjjfkgibeajphaa
