/-
  DERIVED. GIVEN WITH THE SEED: THE CARDS: each row of YtdifgiceallpiaaDoorRows.lean that lists a variable, with what it lists TIED to the program's text (the seventh form; the later family's looks); each row that meets fmt, with fmt's text TOLD by the authors' own Lean function (tested against real Go, not proved from fmt's source: count such statements apart). THE CARD IS WHAT COUNTS. Prove the row's statement (the work); the ties are given (YtdifgiceallpiaaDoorTie.lean); close each card by the builder's one call (the guide's Derived/Test/ToyasCard.lean, 'card_holds'). Laid BY PROGRAM, IN A SANDBOX (cutbox-door.mjs). By AI agents, Wed Nov 11 2026. No macro, syntax, notation, axiom, sorry.
-/
import Derived.Test.YtdifgiceallpiaaDoorRows
import GoSem.ClaimSeven
namespace Go.Proofs.YtdifgiceallpiaaDoor
namespace Rows

/-- THE TIED CARD OF 'gladstonelaw50.SortedPuts'. -/
def sortedPutsCard : Claim7 := { stood := { row := sortedPutsRow, standIns := [], harness := (true, "b6f4b951396e5cd2a28bf26ab57ce96c965c7cd41c1cc28de561d9f28b8e1d56"), looks := true }, kinds := [], alts := [], laidByText := true, laidKinds := [.handle], laidTests := true, laidLooks := .later }
def SortedPutsCardSaid : Prop := Claim7.holds Tryd.pinned (.plain (OpenSpec.ofChange sortedPutsSpec)) sortedPutsCard

/-- THE TIED CARD OF 'gladstonelaw50.SortedBack'. -/
def sortedBackCard : Claim7 := { stood := { row := sortedBackRow, standIns := [], harness := (true, "b6f4b951396e5cd2a28bf26ab57ce96c965c7cd41c1cc28de561d9f28b8e1d56"), looks := true }, kinds := [], alts := [], laidByText := true, laidKinds := [.handle], laidTests := true, laidLooks := .later }
def SortedBackCardSaid : Prop := Claim7.holds Tryd.pinned (.plain (OpenSpec.ofChange sortedBackSpec)) sortedBackCard

/-- THE SECOND FORM's CARD OF 'gladstonelaw50.SortedPuts'. -/
def sortedPutsUptoCard : Claim7 := { stood := { row := sortedPutsUptoRow, standIns := [], harness := (true, "b6f4b951396e5cd2a28bf26ab57ce96c965c7cd41c1cc28de561d9f28b8e1d56"), looks := true }, kinds := [], alts := [], laidByText := true, laidKinds := [.handle], laidTests := true, laidLooks := .later }
def SortedPutsUptoCardSaid : Prop := Claim7.holds Tryd.pinned (.plain (OpenSpec.upto sortedPutsSpec)) sortedPutsUptoCard

/-- THE SECOND FORM's CARD OF 'gladstonelaw50.SortedBack'. -/
def sortedBackUptoCard : Claim7 := { stood := { row := sortedBackUptoRow, standIns := [], harness := (true, "b6f4b951396e5cd2a28bf26ab57ce96c965c7cd41c1cc28de561d9f28b8e1d56"), looks := true }, kinds := [], alts := [], laidByText := true, laidKinds := [.handle], laidTests := true, laidLooks := .later }
def SortedBackUptoCardSaid : Prop := Claim7.holds Tryd.pinned (.plain (OpenSpec.upto sortedBackSpec)) sortedBackUptoCard
end Rows
end Go.Proofs.YtdifgiceallpiaaDoor
