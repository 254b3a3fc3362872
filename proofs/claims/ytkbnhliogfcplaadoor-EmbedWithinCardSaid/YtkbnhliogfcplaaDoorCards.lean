/-
  DERIVED. GIVEN WITH THE SEED: THE CARDS: each row of YtkbnhliogfcplaaDoorRows.lean that lists a variable, with what it lists TIED to the program's text (the seventh form; the later family's looks); each row that meets fmt, with fmt's text TOLD by the authors' own Lean function (tested against real Go, not proved from fmt's source: count such statements apart). THE CARD IS WHAT COUNTS. Prove the row's statement (the work); the ties are given (YtkbnhliogfcplaaDoorTie.lean); close each card by the builder's one call (the guide's Derived/Test/ToyasCard.lean, 'card_holds'). Laid BY PROGRAM, IN A SANDBOX (cutbox-door.mjs). By AI agents, Wed Nov 11 2026. No macro, syntax, notation, axiom, sorry.
-/
import Derived.Test.YtkbnhliogfcplaaDoorRows
import GoSem.ClaimSeven
namespace Go.Proofs.YtkbnhliogfcplaaDoor
namespace Rows

/-- THE TIED CARD OF 'ferrymanlaw08.EmbedRanges'. -/
def embedRangesCard : Claim7 := { stood := { row := embedRangesRow, standIns := [], harness := (true, "3469146600ab8a648211d9da940bb2167aef66d77c08a1e048648ce454489489"), looks := false }, kinds := [], alts := [], laidByText := true, laidKinds := [.data, .data, .data], laidTests := true, laidLooks := .later }
def EmbedRangesCardSaid : Prop := Claim7.holds Tryd.pinned (.plain (OpenSpec.ofChange embedRangesSpec)) embedRangesCard

/-- THE TIED CARD OF 'ferrymanlaw08.EmbedWithin'. -/
def embedWithinCard : Claim7 := { stood := { row := embedWithinRow, standIns := [], harness := (true, "3469146600ab8a648211d9da940bb2167aef66d77c08a1e048648ce454489489"), looks := false }, kinds := [], alts := [], laidByText := true, laidKinds := [.data, .data, .data], laidTests := true, laidLooks := .later }
def EmbedWithinCardSaid : Prop := Claim7.holds Tryd.pinned (.plain (OpenSpec.ofChange embedWithinSpec)) embedWithinCard

/-- THE TIED CARD OF 'ferrymanlaw08.EmbedGlobals'. -/
def embedGlobalsCard : Claim7 := { stood := { row := embedGlobalsRow, standIns := [], harness := (true, "3469146600ab8a648211d9da940bb2167aef66d77c08a1e048648ce454489489"), looks := false }, kinds := [], alts := [], laidByText := true, laidKinds := [.data, .data, .data], laidTests := true, laidLooks := .later }
def EmbedGlobalsCardSaid : Prop := Claim7.holds Tryd.pinned (.plain (OpenSpec.ofChange embedGlobalsSpec)) embedGlobalsCard

/-- THE TIED CARD OF 'ferrymanlaw08.EmbedPuts'. -/
def embedPutsCard : Claim7 := { stood := { row := embedPutsRow, standIns := [], harness := (true, "3469146600ab8a648211d9da940bb2167aef66d77c08a1e048648ce454489489"), looks := false }, kinds := [], alts := [], laidByText := true, laidKinds := [.data, .data, .data], laidTests := true, laidLooks := .later }
def EmbedPutsCardSaid : Prop := Claim7.holds Tryd.pinned (.plain (OpenSpec.ofChange embedPutsSpec)) embedPutsCard

/-- THE TIED CARD OF 'ferrymanlaw08.EmbedGets'. -/
def embedGetsCard : Claim7 := { stood := { row := embedGetsRow, standIns := [], harness := (true, "3469146600ab8a648211d9da940bb2167aef66d77c08a1e048648ce454489489"), looks := false }, kinds := [], alts := [], laidByText := true, laidKinds := [.data, .data, .data], laidTests := true, laidLooks := .later }
def EmbedGetsCardSaid : Prop := Claim7.holds Tryd.pinned (.plain (OpenSpec.ofChange embedGetsSpec)) embedGetsCard

/-- THE TIED CARD OF 'ferrymanlaw08.EmbedBack'. -/
def embedBackCard : Claim7 := { stood := { row := embedBackRow, standIns := [], harness := (true, "3469146600ab8a648211d9da940bb2167aef66d77c08a1e048648ce454489489"), looks := false }, kinds := [], alts := [], laidByText := true, laidKinds := [.data, .data, .data], laidTests := true, laidLooks := .later }
def EmbedBackCardSaid : Prop := Claim7.holds Tryd.pinned (.plain (OpenSpec.ofChange embedBackSpec)) embedBackCard

/-- THE SECOND FORM's CARD OF 'ferrymanlaw08.EmbedRanges'. -/
def embedRangesUptoCard : Claim7 := { stood := { row := embedRangesUptoRow, standIns := [], harness := (true, "3469146600ab8a648211d9da940bb2167aef66d77c08a1e048648ce454489489"), looks := false }, kinds := [], alts := [], laidByText := true, laidKinds := [.data, .data, .data], laidTests := true, laidLooks := .later }
def EmbedRangesUptoCardSaid : Prop := Claim7.holds Tryd.pinned (.plain (OpenSpec.upto embedRangesSpec)) embedRangesUptoCard

/-- THE SECOND FORM's CARD OF 'ferrymanlaw08.EmbedWithin'. -/
def embedWithinUptoCard : Claim7 := { stood := { row := embedWithinUptoRow, standIns := [], harness := (true, "3469146600ab8a648211d9da940bb2167aef66d77c08a1e048648ce454489489"), looks := false }, kinds := [], alts := [], laidByText := true, laidKinds := [.data, .data, .data], laidTests := true, laidLooks := .later }
def EmbedWithinUptoCardSaid : Prop := Claim7.holds Tryd.pinned (.plain (OpenSpec.upto embedWithinSpec)) embedWithinUptoCard

/-- THE SECOND FORM's CARD OF 'ferrymanlaw08.EmbedGlobals'. -/
def embedGlobalsUptoCard : Claim7 := { stood := { row := embedGlobalsUptoRow, standIns := [], harness := (true, "3469146600ab8a648211d9da940bb2167aef66d77c08a1e048648ce454489489"), looks := false }, kinds := [], alts := [], laidByText := true, laidKinds := [.data, .data, .data], laidTests := true, laidLooks := .later }
def EmbedGlobalsUptoCardSaid : Prop := Claim7.holds Tryd.pinned (.plain (OpenSpec.upto embedGlobalsSpec)) embedGlobalsUptoCard

/-- THE SECOND FORM's CARD OF 'ferrymanlaw08.EmbedPuts'. -/
def embedPutsUptoCard : Claim7 := { stood := { row := embedPutsUptoRow, standIns := [], harness := (true, "3469146600ab8a648211d9da940bb2167aef66d77c08a1e048648ce454489489"), looks := false }, kinds := [], alts := [], laidByText := true, laidKinds := [.data, .data, .data], laidTests := true, laidLooks := .later }
def EmbedPutsUptoCardSaid : Prop := Claim7.holds Tryd.pinned (.plain (OpenSpec.upto embedPutsSpec)) embedPutsUptoCard

/-- THE SECOND FORM's CARD OF 'ferrymanlaw08.EmbedGets'. -/
def embedGetsUptoCard : Claim7 := { stood := { row := embedGetsUptoRow, standIns := [], harness := (true, "3469146600ab8a648211d9da940bb2167aef66d77c08a1e048648ce454489489"), looks := false }, kinds := [], alts := [], laidByText := true, laidKinds := [.data, .data, .data], laidTests := true, laidLooks := .later }
def EmbedGetsUptoCardSaid : Prop := Claim7.holds Tryd.pinned (.plain (OpenSpec.upto embedGetsSpec)) embedGetsUptoCard

/-- THE SECOND FORM's CARD OF 'ferrymanlaw08.EmbedBack'. -/
def embedBackUptoCard : Claim7 := { stood := { row := embedBackUptoRow, standIns := [], harness := (true, "3469146600ab8a648211d9da940bb2167aef66d77c08a1e048648ce454489489"), looks := false }, kinds := [], alts := [], laidByText := true, laidKinds := [.data, .data, .data], laidTests := true, laidLooks := .later }
def EmbedBackUptoCardSaid : Prop := Claim7.holds Tryd.pinned (.plain (OpenSpec.upto embedBackSpec)) embedBackUptoCard
end Rows
end Go.Proofs.YtkbnhliogfcplaaDoor
