/-
  DERIVED. GIVEN WITH THE SEED: THE CARDS: each row of YtlfhkoajmjfbpaaDoorRows.lean that lists a variable, with what it lists TIED to the program's text (the seventh form; the later family's looks); each row that meets fmt, with fmt's text TOLD by the authors' own Lean function (tested against real Go, not proved from fmt's source: count such statements apart). THE CARD IS WHAT COUNTS. Prove the row's statement (the work); the ties are given (YtlfhkoajmjfbpaaDoorTie.lean); close each card by the builder's one call (the guide's Derived/Test/ToyasCard.lean, 'card_holds'). Laid BY PROGRAM, IN A SANDBOX (cutbox-door.mjs). By AI agents, Wed Nov 11 2026. No macro, syntax, notation, axiom, sorry.
-/
import Derived.Test.YtlfhkoajmjfbpaaDoorRows
import GoSem.ClaimSeven
namespace Go.Proofs.YtlfhkoajmjfbpaaDoor
namespace Rows

/-- THE TIED CARD OF 'ferrymanlaw10.MappingEdges'. -/
def mappingEdgesCard : Claim7 := { stood := { row := mappingEdgesRow, standIns := [], harness := (true, "55f7b0de1282a77de9fe55d57d9ebffdfd12b5eb867d109fa3e09de72e3b9cc9"), looks := false }, kinds := [], alts := [], laidByText := true, laidKinds := [.data, .data, .data], laidTests := true, laidLooks := .later }
def MappingEdgesCardSaid : Prop := Claim7.holds Tryd.pinned (.plain (OpenSpec.ofChange mappingEdgesSpec)) mappingEdgesCard

/-- THE TIED CARD OF 'ferrymanlaw10.MappingRules'. -/
def mappingRulesCard : Claim7 := { stood := { row := mappingRulesRow, standIns := [], harness := (true, "55f7b0de1282a77de9fe55d57d9ebffdfd12b5eb867d109fa3e09de72e3b9cc9"), looks := false }, kinds := [], alts := [], laidByText := true, laidKinds := [.data, .data, .data], laidTests := true, laidLooks := .later }
def MappingRulesCardSaid : Prop := Claim7.holds Tryd.pinned (.plain (OpenSpec.ofChange mappingRulesSpec)) mappingRulesCard

/-- THE TIED CARD OF 'ferrymanlaw10.MappingApart'. -/
def mappingApartCard : Claim7 := { stood := { row := mappingApartRow, standIns := [], harness := (true, "55f7b0de1282a77de9fe55d57d9ebffdfd12b5eb867d109fa3e09de72e3b9cc9"), looks := false }, kinds := [], alts := [], laidByText := true, laidKinds := [.data, .data, .data], laidTests := true, laidLooks := .later }
def MappingApartCardSaid : Prop := Claim7.holds Tryd.pinned (.plain (OpenSpec.ofChange mappingApartSpec)) mappingApartCard

/-- THE TIED CARD OF 'ferrymanlaw10.MappingFinds'. -/
def mappingFindsCard : Claim7 := { stood := { row := mappingFindsRow, standIns := [], harness := (true, "55f7b0de1282a77de9fe55d57d9ebffdfd12b5eb867d109fa3e09de72e3b9cc9"), looks := false }, kinds := [], alts := [], laidByText := true, laidKinds := [.data, .data, .data], laidTests := true, laidLooks := .later }
def MappingFindsCardSaid : Prop := Claim7.holds Tryd.pinned (.plain (OpenSpec.ofChange mappingFindsSpec)) mappingFindsCard

/-- THE TIED CARD OF 'ferrymanlaw10.MappingOwns'. -/
def mappingOwnsCard : Claim7 := { stood := { row := mappingOwnsRow, standIns := [], harness := (true, "55f7b0de1282a77de9fe55d57d9ebffdfd12b5eb867d109fa3e09de72e3b9cc9"), looks := false }, kinds := [], alts := [], laidByText := true, laidKinds := [.data, .data, .data], laidTests := true, laidLooks := .later }
def MappingOwnsCardSaid : Prop := Claim7.holds Tryd.pinned (.plain (OpenSpec.ofChange mappingOwnsSpec)) mappingOwnsCard

/-- THE TIED CARD OF 'ferrymanlaw10.MappingBack'. -/
def mappingBackCard : Claim7 := { stood := { row := mappingBackRow, standIns := [], harness := (true, "55f7b0de1282a77de9fe55d57d9ebffdfd12b5eb867d109fa3e09de72e3b9cc9"), looks := false }, kinds := [], alts := [], laidByText := true, laidKinds := [.data, .data, .data], laidTests := true, laidLooks := .later }
def MappingBackCardSaid : Prop := Claim7.holds Tryd.pinned (.plain (OpenSpec.ofChange mappingBackSpec)) mappingBackCard

/-- THE TIED CARD OF 'ferrymanlaw10.MappingAll'. -/
def mappingAllCard : Claim7 := { stood := { row := mappingAllRow, standIns := [], harness := (true, "55f7b0de1282a77de9fe55d57d9ebffdfd12b5eb867d109fa3e09de72e3b9cc9"), looks := false }, kinds := [], alts := [], laidByText := true, laidKinds := [.data, .data, .data], laidTests := true, laidLooks := .later }
def MappingAllCardSaid : Prop := Claim7.holds Tryd.pinned (.plain (OpenSpec.ofChange mappingAllSpec)) mappingAllCard

/-- THE SECOND FORM's CARD OF 'ferrymanlaw10.MappingEdges'. -/
def mappingEdgesUptoCard : Claim7 := { stood := { row := mappingEdgesUptoRow, standIns := [], harness := (true, "55f7b0de1282a77de9fe55d57d9ebffdfd12b5eb867d109fa3e09de72e3b9cc9"), looks := false }, kinds := [], alts := [], laidByText := true, laidKinds := [.data, .data, .data], laidTests := true, laidLooks := .later }
def MappingEdgesUptoCardSaid : Prop := Claim7.holds Tryd.pinned (.plain (OpenSpec.upto mappingEdgesSpec)) mappingEdgesUptoCard

/-- THE SECOND FORM's CARD OF 'ferrymanlaw10.MappingRules'. -/
def mappingRulesUptoCard : Claim7 := { stood := { row := mappingRulesUptoRow, standIns := [], harness := (true, "55f7b0de1282a77de9fe55d57d9ebffdfd12b5eb867d109fa3e09de72e3b9cc9"), looks := false }, kinds := [], alts := [], laidByText := true, laidKinds := [.data, .data, .data], laidTests := true, laidLooks := .later }
def MappingRulesUptoCardSaid : Prop := Claim7.holds Tryd.pinned (.plain (OpenSpec.upto mappingRulesSpec)) mappingRulesUptoCard

/-- THE SECOND FORM's CARD OF 'ferrymanlaw10.MappingApart'. -/
def mappingApartUptoCard : Claim7 := { stood := { row := mappingApartUptoRow, standIns := [], harness := (true, "55f7b0de1282a77de9fe55d57d9ebffdfd12b5eb867d109fa3e09de72e3b9cc9"), looks := false }, kinds := [], alts := [], laidByText := true, laidKinds := [.data, .data, .data], laidTests := true, laidLooks := .later }
def MappingApartUptoCardSaid : Prop := Claim7.holds Tryd.pinned (.plain (OpenSpec.upto mappingApartSpec)) mappingApartUptoCard

/-- THE SECOND FORM's CARD OF 'ferrymanlaw10.MappingFinds'. -/
def mappingFindsUptoCard : Claim7 := { stood := { row := mappingFindsUptoRow, standIns := [], harness := (true, "55f7b0de1282a77de9fe55d57d9ebffdfd12b5eb867d109fa3e09de72e3b9cc9"), looks := false }, kinds := [], alts := [], laidByText := true, laidKinds := [.data, .data, .data], laidTests := true, laidLooks := .later }
def MappingFindsUptoCardSaid : Prop := Claim7.holds Tryd.pinned (.plain (OpenSpec.upto mappingFindsSpec)) mappingFindsUptoCard

/-- THE SECOND FORM's CARD OF 'ferrymanlaw10.MappingOwns'. -/
def mappingOwnsUptoCard : Claim7 := { stood := { row := mappingOwnsUptoRow, standIns := [], harness := (true, "55f7b0de1282a77de9fe55d57d9ebffdfd12b5eb867d109fa3e09de72e3b9cc9"), looks := false }, kinds := [], alts := [], laidByText := true, laidKinds := [.data, .data, .data], laidTests := true, laidLooks := .later }
def MappingOwnsUptoCardSaid : Prop := Claim7.holds Tryd.pinned (.plain (OpenSpec.upto mappingOwnsSpec)) mappingOwnsUptoCard

/-- THE SECOND FORM's CARD OF 'ferrymanlaw10.MappingBack'. -/
def mappingBackUptoCard : Claim7 := { stood := { row := mappingBackUptoRow, standIns := [], harness := (true, "55f7b0de1282a77de9fe55d57d9ebffdfd12b5eb867d109fa3e09de72e3b9cc9"), looks := false }, kinds := [], alts := [], laidByText := true, laidKinds := [.data, .data, .data], laidTests := true, laidLooks := .later }
def MappingBackUptoCardSaid : Prop := Claim7.holds Tryd.pinned (.plain (OpenSpec.upto mappingBackSpec)) mappingBackUptoCard

/-- THE SECOND FORM's CARD OF 'ferrymanlaw10.MappingAll'. -/
def mappingAllUptoCard : Claim7 := { stood := { row := mappingAllUptoRow, standIns := [], harness := (true, "55f7b0de1282a77de9fe55d57d9ebffdfd12b5eb867d109fa3e09de72e3b9cc9"), looks := false }, kinds := [], alts := [], laidByText := true, laidKinds := [.data, .data, .data], laidTests := true, laidLooks := .later }
def MappingAllUptoCardSaid : Prop := Claim7.holds Tryd.pinned (.plain (OpenSpec.upto mappingAllSpec)) mappingAllUptoCard
end Rows
end Go.Proofs.YtlfhkoajmjfbpaaDoor
