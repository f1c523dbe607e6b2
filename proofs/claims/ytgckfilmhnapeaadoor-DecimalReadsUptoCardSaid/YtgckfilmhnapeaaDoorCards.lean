/-
  DERIVED. GIVEN WITH THE SEED: THE CARDS: each row of YtgckfilmhnapeaaDoorRows.lean that lists a variable, with what it lists TIED to the program's text (the seventh form; the later family's looks); each row that meets fmt, with fmt's text TOLD by the authors' own Lean function (tested against real Go, not proved from fmt's source: count such statements apart). THE CARD IS WHAT COUNTS. Prove the row's statement (the work); the ties are given (YtgckfilmhnapeaaDoorTie.lean); close each card by the builder's one call (the guide's Derived/Test/ToyasCard.lean, 'card_holds'). Laid BY PROGRAM, IN A SANDBOX (cutbox-door.mjs). By AI agents, Wed Nov 11 2026. No macro, syntax, notation, axiom, sorry.
-/
import Derived.Test.YtgckfilmhnapeaaDoorRows
import GoSem.ClaimSeven
namespace Go.Proofs.YtgckfilmhnapeaaDoor
namespace Rows

/-- THE TIED CARD OF 'cruciblelaw07.DecimalCompares'. -/
def decimalComparesCard : Claim7 := { stood := { row := decimalComparesRow, standIns := [], harness := (true, "e5882869645b0872ae6e3159ca1edd71af327c643380cf5412e9f81bbbc908a0"), looks := false }, kinds := [], alts := [], laidByText := true, laidKinds := [.data, .pinned], laidTests := true, laidLooks := .later }
def DecimalComparesCardSaid : Prop := Claim7.holds Tryd.pinned (.plain (OpenSpec.ofChange decimalComparesSpec)) decimalComparesCard

/-- THE TIED CARD OF 'cruciblelaw07.DecimalExacts'. -/
def decimalExactsCard : Claim7 := { stood := { row := decimalExactsRow, standIns := [], harness := (true, "e5882869645b0872ae6e3159ca1edd71af327c643380cf5412e9f81bbbc908a0"), looks := false }, kinds := [], alts := [], laidByText := true, laidKinds := [.data, .data, .data, .data, .pinned], laidTests := true, laidLooks := .later }
def DecimalExactsCardSaid : Prop := Claim7.holds Tryd.pinned (.plain (OpenSpec.ofChange decimalExactsSpec)) decimalExactsCard

/-- THE TIED CARD OF 'cruciblelaw07.DecimalReads'. -/
def decimalReadsCard : Claim7 := { stood := { row := decimalReadsRow, standIns := [], harness := (true, "e5882869645b0872ae6e3159ca1edd71af327c643380cf5412e9f81bbbc908a0"), looks := false }, kinds := [], alts := [], laidByText := true, laidKinds := [.data, .data, .data, .pinned], laidTests := true, laidLooks := .later }
def DecimalReadsCardSaid : Prop := Claim7.holds Tryd.pinned (.plain (OpenSpec.ofChange decimalReadsSpec)) decimalReadsCard

/-- THE TIED CARD OF 'cruciblelaw07.DecimalNoughts'. -/
def decimalNoughtsCard : Claim7 := { stood := { row := decimalNoughtsRow, standIns := [], harness := (true, "e5882869645b0872ae6e3159ca1edd71af327c643380cf5412e9f81bbbc908a0"), looks := false }, kinds := [], alts := [], laidByText := true, laidKinds := [.data, .data, .data, .data, .pinned], laidTests := true, laidLooks := .later }
def DecimalNoughtsCardSaid : Prop := Claim7.holds Tryd.pinned (.plain (OpenSpec.ofChange decimalNoughtsSpec)) decimalNoughtsCard

/-- THE TIED CARD OF 'cruciblelaw07.DecimalSorted'. -/
def decimalSortedCard : Claim7 := { stood := { row := decimalSortedRow, standIns := [], harness := (true, "e5882869645b0872ae6e3159ca1edd71af327c643380cf5412e9f81bbbc908a0"), looks := false }, kinds := [], alts := [], laidByText := true, laidKinds := [.data, .data, .data, .data, .pinned], laidTests := true, laidLooks := .later }
def DecimalSortedCardSaid : Prop := Claim7.holds Tryd.pinned (.plain (OpenSpec.ofChange decimalSortedSpec)) decimalSortedCard

/-- THE TIED CARD OF 'cruciblelaw07.DecimalBehind'. -/
def decimalBehindCard : Claim7 := { stood := { row := decimalBehindRow, standIns := [], harness := (true, "e5882869645b0872ae6e3159ca1edd71af327c643380cf5412e9f81bbbc908a0"), looks := false }, kinds := [], alts := [], laidByText := true, laidKinds := [.data, .data, .data, .data, .pinned], laidTests := true, laidLooks := .later }
def DecimalBehindCardSaid : Prop := Claim7.holds Tryd.pinned (.plain (OpenSpec.ofChange decimalBehindSpec)) decimalBehindCard

/-- THE TIED CARD OF 'cruciblelaw07.DecimalNearest'. -/
def decimalNearestCard : Claim7 := { stood := { row := decimalNearestRow, standIns := [], harness := (true, "e5882869645b0872ae6e3159ca1edd71af327c643380cf5412e9f81bbbc908a0"), looks := false }, kinds := [], alts := [], laidByText := true, laidKinds := [.data, .data, .data, .data, .pinned], laidTests := true, laidLooks := .later }
def DecimalNearestCardSaid : Prop := Claim7.holds Tryd.pinned (.plain (OpenSpec.ofChange decimalNearestSpec)) decimalNearestCard

/-- THE SECOND FORM's CARD OF 'cruciblelaw07.DecimalCompares'. -/
def decimalComparesUptoCard : Claim7 := { stood := { row := decimalComparesUptoRow, standIns := [], harness := (true, "e5882869645b0872ae6e3159ca1edd71af327c643380cf5412e9f81bbbc908a0"), looks := false }, kinds := [], alts := [], laidByText := true, laidKinds := [.data, .pinned], laidTests := true, laidLooks := .later }
def DecimalComparesUptoCardSaid : Prop := Claim7.holds Tryd.pinned (.plain (OpenSpec.upto decimalComparesSpec)) decimalComparesUptoCard

/-- THE SECOND FORM's CARD OF 'cruciblelaw07.DecimalExacts'. -/
def decimalExactsUptoCard : Claim7 := { stood := { row := decimalExactsUptoRow, standIns := [], harness := (true, "e5882869645b0872ae6e3159ca1edd71af327c643380cf5412e9f81bbbc908a0"), looks := false }, kinds := [], alts := [], laidByText := true, laidKinds := [.data, .data, .data, .data, .pinned], laidTests := true, laidLooks := .later }
def DecimalExactsUptoCardSaid : Prop := Claim7.holds Tryd.pinned (.plain (OpenSpec.upto decimalExactsSpec)) decimalExactsUptoCard

/-- THE SECOND FORM's CARD OF 'cruciblelaw07.DecimalReads'. -/
def decimalReadsUptoCard : Claim7 := { stood := { row := decimalReadsUptoRow, standIns := [], harness := (true, "e5882869645b0872ae6e3159ca1edd71af327c643380cf5412e9f81bbbc908a0"), looks := false }, kinds := [], alts := [], laidByText := true, laidKinds := [.data, .data, .data, .pinned], laidTests := true, laidLooks := .later }
def DecimalReadsUptoCardSaid : Prop := Claim7.holds Tryd.pinned (.plain (OpenSpec.upto decimalReadsSpec)) decimalReadsUptoCard

/-- THE SECOND FORM's CARD OF 'cruciblelaw07.DecimalNoughts'. -/
def decimalNoughtsUptoCard : Claim7 := { stood := { row := decimalNoughtsUptoRow, standIns := [], harness := (true, "e5882869645b0872ae6e3159ca1edd71af327c643380cf5412e9f81bbbc908a0"), looks := false }, kinds := [], alts := [], laidByText := true, laidKinds := [.data, .data, .data, .data, .pinned], laidTests := true, laidLooks := .later }
def DecimalNoughtsUptoCardSaid : Prop := Claim7.holds Tryd.pinned (.plain (OpenSpec.upto decimalNoughtsSpec)) decimalNoughtsUptoCard

/-- THE SECOND FORM's CARD OF 'cruciblelaw07.DecimalSorted'. -/
def decimalSortedUptoCard : Claim7 := { stood := { row := decimalSortedUptoRow, standIns := [], harness := (true, "e5882869645b0872ae6e3159ca1edd71af327c643380cf5412e9f81bbbc908a0"), looks := false }, kinds := [], alts := [], laidByText := true, laidKinds := [.data, .data, .data, .data, .pinned], laidTests := true, laidLooks := .later }
def DecimalSortedUptoCardSaid : Prop := Claim7.holds Tryd.pinned (.plain (OpenSpec.upto decimalSortedSpec)) decimalSortedUptoCard

/-- THE SECOND FORM's CARD OF 'cruciblelaw07.DecimalBehind'. -/
def decimalBehindUptoCard : Claim7 := { stood := { row := decimalBehindUptoRow, standIns := [], harness := (true, "e5882869645b0872ae6e3159ca1edd71af327c643380cf5412e9f81bbbc908a0"), looks := false }, kinds := [], alts := [], laidByText := true, laidKinds := [.data, .data, .data, .data, .pinned], laidTests := true, laidLooks := .later }
def DecimalBehindUptoCardSaid : Prop := Claim7.holds Tryd.pinned (.plain (OpenSpec.upto decimalBehindSpec)) decimalBehindUptoCard

/-- THE SECOND FORM's CARD OF 'cruciblelaw07.DecimalNearest'. -/
def decimalNearestUptoCard : Claim7 := { stood := { row := decimalNearestUptoRow, standIns := [], harness := (true, "e5882869645b0872ae6e3159ca1edd71af327c643380cf5412e9f81bbbc908a0"), looks := false }, kinds := [], alts := [], laidByText := true, laidKinds := [.data, .data, .data, .data, .pinned], laidTests := true, laidLooks := .later }
def DecimalNearestUptoCardSaid : Prop := Claim7.holds Tryd.pinned (.plain (OpenSpec.upto decimalNearestSpec)) decimalNearestUptoCard
end Rows
end Go.Proofs.YtgckfilmhnapeaaDoor
