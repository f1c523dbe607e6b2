/-
  DERIVED. GIVEN WITH THE SEED: THE CARDS: each row of YtgckfilmhnapeaaGreatDoorRows.lean that lists a variable, with what it lists TIED to the program's text (the seventh form; the later family's looks); each row that meets fmt, with fmt's text TOLD by the authors' own Lean function (tested against real Go, not proved from fmt's source: count such statements apart). THE CARD IS WHAT COUNTS. Prove the row's statement (the work); the ties are given (YtgckfilmhnapeaaGreatDoorTie.lean); close each card by the builder's one call (the guide's Derived/Test/ToyasCard.lean, 'card_holds'). Laid BY PROGRAM, IN A SANDBOX (cutbox-door.mjs). By AI agents, Wed Nov 11 2026. No macro, syntax, notation, axiom, sorry.
-/
import Derived.Test.YtgckfilmhnapeaaGreatDoorRows
import GoSem.ClaimSeven
namespace Go.Proofs.YtgckfilmhnapeaaGreatDoor
namespace Rows

/-- THE TIED CARD OF 'cruciblelaw07.DecimalBack'. -/
def decimalBackCard : Claim7 := { stood := { row := decimalBackRow, standIns := [], harness := (true, "40514a155291744160c668ce3c91a701f8c580058dc8618c7cb77eff215bd97b"), looks := false }, kinds := [], alts := [], laidByText := true, laidKinds := [.data, .data, .data, .data, .pinned], laidTests := true, laidLooks := .later }
def DecimalBackCardSaid : Prop := Claim7.holds Tryz.pinned (.plain (OpenSpec.ofChange decimalBackSpec)) decimalBackCard

/-- THE TIED CARD OF 'cruciblelaw07.DecimalRises'. -/
def decimalRisesCard : Claim7 := { stood := { row := decimalRisesRow, standIns := [], harness := (true, "40514a155291744160c668ce3c91a701f8c580058dc8618c7cb77eff215bd97b"), looks := false }, kinds := [], alts := [], laidByText := true, laidKinds := [.data, .data, .data, .data, .pinned], laidTests := true, laidLooks := .later }
def DecimalRisesCardSaid : Prop := Claim7.holds Tryz.pinned (.plain (OpenSpec.ofChange decimalRisesSpec)) decimalRisesCard

/-- THE TIED CARD OF 'cruciblelaw07.DecimalAgrees'. -/
def decimalAgreesCard : Claim7 := { stood := { row := decimalAgreesRow, standIns := [], harness := (true, "40514a155291744160c668ce3c91a701f8c580058dc8618c7cb77eff215bd97b"), looks := false }, kinds := [], alts := [], laidByText := true, laidKinds := [.data, .data, .data, .data, .pinned], laidTests := true, laidLooks := .later }
def DecimalAgreesCardSaid : Prop := Claim7.holds Tryz.pinned (.plain (OpenSpec.ofChange decimalAgreesSpec)) decimalAgreesCard

/-- THE SECOND FORM's CARD OF 'cruciblelaw07.DecimalBack'. -/
def decimalBackUptoCard : Claim7 := { stood := { row := decimalBackUptoRow, standIns := [], harness := (true, "40514a155291744160c668ce3c91a701f8c580058dc8618c7cb77eff215bd97b"), looks := false }, kinds := [], alts := [], laidByText := true, laidKinds := [.data, .data, .data, .data, .pinned], laidTests := true, laidLooks := .later }
def DecimalBackUptoCardSaid : Prop := Claim7.holds Tryz.pinned (.plain (OpenSpec.upto decimalBackSpec)) decimalBackUptoCard

/-- THE SECOND FORM's CARD OF 'cruciblelaw07.DecimalRises'. -/
def decimalRisesUptoCard : Claim7 := { stood := { row := decimalRisesUptoRow, standIns := [], harness := (true, "40514a155291744160c668ce3c91a701f8c580058dc8618c7cb77eff215bd97b"), looks := false }, kinds := [], alts := [], laidByText := true, laidKinds := [.data, .data, .data, .data, .pinned], laidTests := true, laidLooks := .later }
def DecimalRisesUptoCardSaid : Prop := Claim7.holds Tryz.pinned (.plain (OpenSpec.upto decimalRisesSpec)) decimalRisesUptoCard

/-- THE SECOND FORM's CARD OF 'cruciblelaw07.DecimalAgrees'. -/
def decimalAgreesUptoCard : Claim7 := { stood := { row := decimalAgreesUptoRow, standIns := [], harness := (true, "40514a155291744160c668ce3c91a701f8c580058dc8618c7cb77eff215bd97b"), looks := false }, kinds := [], alts := [], laidByText := true, laidKinds := [.data, .data, .data, .data, .pinned], laidTests := true, laidLooks := .later }
def DecimalAgreesUptoCardSaid : Prop := Claim7.holds Tryz.pinned (.plain (OpenSpec.upto decimalAgreesSpec)) decimalAgreesUptoCard
end Rows
end Go.Proofs.YtgckfilmhnapeaaGreatDoor
