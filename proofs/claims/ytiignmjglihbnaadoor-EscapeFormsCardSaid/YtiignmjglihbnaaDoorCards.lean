/-
  DERIVED. GIVEN WITH THE SEED: THE CARDS: each row of YtiignmjglihbnaaDoorRows.lean that lists a variable, with what it lists TIED to the program's text (the seventh form; the later family's looks); each row that meets fmt, with fmt's text TOLD by the authors' own Lean function (tested against real Go, not proved from fmt's source: count such statements apart). THE CARD IS WHAT COUNTS. Prove the row's statement (the work); the ties are given (YtiignmjglihbnaaDoorTie.lean); close each card by the builder's one call (the guide's Derived/Test/ToyasCard.lean, 'card_holds'). Laid BY PROGRAM, IN A SANDBOX (cutbox-door.mjs). By AI agents, Wed Nov 11 2026. No macro, syntax, notation, axiom, sorry.
-/
import Derived.Test.YtiignmjglihbnaaDoorRows
import GoSem.ClaimSeven
namespace Go.Proofs.YtiignmjglihbnaaDoor
namespace Rows

/-- THE TIED CARD OF 'cruciblelaw10.EscapeQuotes'. -/
def escapeQuotesCard : Claim7 := { stood := { row := escapeQuotesRow, standIns := [], harness := (true, "88ba1e76edaf26cf3d76ac2fda71126322d5252d30e31e7be63d9017134df180"), looks := true }, kinds := [], alts := [], laidByText := true, laidKinds := [.widerDeep], laidTests := true, laidLooks := .later }
def EscapeQuotesCardSaid : Prop := Claim7.holds Tryd.pinned (.plain (OpenSpec.ofChange escapeQuotesSpec)) escapeQuotesCard

/-- THE TIED CARD OF 'cruciblelaw10.EscapeScans'. -/
def escapeScansCard : Claim7 := { stood := { row := escapeScansRow, standIns := [], harness := (true, "88ba1e76edaf26cf3d76ac2fda71126322d5252d30e31e7be63d9017134df180"), looks := true }, kinds := [], alts := [], laidByText := true, laidKinds := [.handle, .sentinel, .sentinel, .sentinel, .sentinel, .sentinel, .sentinel, .sentinel, .sentinel, .sentinel, .sentinel, .sentinel, .widerDeep], laidTests := true, laidLooks := .later }
def EscapeScansCardSaid : Prop := Claim7.holds Tryd.pinned (.plain (OpenSpec.ofChange escapeScansSpec)) escapeScansCard

/-- THE TIED CARD OF 'cruciblelaw10.EscapeUnquotes'. -/
def escapeUnquotesCard : Claim7 := { stood := { row := escapeUnquotesRow, standIns := [], harness := (true, "88ba1e76edaf26cf3d76ac2fda71126322d5252d30e31e7be63d9017134df180"), looks := true }, kinds := [], alts := [], laidByText := true, laidKinds := [.handle, .sentinel, .sentinel, .sentinel, .sentinel, .sentinel, .sentinel, .sentinel, .sentinel, .sentinel, .sentinel, .sentinel, .widerDeep], laidTests := true, laidLooks := .later }
def EscapeUnquotesCardSaid : Prop := Claim7.holds Tryd.pinned (.plain (OpenSpec.ofChange escapeUnquotesSpec)) escapeUnquotesCard

/-- THE TIED CARD OF 'cruciblelaw10.EscapeBack'. -/
def escapeBackCard : Claim7 := { stood := { row := escapeBackRow, standIns := [], harness := (true, "88ba1e76edaf26cf3d76ac2fda71126322d5252d30e31e7be63d9017134df180"), looks := true }, kinds := [], alts := [], laidByText := true, laidKinds := [.handle, .sentinel, .sentinel, .sentinel, .sentinel, .sentinel, .sentinel, .sentinel, .sentinel, .sentinel, .sentinel, .sentinel, .widerDeep], laidTests := true, laidLooks := .later }
def EscapeBackCardSaid : Prop := Claim7.holds Tryd.pinned (.plain (OpenSpec.ofChange escapeBackSpec)) escapeBackCard

/-- THE TIED CARD OF 'cruciblelaw10.EscapeForms'. -/
def escapeFormsCard : Claim7 := { stood := { row := escapeFormsRow, standIns := [], harness := (true, "88ba1e76edaf26cf3d76ac2fda71126322d5252d30e31e7be63d9017134df180"), looks := true }, kinds := [], alts := [], laidByText := true, laidKinds := [.handle, .sentinel, .sentinel, .sentinel, .sentinel, .sentinel, .sentinel, .sentinel, .sentinel, .sentinel, .sentinel, .sentinel, .widerDeep], laidTests := true, laidLooks := .later }
def EscapeFormsCardSaid : Prop := Claim7.holds Tryd.pinned (.plain (OpenSpec.ofChange escapeFormsSpec)) escapeFormsCard

/-- THE TIED CARD OF 'cruciblelaw10.EscapeWithin'. -/
def escapeWithinCard : Claim7 := { stood := { row := escapeWithinRow, standIns := [], harness := (true, "88ba1e76edaf26cf3d76ac2fda71126322d5252d30e31e7be63d9017134df180"), looks := true }, kinds := [], alts := [], laidByText := true, laidKinds := [.handle, .sentinel, .sentinel, .sentinel, .sentinel, .sentinel, .sentinel, .sentinel, .sentinel, .sentinel, .sentinel, .sentinel, .widerDeep], laidTests := true, laidLooks := .later }
def EscapeWithinCardSaid : Prop := Claim7.holds Tryd.pinned (.plain (OpenSpec.ofChange escapeWithinSpec)) escapeWithinCard

/-- THE TIED CARD OF 'cruciblelaw10.EscapePlaces'. -/
def escapePlacesCard : Claim7 := { stood := { row := escapePlacesRow, standIns := [], harness := (true, "88ba1e76edaf26cf3d76ac2fda71126322d5252d30e31e7be63d9017134df180"), looks := true }, kinds := [], alts := [], laidByText := true, laidKinds := [.handle, .sentinel, .sentinel, .sentinel, .sentinel, .sentinel, .sentinel, .sentinel, .sentinel, .sentinel, .sentinel, .sentinel, .widerDeep], laidTests := true, laidLooks := .later }
def EscapePlacesCardSaid : Prop := Claim7.holds Tryd.pinned (.plain (OpenSpec.ofChange escapePlacesSpec)) escapePlacesCard

/-- THE SECOND FORM's CARD OF 'cruciblelaw10.EscapeQuotes'. -/
def escapeQuotesUptoCard : Claim7 := { stood := { row := escapeQuotesUptoRow, standIns := [], harness := (true, "88ba1e76edaf26cf3d76ac2fda71126322d5252d30e31e7be63d9017134df180"), looks := true }, kinds := [], alts := [], laidByText := true, laidKinds := [.widerDeep], laidTests := true, laidLooks := .later }
def EscapeQuotesUptoCardSaid : Prop := Claim7.holds Tryd.pinned (.plain (OpenSpec.upto escapeQuotesSpec)) escapeQuotesUptoCard

/-- THE SECOND FORM's CARD OF 'cruciblelaw10.EscapeScans'. -/
def escapeScansUptoCard : Claim7 := { stood := { row := escapeScansUptoRow, standIns := [], harness := (true, "88ba1e76edaf26cf3d76ac2fda71126322d5252d30e31e7be63d9017134df180"), looks := true }, kinds := [], alts := [], laidByText := true, laidKinds := [.handle, .sentinel, .sentinel, .sentinel, .sentinel, .sentinel, .sentinel, .sentinel, .sentinel, .sentinel, .sentinel, .sentinel, .widerDeep], laidTests := true, laidLooks := .later }
def EscapeScansUptoCardSaid : Prop := Claim7.holds Tryd.pinned (.plain (OpenSpec.upto escapeScansSpec)) escapeScansUptoCard

/-- THE SECOND FORM's CARD OF 'cruciblelaw10.EscapeUnquotes'. -/
def escapeUnquotesUptoCard : Claim7 := { stood := { row := escapeUnquotesUptoRow, standIns := [], harness := (true, "88ba1e76edaf26cf3d76ac2fda71126322d5252d30e31e7be63d9017134df180"), looks := true }, kinds := [], alts := [], laidByText := true, laidKinds := [.handle, .sentinel, .sentinel, .sentinel, .sentinel, .sentinel, .sentinel, .sentinel, .sentinel, .sentinel, .sentinel, .sentinel, .widerDeep], laidTests := true, laidLooks := .later }
def EscapeUnquotesUptoCardSaid : Prop := Claim7.holds Tryd.pinned (.plain (OpenSpec.upto escapeUnquotesSpec)) escapeUnquotesUptoCard

/-- THE SECOND FORM's CARD OF 'cruciblelaw10.EscapeBack'. -/
def escapeBackUptoCard : Claim7 := { stood := { row := escapeBackUptoRow, standIns := [], harness := (true, "88ba1e76edaf26cf3d76ac2fda71126322d5252d30e31e7be63d9017134df180"), looks := true }, kinds := [], alts := [], laidByText := true, laidKinds := [.handle, .sentinel, .sentinel, .sentinel, .sentinel, .sentinel, .sentinel, .sentinel, .sentinel, .sentinel, .sentinel, .sentinel, .widerDeep], laidTests := true, laidLooks := .later }
def EscapeBackUptoCardSaid : Prop := Claim7.holds Tryd.pinned (.plain (OpenSpec.upto escapeBackSpec)) escapeBackUptoCard

/-- THE SECOND FORM's CARD OF 'cruciblelaw10.EscapeForms'. -/
def escapeFormsUptoCard : Claim7 := { stood := { row := escapeFormsUptoRow, standIns := [], harness := (true, "88ba1e76edaf26cf3d76ac2fda71126322d5252d30e31e7be63d9017134df180"), looks := true }, kinds := [], alts := [], laidByText := true, laidKinds := [.handle, .sentinel, .sentinel, .sentinel, .sentinel, .sentinel, .sentinel, .sentinel, .sentinel, .sentinel, .sentinel, .sentinel, .widerDeep], laidTests := true, laidLooks := .later }
def EscapeFormsUptoCardSaid : Prop := Claim7.holds Tryd.pinned (.plain (OpenSpec.upto escapeFormsSpec)) escapeFormsUptoCard

/-- THE SECOND FORM's CARD OF 'cruciblelaw10.EscapeWithin'. -/
def escapeWithinUptoCard : Claim7 := { stood := { row := escapeWithinUptoRow, standIns := [], harness := (true, "88ba1e76edaf26cf3d76ac2fda71126322d5252d30e31e7be63d9017134df180"), looks := true }, kinds := [], alts := [], laidByText := true, laidKinds := [.handle, .sentinel, .sentinel, .sentinel, .sentinel, .sentinel, .sentinel, .sentinel, .sentinel, .sentinel, .sentinel, .sentinel, .widerDeep], laidTests := true, laidLooks := .later }
def EscapeWithinUptoCardSaid : Prop := Claim7.holds Tryd.pinned (.plain (OpenSpec.upto escapeWithinSpec)) escapeWithinUptoCard

/-- THE SECOND FORM's CARD OF 'cruciblelaw10.EscapePlaces'. -/
def escapePlacesUptoCard : Claim7 := { stood := { row := escapePlacesUptoRow, standIns := [], harness := (true, "88ba1e76edaf26cf3d76ac2fda71126322d5252d30e31e7be63d9017134df180"), looks := true }, kinds := [], alts := [], laidByText := true, laidKinds := [.handle, .sentinel, .sentinel, .sentinel, .sentinel, .sentinel, .sentinel, .sentinel, .sentinel, .sentinel, .sentinel, .sentinel, .widerDeep], laidTests := true, laidLooks := .later }
def EscapePlacesUptoCardSaid : Prop := Claim7.holds Tryd.pinned (.plain (OpenSpec.upto escapePlacesSpec)) escapePlacesUptoCard
end Rows
end Go.Proofs.YtiignmjglihbnaaDoor
