/-
  DERIVED. GIVEN WITH THE SEED: THE CARDS: each row of YtjfeebbhkolmoaaDoorRows.lean that lists a variable, with what it lists TIED to the program's text (the seventh form; the later family's looks); each row that meets fmt, with fmt's text TOLD by the authors' own Lean function (tested against real Go, not proved from fmt's source: count such statements apart). THE CARD IS WHAT COUNTS. Prove the row's statement (the work); the ties are given (YtjfeebbhkolmoaaDoorTie.lean); close each card by the builder's one call (the guide's Derived/Test/ToyasCard.lean, 'card_holds'). Laid BY PROGRAM, IN A SANDBOX (cutbox-door.mjs). By AI agents, Wed Nov 11 2026. No macro, syntax, notation, axiom, sorry.
-/
import Derived.Test.YtjfeebbhkolmoaaDoorRows
import GoSem.ClaimSeven
namespace Go.Proofs.YtjfeebbhkolmoaaDoor
namespace Rows

/-- THE TIED CARD OF 'cruciblelaw16.JsonscanPlays'. -/
def jsonscanPlaysCard : Claim7 := { stood := { row := jsonscanPlaysRow, standIns := [], harness := (true, "b678c450c05bafffd349abe8b1c4a2a74b3a1c0a354209bfae286439fe938f10"), looks := true }, kinds := [], alts := [], laidByText := true, laidKinds := [.handle, .sentinel, .sentinel, .sentinel, .sentinel, .sentinel, .sentinel, .sentinel, .sentinel, .sentinel, .sentinel, .sentinel], laidTests := true, laidLooks := .later }
def JsonscanPlaysCardSaid : Prop := Claim7.holds Tryd.pinned (.plain (OpenSpec.ofChange jsonscanPlaysSpec)) jsonscanPlaysCard

/-- THE TIED CARD OF 'cruciblelaw16.JsonscanNone'. -/
def jsonscanNoneCard : Claim7 := { stood := { row := jsonscanNoneRow, standIns := [], harness := (true, "b678c450c05bafffd349abe8b1c4a2a74b3a1c0a354209bfae286439fe938f10"), looks := true }, kinds := [], alts := [], laidByText := true, laidKinds := [.handle, .sentinel, .sentinel, .sentinel, .sentinel, .sentinel, .sentinel, .sentinel, .sentinel, .sentinel, .sentinel, .sentinel], laidTests := true, laidLooks := .later }
def JsonscanNoneCardSaid : Prop := Claim7.holds Tryd.pinned (.plain (OpenSpec.ofChange jsonscanNoneSpec)) jsonscanNoneCard

/-- THE TIED CARD OF 'cruciblelaw16.JsonscanTells'. -/
def jsonscanTellsCard : Claim7 := { stood := { row := jsonscanTellsRow, standIns := [], harness := (true, "b678c450c05bafffd349abe8b1c4a2a74b3a1c0a354209bfae286439fe938f10"), looks := true }, kinds := [], alts := [], laidByText := true, laidKinds := [.handle, .sentinel, .sentinel, .sentinel, .sentinel, .sentinel, .sentinel, .sentinel, .sentinel, .sentinel, .sentinel, .sentinel], laidTests := true, laidLooks := .later }
def JsonscanTellsCardSaid : Prop := Claim7.holds Tryd.pinned (.plain (OpenSpec.ofChange jsonscanTellsSpec)) jsonscanTellsCard

/-- THE TIED CARD OF 'cruciblelaw16.JsonscanCuts'. -/
def jsonscanCutsCard : Claim7 := { stood := { row := jsonscanCutsRow, standIns := [], harness := (true, "b678c450c05bafffd349abe8b1c4a2a74b3a1c0a354209bfae286439fe938f10"), looks := true }, kinds := [], alts := [], laidByText := true, laidKinds := [.handle, .sentinel, .sentinel, .sentinel, .sentinel, .sentinel, .sentinel, .sentinel, .sentinel, .sentinel, .sentinel, .sentinel], laidTests := true, laidLooks := .later }
def JsonscanCutsCardSaid : Prop := Claim7.holds Tryd.pinned (.plain (OpenSpec.ofChange jsonscanCutsSpec)) jsonscanCutsCard

/-- THE TIED CARD OF 'cruciblelaw16.JsonscanGoes'. -/
def jsonscanGoesCard : Claim7 := { stood := { row := jsonscanGoesRow, standIns := [], harness := (true, "b678c450c05bafffd349abe8b1c4a2a74b3a1c0a354209bfae286439fe938f10"), looks := true }, kinds := [], alts := [], laidByText := true, laidKinds := [.handle, .sentinel, .sentinel, .sentinel, .sentinel, .sentinel, .sentinel, .sentinel, .sentinel, .sentinel, .sentinel, .sentinel], laidTests := true, laidLooks := .later }
def JsonscanGoesCardSaid : Prop := Claim7.holds Tryd.pinned (.plain (OpenSpec.ofChange jsonscanGoesSpec)) jsonscanGoesCard

/-- THE TIED CARD OF 'cruciblelaw16.JsonscanDeep'. -/
def jsonscanDeepCard : Claim7 := { stood := { row := jsonscanDeepRow, standIns := [], harness := (true, "b678c450c05bafffd349abe8b1c4a2a74b3a1c0a354209bfae286439fe938f10"), looks := true }, kinds := [], alts := [], laidByText := true, laidKinds := [.handle, .sentinel, .sentinel, .sentinel, .sentinel, .sentinel, .sentinel, .sentinel, .sentinel, .sentinel, .sentinel, .sentinel], laidTests := true, laidLooks := .later }
def JsonscanDeepCardSaid : Prop := Claim7.holds Tryd.pinned (.plain (OpenSpec.ofChange jsonscanDeepSpec)) jsonscanDeepCard

/-- THE TIED CARD OF 'cruciblelaw16.JsonscanMakes'. -/
def jsonscanMakesCard : Claim7 := { stood := { row := jsonscanMakesRow, standIns := [], harness := (true, "b678c450c05bafffd349abe8b1c4a2a74b3a1c0a354209bfae286439fe938f10"), looks := true }, kinds := [], alts := [], laidByText := true, laidKinds := [.handle, .sentinel, .sentinel, .sentinel, .sentinel, .sentinel, .sentinel, .sentinel, .sentinel, .sentinel, .sentinel, .sentinel, .widerDeep], laidTests := true, laidLooks := .later }
def JsonscanMakesCardSaid : Prop := Claim7.holds Tryd.pinned (.plain (OpenSpec.ofChange jsonscanMakesSpec)) jsonscanMakesCard

/-- THE TIED CARD OF 'cruciblelaw16.JsonscanLiterals'. -/
def jsonscanLiteralsCard : Claim7 := { stood := { row := jsonscanLiteralsRow, standIns := [], harness := (true, "b678c450c05bafffd349abe8b1c4a2a74b3a1c0a354209bfae286439fe938f10"), looks := true }, kinds := [], alts := [], laidByText := true, laidKinds := [.handle, .sentinel, .sentinel, .sentinel, .sentinel, .sentinel, .sentinel, .sentinel, .sentinel, .sentinel, .sentinel, .sentinel, .widerDeep], laidTests := true, laidLooks := .later }
def JsonscanLiteralsCardSaid : Prop := Claim7.holds Tryd.pinned (.plain (OpenSpec.ofChange jsonscanLiteralsSpec)) jsonscanLiteralsCard

/-- THE SECOND FORM's CARD OF 'cruciblelaw16.JsonscanPlays'. -/
def jsonscanPlaysUptoCard : Claim7 := { stood := { row := jsonscanPlaysUptoRow, standIns := [], harness := (true, "b678c450c05bafffd349abe8b1c4a2a74b3a1c0a354209bfae286439fe938f10"), looks := true }, kinds := [], alts := [], laidByText := true, laidKinds := [.handle, .sentinel, .sentinel, .sentinel, .sentinel, .sentinel, .sentinel, .sentinel, .sentinel, .sentinel, .sentinel, .sentinel], laidTests := true, laidLooks := .later }
def JsonscanPlaysUptoCardSaid : Prop := Claim7.holds Tryd.pinned (.plain (OpenSpec.upto jsonscanPlaysSpec)) jsonscanPlaysUptoCard

/-- THE SECOND FORM's CARD OF 'cruciblelaw16.JsonscanNone'. -/
def jsonscanNoneUptoCard : Claim7 := { stood := { row := jsonscanNoneUptoRow, standIns := [], harness := (true, "b678c450c05bafffd349abe8b1c4a2a74b3a1c0a354209bfae286439fe938f10"), looks := true }, kinds := [], alts := [], laidByText := true, laidKinds := [.handle, .sentinel, .sentinel, .sentinel, .sentinel, .sentinel, .sentinel, .sentinel, .sentinel, .sentinel, .sentinel, .sentinel], laidTests := true, laidLooks := .later }
def JsonscanNoneUptoCardSaid : Prop := Claim7.holds Tryd.pinned (.plain (OpenSpec.upto jsonscanNoneSpec)) jsonscanNoneUptoCard

/-- THE SECOND FORM's CARD OF 'cruciblelaw16.JsonscanTells'. -/
def jsonscanTellsUptoCard : Claim7 := { stood := { row := jsonscanTellsUptoRow, standIns := [], harness := (true, "b678c450c05bafffd349abe8b1c4a2a74b3a1c0a354209bfae286439fe938f10"), looks := true }, kinds := [], alts := [], laidByText := true, laidKinds := [.handle, .sentinel, .sentinel, .sentinel, .sentinel, .sentinel, .sentinel, .sentinel, .sentinel, .sentinel, .sentinel, .sentinel], laidTests := true, laidLooks := .later }
def JsonscanTellsUptoCardSaid : Prop := Claim7.holds Tryd.pinned (.plain (OpenSpec.upto jsonscanTellsSpec)) jsonscanTellsUptoCard

/-- THE SECOND FORM's CARD OF 'cruciblelaw16.JsonscanCuts'. -/
def jsonscanCutsUptoCard : Claim7 := { stood := { row := jsonscanCutsUptoRow, standIns := [], harness := (true, "b678c450c05bafffd349abe8b1c4a2a74b3a1c0a354209bfae286439fe938f10"), looks := true }, kinds := [], alts := [], laidByText := true, laidKinds := [.handle, .sentinel, .sentinel, .sentinel, .sentinel, .sentinel, .sentinel, .sentinel, .sentinel, .sentinel, .sentinel, .sentinel], laidTests := true, laidLooks := .later }
def JsonscanCutsUptoCardSaid : Prop := Claim7.holds Tryd.pinned (.plain (OpenSpec.upto jsonscanCutsSpec)) jsonscanCutsUptoCard

/-- THE SECOND FORM's CARD OF 'cruciblelaw16.JsonscanGoes'. -/
def jsonscanGoesUptoCard : Claim7 := { stood := { row := jsonscanGoesUptoRow, standIns := [], harness := (true, "b678c450c05bafffd349abe8b1c4a2a74b3a1c0a354209bfae286439fe938f10"), looks := true }, kinds := [], alts := [], laidByText := true, laidKinds := [.handle, .sentinel, .sentinel, .sentinel, .sentinel, .sentinel, .sentinel, .sentinel, .sentinel, .sentinel, .sentinel, .sentinel], laidTests := true, laidLooks := .later }
def JsonscanGoesUptoCardSaid : Prop := Claim7.holds Tryd.pinned (.plain (OpenSpec.upto jsonscanGoesSpec)) jsonscanGoesUptoCard

/-- THE SECOND FORM's CARD OF 'cruciblelaw16.JsonscanDeep'. -/
def jsonscanDeepUptoCard : Claim7 := { stood := { row := jsonscanDeepUptoRow, standIns := [], harness := (true, "b678c450c05bafffd349abe8b1c4a2a74b3a1c0a354209bfae286439fe938f10"), looks := true }, kinds := [], alts := [], laidByText := true, laidKinds := [.handle, .sentinel, .sentinel, .sentinel, .sentinel, .sentinel, .sentinel, .sentinel, .sentinel, .sentinel, .sentinel, .sentinel], laidTests := true, laidLooks := .later }
def JsonscanDeepUptoCardSaid : Prop := Claim7.holds Tryd.pinned (.plain (OpenSpec.upto jsonscanDeepSpec)) jsonscanDeepUptoCard

/-- THE SECOND FORM's CARD OF 'cruciblelaw16.JsonscanMakes'. -/
def jsonscanMakesUptoCard : Claim7 := { stood := { row := jsonscanMakesUptoRow, standIns := [], harness := (true, "b678c450c05bafffd349abe8b1c4a2a74b3a1c0a354209bfae286439fe938f10"), looks := true }, kinds := [], alts := [], laidByText := true, laidKinds := [.handle, .sentinel, .sentinel, .sentinel, .sentinel, .sentinel, .sentinel, .sentinel, .sentinel, .sentinel, .sentinel, .sentinel, .widerDeep], laidTests := true, laidLooks := .later }
def JsonscanMakesUptoCardSaid : Prop := Claim7.holds Tryd.pinned (.plain (OpenSpec.upto jsonscanMakesSpec)) jsonscanMakesUptoCard

/-- THE SECOND FORM's CARD OF 'cruciblelaw16.JsonscanLiterals'. -/
def jsonscanLiteralsUptoCard : Claim7 := { stood := { row := jsonscanLiteralsUptoRow, standIns := [], harness := (true, "b678c450c05bafffd349abe8b1c4a2a74b3a1c0a354209bfae286439fe938f10"), looks := true }, kinds := [], alts := [], laidByText := true, laidKinds := [.handle, .sentinel, .sentinel, .sentinel, .sentinel, .sentinel, .sentinel, .sentinel, .sentinel, .sentinel, .sentinel, .sentinel, .widerDeep], laidTests := true, laidLooks := .later }
def JsonscanLiteralsUptoCardSaid : Prop := Claim7.holds Tryd.pinned (.plain (OpenSpec.upto jsonscanLiteralsSpec)) jsonscanLiteralsUptoCard
end Rows
end Go.Proofs.YtjfeebbhkolmoaaDoor
