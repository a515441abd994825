/-
  DERIVED. GIVEN WITH THE SEED: THE CARDS: each row of YtkcpbahcnlhmjaaDoorRows.lean that lists a variable, with what it lists TIED to the program's text (the seventh form; the later family's looks); each row that meets fmt, with fmt's text TOLD by the authors' own Lean function (tested against real Go, not proved from fmt's source: count such statements apart). THE CARD IS WHAT COUNTS. Prove the row's statement (the work); the ties are given (YtkcpbahcnlhmjaaDoorTie.lean); close each card by the builder's one call (the guide's Derived/Test/ToyasCard.lean, 'card_holds'). Laid BY PROGRAM, IN A SANDBOX (cutbox-door.mjs). By AI agents, Wed Nov 11 2026. No macro, syntax, notation, axiom, sorry.
-/
import Derived.Test.YtkcpbahcnlhmjaaDoorRows
import GoSem.ClaimSeven
namespace Go.Proofs.YtkcpbahcnlhmjaaDoor
namespace Rows

/-- THE TIED CARD OF 'laws.FnExactFrameOk'. -/
def fnExactFrameOkCard : Claim7 := { stood := { row := fnExactFrameOkRow, standIns := [], harness := (true, "0d6d22120df214bf8d39076955d42b36673b8a2ebced31e115c81037c0a7f8c6"), looks := false }, kinds := [], alts := [], laidByText := true, laidKinds := [.data, .pinned], laidTests := true, laidLooks := .later }
def FnExactFrameOkCardSaid : Prop := Claim7.holds Tryd.pinned (.plain (OpenSpec.ofChange fnExactFrameOkSpec)) fnExactFrameOkCard

/-- THE TIED CARD OF 'laws.FnExactNearest'. -/
def fnExactNearestCard : Claim7 := { stood := { row := fnExactNearestRow, standIns := [], harness := (true, "0d6d22120df214bf8d39076955d42b36673b8a2ebced31e115c81037c0a7f8c6"), looks := false }, kinds := [], alts := [], laidByText := true, laidKinds := [.data, .pinned], laidTests := true, laidLooks := .later }
def FnExactNearestCardSaid : Prop := Claim7.holds Tryd.pinned (.plain (OpenSpec.ofChange fnExactNearestSpec)) fnExactNearestCard

/-- THE TIED CARD OF 'laws.FnExactFrameText'. -/
def fnExactFrameTextCard : Claim7 := { stood := { row := fnExactFrameTextRow, standIns := [], harness := (true, "0d6d22120df214bf8d39076955d42b36673b8a2ebced31e115c81037c0a7f8c6"), looks := false }, kinds := [], alts := [], laidByText := true, laidKinds := [.data, .pinned], laidTests := true, laidLooks := .later }
def FnExactFrameTextCardSaid : Prop := Claim7.holds Tryd.pinned (.plain (OpenSpec.ofChange fnExactFrameTextSpec)) fnExactFrameTextCard

/-- THE TIED CARD OF 'laws.FnExactJobOk'. -/
def fnExactJobOkCard : Claim7 := { stood := { row := fnExactJobOkRow, standIns := [], harness := (true, "0d6d22120df214bf8d39076955d42b36673b8a2ebced31e115c81037c0a7f8c6"), looks := false }, kinds := [], alts := [], laidByText := true, laidKinds := [.data, .pinned], laidTests := true, laidLooks := .later }
def FnExactJobOkCardSaid : Prop := Claim7.holds Tryd.pinned (.plain (OpenSpec.ofChange fnExactJobOkSpec)) fnExactJobOkCard

/-- THE SECOND FORM's CARD OF 'laws.FnExactFrameOk'. -/
def fnExactFrameOkUptoCard : Claim7 := { stood := { row := fnExactFrameOkUptoRow, standIns := [], harness := (true, "0d6d22120df214bf8d39076955d42b36673b8a2ebced31e115c81037c0a7f8c6"), looks := false }, kinds := [], alts := [], laidByText := true, laidKinds := [.data, .pinned], laidTests := true, laidLooks := .later }
def FnExactFrameOkUptoCardSaid : Prop := Claim7.holds Tryd.pinned (.plain (OpenSpec.upto fnExactFrameOkSpec)) fnExactFrameOkUptoCard

/-- THE SECOND FORM's CARD OF 'laws.FnExactNearest'. -/
def fnExactNearestUptoCard : Claim7 := { stood := { row := fnExactNearestUptoRow, standIns := [], harness := (true, "0d6d22120df214bf8d39076955d42b36673b8a2ebced31e115c81037c0a7f8c6"), looks := false }, kinds := [], alts := [], laidByText := true, laidKinds := [.data, .pinned], laidTests := true, laidLooks := .later }
def FnExactNearestUptoCardSaid : Prop := Claim7.holds Tryd.pinned (.plain (OpenSpec.upto fnExactNearestSpec)) fnExactNearestUptoCard

/-- THE SECOND FORM's CARD OF 'laws.FnExactFrameText'. -/
def fnExactFrameTextUptoCard : Claim7 := { stood := { row := fnExactFrameTextUptoRow, standIns := [], harness := (true, "0d6d22120df214bf8d39076955d42b36673b8a2ebced31e115c81037c0a7f8c6"), looks := false }, kinds := [], alts := [], laidByText := true, laidKinds := [.data, .pinned], laidTests := true, laidLooks := .later }
def FnExactFrameTextUptoCardSaid : Prop := Claim7.holds Tryd.pinned (.plain (OpenSpec.upto fnExactFrameTextSpec)) fnExactFrameTextUptoCard

/-- THE SECOND FORM's CARD OF 'laws.FnExactJobOk'. -/
def fnExactJobOkUptoCard : Claim7 := { stood := { row := fnExactJobOkUptoRow, standIns := [], harness := (true, "0d6d22120df214bf8d39076955d42b36673b8a2ebced31e115c81037c0a7f8c6"), looks := false }, kinds := [], alts := [], laidByText := true, laidKinds := [.data, .pinned], laidTests := true, laidLooks := .later }
def FnExactJobOkUptoCardSaid : Prop := Claim7.holds Tryd.pinned (.plain (OpenSpec.upto fnExactJobOkSpec)) fnExactJobOkUptoCard
end Rows
end Go.Proofs.YtkcpbahcnlhmjaaDoor
