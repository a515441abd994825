/-
  DERIVED. GIVEN WITH THE SEED: THE CARDS: each row of YtglilpigoocgeaaGreatDoorRows.lean that lists a variable, with what it lists TIED to the program's text (the seventh form; the later family's looks); each row that meets fmt, with fmt's text TOLD by the authors' own Lean function (tested against real Go, not proved from fmt's source: count such statements apart). THE CARD IS WHAT COUNTS. Prove the row's statement (the work); the ties are given (YtglilpigoocgeaaGreatDoorTie.lean); close each card by the builder's one call (the guide's Derived/Test/ToyasCard.lean, 'card_holds'). Laid BY PROGRAM, IN A SANDBOX (cutbox-door.mjs). By AI agents, Wed Nov 11 2026. No macro, syntax, notation, axiom, sorry.
-/
import Derived.Test.YtglilpigoocgeaaGreatDoorRows
import GoSem.ClaimSeven
namespace Go.Proofs.YtglilpigoocgeaaGreatDoor
namespace Rows

/-- THE TIED CARD OF 'laws.FnExactStartAt'. -/
def fnExactStartAtCard : Claim7 := { stood := { row := fnExactStartAtRow, standIns := [], harness := (true, "917b3fa12477713f36afe6b490e36cbcdd584fca6a1d5d1b92cc0575095cc2ff"), looks := false }, kinds := [], alts := [], laidByText := true, laidKinds := [.data, .pinned], laidTests := true, laidLooks := .later }
def FnExactStartAtCardSaid : Prop := Claim7.holds Tryz.pinned (.plain (OpenSpec.ofChange fnExactStartAtSpec)) fnExactStartAtCard

/-- THE SECOND FORM's CARD OF 'laws.FnExactStartAt'. -/
def fnExactStartAtUptoCard : Claim7 := { stood := { row := fnExactStartAtUptoRow, standIns := [], harness := (true, "917b3fa12477713f36afe6b490e36cbcdd584fca6a1d5d1b92cc0575095cc2ff"), looks := false }, kinds := [], alts := [], laidByText := true, laidKinds := [.data, .pinned], laidTests := true, laidLooks := .later }
def FnExactStartAtUptoCardSaid : Prop := Claim7.holds Tryz.pinned (.plain (OpenSpec.upto fnExactStartAtSpec)) fnExactStartAtUptoCard
end Rows
end Go.Proofs.YtglilpigoocgeaaGreatDoor
