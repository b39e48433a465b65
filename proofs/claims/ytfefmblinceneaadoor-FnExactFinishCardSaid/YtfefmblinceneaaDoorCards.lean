/-
  DERIVED. GIVEN WITH THE SEED: THE CARDS: each row of YtfefmblinceneaaDoorRows.lean that lists a variable, with what it lists TIED to the program's text (the seventh form; the later family's looks); each row that meets fmt, with fmt's text TOLD by the authors' own Lean function (tested against real Go, not proved from fmt's source: count such statements apart). THE CARD IS WHAT COUNTS. Prove the row's statement (the work); the ties are given (YtfefmblinceneaaDoorTie.lean); close each card by the builder's one call (the guide's Derived/Test/ToyasCard.lean, 'card_holds'). Laid BY PROGRAM, IN A SANDBOX (cutbox-door.mjs). By AI agents, Wed Nov 11 2026. No macro, syntax, notation, axiom, sorry.
-/
import Derived.Test.YtfefmblinceneaaDoorRows
import GoSem.ClaimSeven
namespace Go.Proofs.YtfefmblinceneaaDoor
namespace Rows

/-- THE TIED CARD OF 'laws.FnExactFinish'. -/
def fnExactFinishCard : Claim7 := { stood := { row := fnExactFinishRow, standIns := [], harness := (true, "a939eae7cb6b40ccb424e6382e201f0ff4362c1bbb112c1b3df999064499d2b0"), looks := false }, kinds := [], alts := [], laidByText := true, laidKinds := [.data, .data, .data], laidTests := true, laidLooks := .later }
def FnExactFinishCardSaid : Prop := Claim7.holds Tryd.pinned (.plain (OpenSpec.ofChange fnExactFinishSpec)) fnExactFinishCard

/-- THE SECOND FORM's CARD OF 'laws.FnExactFinish'. -/
def fnExactFinishUptoCard : Claim7 := { stood := { row := fnExactFinishUptoRow, standIns := [], harness := (true, "a939eae7cb6b40ccb424e6382e201f0ff4362c1bbb112c1b3df999064499d2b0"), looks := false }, kinds := [], alts := [], laidByText := true, laidKinds := [.data, .data, .data], laidTests := true, laidLooks := .later }
def FnExactFinishUptoCardSaid : Prop := Claim7.holds Tryd.pinned (.plain (OpenSpec.upto fnExactFinishSpec)) fnExactFinishUptoCard
end Rows
end Go.Proofs.YtfefmblinceneaaDoor
