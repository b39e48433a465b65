/-
  DERIVED. GIVEN WITH THE SEED: THE CARDS: each row of YtkpkfihaihoaeaaGreatDoorRows.lean that lists a variable, with what it lists TIED to the program's text (the seventh form; the later family's looks); each row that meets fmt, with fmt's text TOLD by the authors' own Lean function (tested against real Go, not proved from fmt's source: count such statements apart). THE CARD IS WHAT COUNTS. Prove the row's statement (the work); the ties are given (YtkpkfihaihoaeaaGreatDoorTie.lean); close each card by the builder's one call (the guide's Derived/Test/ToyasCard.lean, 'card_holds'). Laid BY PROGRAM, IN A SANDBOX (cutbox-door.mjs). By AI agents, Wed Nov 11 2026. No macro, syntax, notation, axiom, sorry.
-/
import Derived.Test.YtkpkfihaihoaeaaGreatDoorRows
import GoSem.ClaimSeven
namespace Go.Proofs.YtkpkfihaihoaeaaGreatDoor
namespace Rows

/-- THE TIED CARD OF 'laws.FnExactValidState'. -/
def fnExactValidStateCard : Claim7 := { stood := { row := fnExactValidStateRow, standIns := [], harness := (true, "d42665e04f85bbf8b8164f7baa8d0ba6e0e9aaa1e345cfafd6cc16a9fe257f89"), looks := false }, kinds := [], alts := [], laidByText := true, laidKinds := [.data, .data, .data], laidTests := true, laidLooks := .later }
def FnExactValidStateCardSaid : Prop := Claim7.holds Tryz.pinned (.plain (OpenSpec.ofChange fnExactValidStateSpec)) fnExactValidStateCard

/-- THE TIED CARD OF 'laws.FnExactOrder'. -/
def fnExactOrderCard : Claim7 := { stood := { row := fnExactOrderRow, standIns := [], harness := (true, "d42665e04f85bbf8b8164f7baa8d0ba6e0e9aaa1e345cfafd6cc16a9fe257f89"), looks := false }, kinds := [], alts := [], laidByText := true, laidKinds := [.data, .data, .data], laidTests := true, laidLooks := .later }
def FnExactOrderCardSaid : Prop := Claim7.holds Tryz.pinned (.plain (OpenSpec.ofChange fnExactOrderSpec)) fnExactOrderCard

/-- THE TIED CARD OF 'laws.FnExactReady'. -/
def fnExactReadyCard : Claim7 := { stood := { row := fnExactReadyRow, standIns := [], harness := (true, "d42665e04f85bbf8b8164f7baa8d0ba6e0e9aaa1e345cfafd6cc16a9fe257f89"), looks := false }, kinds := [], alts := [], laidByText := true, laidKinds := [.data, .data, .data], laidTests := true, laidLooks := .later }
def FnExactReadyCardSaid : Prop := Claim7.holds Tryz.pinned (.plain (OpenSpec.ofChange fnExactReadySpec)) fnExactReadyCard

/-- THE TIED CARD OF 'laws.FnExactClean'. -/
def fnExactCleanCard : Claim7 := { stood := { row := fnExactCleanRow, standIns := [], harness := (true, "d42665e04f85bbf8b8164f7baa8d0ba6e0e9aaa1e345cfafd6cc16a9fe257f89"), looks := false }, kinds := [], alts := [], laidByText := true, laidKinds := [.data, .data, .data], laidTests := true, laidLooks := .later }
def FnExactCleanCardSaid : Prop := Claim7.holds Tryz.pinned (.plain (OpenSpec.ofChange fnExactCleanSpec)) fnExactCleanCard

/-- THE TIED CARD OF 'laws.FnExactWhy'. -/
def fnExactWhyCard : Claim7 := { stood := { row := fnExactWhyRow, standIns := [], harness := (true, "d42665e04f85bbf8b8164f7baa8d0ba6e0e9aaa1e345cfafd6cc16a9fe257f89"), looks := false }, kinds := [], alts := [], laidByText := true, laidKinds := [.data, .data, .data], laidTests := true, laidLooks := .later }
def FnExactWhyCardSaid : Prop := Claim7.holds Tryz.pinned (.plain (OpenSpec.ofChange fnExactWhySpec)) fnExactWhyCard

/-- THE TIED CARD OF 'laws.FnExactWaits'. -/
def fnExactWaitsCard : Claim7 := { stood := { row := fnExactWaitsRow, standIns := [], harness := (true, "d42665e04f85bbf8b8164f7baa8d0ba6e0e9aaa1e345cfafd6cc16a9fe257f89"), looks := false }, kinds := [], alts := [], laidByText := true, laidKinds := [.data, .data, .data], laidTests := true, laidLooks := .later }
def FnExactWaitsCardSaid : Prop := Claim7.holds Tryz.pinned (.plain (OpenSpec.ofChange fnExactWaitsSpec)) fnExactWaitsCard

/-- THE TIED CARD OF 'laws.FnExactDo'. -/
def fnExactDoCard : Claim7 := { stood := { row := fnExactDoRow, standIns := [], harness := (true, "d42665e04f85bbf8b8164f7baa8d0ba6e0e9aaa1e345cfafd6cc16a9fe257f89"), looks := false }, kinds := [], alts := [], laidByText := true, laidKinds := [.data, .data, .data], laidTests := true, laidLooks := .later }
def FnExactDoCardSaid : Prop := Claim7.holds Tryz.pinned (.plain (OpenSpec.ofChange fnExactDoSpec)) fnExactDoCard

/-- THE TIED CARD OF 'laws.FnExactStuck'. -/
def fnExactStuckCard : Claim7 := { stood := { row := fnExactStuckRow, standIns := [], harness := (true, "d42665e04f85bbf8b8164f7baa8d0ba6e0e9aaa1e345cfafd6cc16a9fe257f89"), looks := false }, kinds := [], alts := [], laidByText := true, laidKinds := [.data, .data, .data], laidTests := true, laidLooks := .later }
def FnExactStuckCardSaid : Prop := Claim7.holds Tryz.pinned (.plain (OpenSpec.ofChange fnExactStuckSpec)) fnExactStuckCard

/-- THE TIED CARD OF 'laws.FnExactCircle'. -/
def fnExactCircleCard : Claim7 := { stood := { row := fnExactCircleRow, standIns := [], harness := (true, "d42665e04f85bbf8b8164f7baa8d0ba6e0e9aaa1e345cfafd6cc16a9fe257f89"), looks := false }, kinds := [], alts := [], laidByText := true, laidKinds := [.data, .data, .data], laidTests := true, laidLooks := .later }
def FnExactCircleCardSaid : Prop := Claim7.holds Tryz.pinned (.plain (OpenSpec.ofChange fnExactCircleSpec)) fnExactCircleCard

/-- THE TIED CARD OF 'laws.FnExactUses'. -/
def fnExactUsesCard : Claim7 := { stood := { row := fnExactUsesRow, standIns := [], harness := (true, "d42665e04f85bbf8b8164f7baa8d0ba6e0e9aaa1e345cfafd6cc16a9fe257f89"), looks := false }, kinds := [], alts := [], laidByText := true, laidKinds := [.data, .data, .data], laidTests := true, laidLooks := .later }
def FnExactUsesCardSaid : Prop := Claim7.holds Tryz.pinned (.plain (OpenSpec.ofChange fnExactUsesSpec)) fnExactUsesCard

/-- THE TIED CARD OF 'laws.FnExactTold'. -/
def fnExactToldCard : Claim7 := { stood := { row := fnExactToldRow, standIns := [], harness := (true, "d42665e04f85bbf8b8164f7baa8d0ba6e0e9aaa1e345cfafd6cc16a9fe257f89"), looks := false }, kinds := [], alts := [], laidByText := true, laidKinds := [.data, .data, .data], laidTests := true, laidLooks := .later }
def FnExactToldCardSaid : Prop := Claim7.holds Tryz.pinned (.plain (OpenSpec.ofChange fnExactToldSpec)) fnExactToldCard

/-- THE TIED CARD OF 'laws.FnExactWork'. -/
def fnExactWorkCard : Claim7 := { stood := { row := fnExactWorkRow, standIns := [], harness := (true, "d42665e04f85bbf8b8164f7baa8d0ba6e0e9aaa1e345cfafd6cc16a9fe257f89"), looks := false }, kinds := [], alts := [], laidByText := true, laidKinds := [.data, .data, .data], laidTests := true, laidLooks := .later }
def FnExactWorkCardSaid : Prop := Claim7.holds Tryz.pinned (.plain (OpenSpec.ofChange fnExactWorkSpec)) fnExactWorkCard

/-- THE SECOND FORM's CARD OF 'laws.FnExactValidState'. -/
def fnExactValidStateUptoCard : Claim7 := { stood := { row := fnExactValidStateUptoRow, standIns := [], harness := (true, "d42665e04f85bbf8b8164f7baa8d0ba6e0e9aaa1e345cfafd6cc16a9fe257f89"), looks := false }, kinds := [], alts := [], laidByText := true, laidKinds := [.data, .data, .data], laidTests := true, laidLooks := .later }
def FnExactValidStateUptoCardSaid : Prop := Claim7.holds Tryz.pinned (.plain (OpenSpec.upto fnExactValidStateSpec)) fnExactValidStateUptoCard

/-- THE SECOND FORM's CARD OF 'laws.FnExactOrder'. -/
def fnExactOrderUptoCard : Claim7 := { stood := { row := fnExactOrderUptoRow, standIns := [], harness := (true, "d42665e04f85bbf8b8164f7baa8d0ba6e0e9aaa1e345cfafd6cc16a9fe257f89"), looks := false }, kinds := [], alts := [], laidByText := true, laidKinds := [.data, .data, .data], laidTests := true, laidLooks := .later }
def FnExactOrderUptoCardSaid : Prop := Claim7.holds Tryz.pinned (.plain (OpenSpec.upto fnExactOrderSpec)) fnExactOrderUptoCard

/-- THE SECOND FORM's CARD OF 'laws.FnExactReady'. -/
def fnExactReadyUptoCard : Claim7 := { stood := { row := fnExactReadyUptoRow, standIns := [], harness := (true, "d42665e04f85bbf8b8164f7baa8d0ba6e0e9aaa1e345cfafd6cc16a9fe257f89"), looks := false }, kinds := [], alts := [], laidByText := true, laidKinds := [.data, .data, .data], laidTests := true, laidLooks := .later }
def FnExactReadyUptoCardSaid : Prop := Claim7.holds Tryz.pinned (.plain (OpenSpec.upto fnExactReadySpec)) fnExactReadyUptoCard

/-- THE SECOND FORM's CARD OF 'laws.FnExactClean'. -/
def fnExactCleanUptoCard : Claim7 := { stood := { row := fnExactCleanUptoRow, standIns := [], harness := (true, "d42665e04f85bbf8b8164f7baa8d0ba6e0e9aaa1e345cfafd6cc16a9fe257f89"), looks := false }, kinds := [], alts := [], laidByText := true, laidKinds := [.data, .data, .data], laidTests := true, laidLooks := .later }
def FnExactCleanUptoCardSaid : Prop := Claim7.holds Tryz.pinned (.plain (OpenSpec.upto fnExactCleanSpec)) fnExactCleanUptoCard

/-- THE SECOND FORM's CARD OF 'laws.FnExactWhy'. -/
def fnExactWhyUptoCard : Claim7 := { stood := { row := fnExactWhyUptoRow, standIns := [], harness := (true, "d42665e04f85bbf8b8164f7baa8d0ba6e0e9aaa1e345cfafd6cc16a9fe257f89"), looks := false }, kinds := [], alts := [], laidByText := true, laidKinds := [.data, .data, .data], laidTests := true, laidLooks := .later }
def FnExactWhyUptoCardSaid : Prop := Claim7.holds Tryz.pinned (.plain (OpenSpec.upto fnExactWhySpec)) fnExactWhyUptoCard

/-- THE SECOND FORM's CARD OF 'laws.FnExactWaits'. -/
def fnExactWaitsUptoCard : Claim7 := { stood := { row := fnExactWaitsUptoRow, standIns := [], harness := (true, "d42665e04f85bbf8b8164f7baa8d0ba6e0e9aaa1e345cfafd6cc16a9fe257f89"), looks := false }, kinds := [], alts := [], laidByText := true, laidKinds := [.data, .data, .data], laidTests := true, laidLooks := .later }
def FnExactWaitsUptoCardSaid : Prop := Claim7.holds Tryz.pinned (.plain (OpenSpec.upto fnExactWaitsSpec)) fnExactWaitsUptoCard

/-- THE SECOND FORM's CARD OF 'laws.FnExactDo'. -/
def fnExactDoUptoCard : Claim7 := { stood := { row := fnExactDoUptoRow, standIns := [], harness := (true, "d42665e04f85bbf8b8164f7baa8d0ba6e0e9aaa1e345cfafd6cc16a9fe257f89"), looks := false }, kinds := [], alts := [], laidByText := true, laidKinds := [.data, .data, .data], laidTests := true, laidLooks := .later }
def FnExactDoUptoCardSaid : Prop := Claim7.holds Tryz.pinned (.plain (OpenSpec.upto fnExactDoSpec)) fnExactDoUptoCard

/-- THE SECOND FORM's CARD OF 'laws.FnExactStuck'. -/
def fnExactStuckUptoCard : Claim7 := { stood := { row := fnExactStuckUptoRow, standIns := [], harness := (true, "d42665e04f85bbf8b8164f7baa8d0ba6e0e9aaa1e345cfafd6cc16a9fe257f89"), looks := false }, kinds := [], alts := [], laidByText := true, laidKinds := [.data, .data, .data], laidTests := true, laidLooks := .later }
def FnExactStuckUptoCardSaid : Prop := Claim7.holds Tryz.pinned (.plain (OpenSpec.upto fnExactStuckSpec)) fnExactStuckUptoCard

/-- THE SECOND FORM's CARD OF 'laws.FnExactCircle'. -/
def fnExactCircleUptoCard : Claim7 := { stood := { row := fnExactCircleUptoRow, standIns := [], harness := (true, "d42665e04f85bbf8b8164f7baa8d0ba6e0e9aaa1e345cfafd6cc16a9fe257f89"), looks := false }, kinds := [], alts := [], laidByText := true, laidKinds := [.data, .data, .data], laidTests := true, laidLooks := .later }
def FnExactCircleUptoCardSaid : Prop := Claim7.holds Tryz.pinned (.plain (OpenSpec.upto fnExactCircleSpec)) fnExactCircleUptoCard

/-- THE SECOND FORM's CARD OF 'laws.FnExactUses'. -/
def fnExactUsesUptoCard : Claim7 := { stood := { row := fnExactUsesUptoRow, standIns := [], harness := (true, "d42665e04f85bbf8b8164f7baa8d0ba6e0e9aaa1e345cfafd6cc16a9fe257f89"), looks := false }, kinds := [], alts := [], laidByText := true, laidKinds := [.data, .data, .data], laidTests := true, laidLooks := .later }
def FnExactUsesUptoCardSaid : Prop := Claim7.holds Tryz.pinned (.plain (OpenSpec.upto fnExactUsesSpec)) fnExactUsesUptoCard

/-- THE SECOND FORM's CARD OF 'laws.FnExactTold'. -/
def fnExactToldUptoCard : Claim7 := { stood := { row := fnExactToldUptoRow, standIns := [], harness := (true, "d42665e04f85bbf8b8164f7baa8d0ba6e0e9aaa1e345cfafd6cc16a9fe257f89"), looks := false }, kinds := [], alts := [], laidByText := true, laidKinds := [.data, .data, .data], laidTests := true, laidLooks := .later }
def FnExactToldUptoCardSaid : Prop := Claim7.holds Tryz.pinned (.plain (OpenSpec.upto fnExactToldSpec)) fnExactToldUptoCard

/-- THE SECOND FORM's CARD OF 'laws.FnExactWork'. -/
def fnExactWorkUptoCard : Claim7 := { stood := { row := fnExactWorkUptoRow, standIns := [], harness := (true, "d42665e04f85bbf8b8164f7baa8d0ba6e0e9aaa1e345cfafd6cc16a9fe257f89"), looks := false }, kinds := [], alts := [], laidByText := true, laidKinds := [.data, .data, .data], laidTests := true, laidLooks := .later }
def FnExactWorkUptoCardSaid : Prop := Claim7.holds Tryz.pinned (.plain (OpenSpec.upto fnExactWorkSpec)) fnExactWorkUptoCard
end Rows
end Go.Proofs.YtkpkfihaihoaeaaGreatDoor
