/-
  DERIVED. GIVEN WITH THE SEED: THE CARDS: each row of YteghkajegdcbjaaDoorRows.lean that lists a variable, with what it lists TIED to the program's text (the seventh form; the later family's looks); each row that meets fmt, with fmt's text TOLD by the authors' own Lean function (tested against real Go, not proved from fmt's source: count such statements apart). THE CARD IS WHAT COUNTS. Prove the row's statement (the work); the ties are given (YteghkajegdcbjaaDoorTie.lean); close each card by the builder's one call (the guide's Derived/Test/ToyasCard.lean, 'card_holds'). Laid BY PROGRAM, IN A SANDBOX (cutbox-door.mjs). By AI agents, Wed Nov 11 2026. No macro, syntax, notation, axiom, sorry.
-/
import Derived.Test.YteghkajegdcbjaaDoorRows
import GoSem.ClaimSeven
namespace Go.Proofs.YteghkajegdcbjaaDoor
namespace Rows

/-- THE TIED CARD OF 'samphirelaw11.TreeCompacts'. -/
def treeCompactsCard : Claim7 := { stood := { row := treeCompactsRow, standIns := [], harness := (true, "1169260b83a4887d95a0d2e8d58ef122ab1d914e75010851864198b1c6871b32"), looks := false }, kinds := [], alts := [], laidByText := true, laidKinds := [.data, .pinned], laidTests := true, laidLooks := .later }
def TreeCompactsCardSaid : Prop := Claim7.holds Tryd.pinned (.plain (OpenSpec.ofChange treeCompactsSpec)) treeCompactsCard

/-- THE TIED CARD OF 'samphirelaw11.TreeNobody'. -/
def treeNobodyCard : Claim7 := { stood := { row := treeNobodyRow, standIns := [], harness := (true, "1169260b83a4887d95a0d2e8d58ef122ab1d914e75010851864198b1c6871b32"), looks := false }, kinds := [], alts := [], laidByText := true, laidKinds := [.data, .pinned], laidTests := true, laidLooks := .later }
def TreeNobodyCardSaid : Prop := Claim7.holds Tryd.pinned (.plain (OpenSpec.ofChange treeNobodySpec)) treeNobodyCard

/-- THE TIED CARD OF 'samphirelaw11.TreeOf'. -/
def treeOfCard : Claim7 := { stood := { row := treeOfRow, standIns := [], harness := (true, "1169260b83a4887d95a0d2e8d58ef122ab1d914e75010851864198b1c6871b32"), looks := false }, kinds := [], alts := [], laidByText := true, laidKinds := [.data, .pinned], laidTests := true, laidLooks := .later }
def TreeOfCardSaid : Prop := Claim7.holds Tryd.pinned (.plain (OpenSpec.ofChange treeOfSpec)) treeOfCard

/-- THE TIED CARD OF 'samphirelaw12.ViewBack'. -/
def viewBackCard : Claim7 := { stood := { row := viewBackRow, standIns := [], harness := (true, "1169260b83a4887d95a0d2e8d58ef122ab1d914e75010851864198b1c6871b32"), looks := false }, kinds := [], alts := [], laidByText := true, laidKinds := [.data, .data, .data, .data, .pinned], laidTests := true, laidLooks := .later }
def ViewBackCardSaid : Prop := Claim7.holds Tryd.pinned (.plain (OpenSpec.ofChange viewBackSpec)) viewBackCard

/-- THE TIED CARD OF 'samphirelaw12.ViewOrders'. -/
def viewOrdersCard : Claim7 := { stood := { row := viewOrdersRow, standIns := [], harness := (true, "1169260b83a4887d95a0d2e8d58ef122ab1d914e75010851864198b1c6871b32"), looks := false }, kinds := [], alts := [], laidByText := true, laidKinds := [.data, .data, .data, .data, .pinned], laidTests := true, laidLooks := .later }
def ViewOrdersCardSaid : Prop := Claim7.holds Tryd.pinned (.plain (OpenSpec.ofChange viewOrdersSpec)) viewOrdersCard

/-- THE TIED CARD OF 'samphirelaw12.ViewTexts'. -/
def viewTextsCard : Claim7 := { stood := { row := viewTextsRow, standIns := [], harness := (true, "1169260b83a4887d95a0d2e8d58ef122ab1d914e75010851864198b1c6871b32"), looks := false }, kinds := [], alts := [], laidByText := true, laidKinds := [.data, .data, .data, .data, .pinned], laidTests := true, laidLooks := .later }
def ViewTextsCardSaid : Prop := Claim7.holds Tryd.pinned (.plain (OpenSpec.ofChange viewTextsSpec)) viewTextsCard

/-- THE TIED CARD OF 'samphirelaw12.ViewMoves'. -/
def viewMovesCard : Claim7 := { stood := { row := viewMovesRow, standIns := [], harness := (true, "1169260b83a4887d95a0d2e8d58ef122ab1d914e75010851864198b1c6871b32"), looks := false }, kinds := [], alts := [], laidByText := true, laidKinds := [.data, .data, .data, .data, .pinned], laidTests := true, laidLooks := .later }
def ViewMovesCardSaid : Prop := Claim7.holds Tryd.pinned (.plain (OpenSpec.ofChange viewMovesSpec)) viewMovesCard

/-- THE SECOND FORM's CARD OF 'samphirelaw11.TreeCompacts'. -/
def treeCompactsUptoCard : Claim7 := { stood := { row := treeCompactsUptoRow, standIns := [], harness := (true, "1169260b83a4887d95a0d2e8d58ef122ab1d914e75010851864198b1c6871b32"), looks := false }, kinds := [], alts := [], laidByText := true, laidKinds := [.data, .pinned], laidTests := true, laidLooks := .later }
def TreeCompactsUptoCardSaid : Prop := Claim7.holds Tryd.pinned (.plain (OpenSpec.upto treeCompactsSpec)) treeCompactsUptoCard

/-- THE SECOND FORM's CARD OF 'samphirelaw11.TreeNobody'. -/
def treeNobodyUptoCard : Claim7 := { stood := { row := treeNobodyUptoRow, standIns := [], harness := (true, "1169260b83a4887d95a0d2e8d58ef122ab1d914e75010851864198b1c6871b32"), looks := false }, kinds := [], alts := [], laidByText := true, laidKinds := [.data, .pinned], laidTests := true, laidLooks := .later }
def TreeNobodyUptoCardSaid : Prop := Claim7.holds Tryd.pinned (.plain (OpenSpec.upto treeNobodySpec)) treeNobodyUptoCard

/-- THE SECOND FORM's CARD OF 'samphirelaw11.TreeOf'. -/
def treeOfUptoCard : Claim7 := { stood := { row := treeOfUptoRow, standIns := [], harness := (true, "1169260b83a4887d95a0d2e8d58ef122ab1d914e75010851864198b1c6871b32"), looks := false }, kinds := [], alts := [], laidByText := true, laidKinds := [.data, .pinned], laidTests := true, laidLooks := .later }
def TreeOfUptoCardSaid : Prop := Claim7.holds Tryd.pinned (.plain (OpenSpec.upto treeOfSpec)) treeOfUptoCard

/-- THE SECOND FORM's CARD OF 'samphirelaw12.ViewBack'. -/
def viewBackUptoCard : Claim7 := { stood := { row := viewBackUptoRow, standIns := [], harness := (true, "1169260b83a4887d95a0d2e8d58ef122ab1d914e75010851864198b1c6871b32"), looks := false }, kinds := [], alts := [], laidByText := true, laidKinds := [.data, .data, .data, .data, .pinned], laidTests := true, laidLooks := .later }
def ViewBackUptoCardSaid : Prop := Claim7.holds Tryd.pinned (.plain (OpenSpec.upto viewBackSpec)) viewBackUptoCard

/-- THE SECOND FORM's CARD OF 'samphirelaw12.ViewOrders'. -/
def viewOrdersUptoCard : Claim7 := { stood := { row := viewOrdersUptoRow, standIns := [], harness := (true, "1169260b83a4887d95a0d2e8d58ef122ab1d914e75010851864198b1c6871b32"), looks := false }, kinds := [], alts := [], laidByText := true, laidKinds := [.data, .data, .data, .data, .pinned], laidTests := true, laidLooks := .later }
def ViewOrdersUptoCardSaid : Prop := Claim7.holds Tryd.pinned (.plain (OpenSpec.upto viewOrdersSpec)) viewOrdersUptoCard

/-- THE SECOND FORM's CARD OF 'samphirelaw12.ViewTexts'. -/
def viewTextsUptoCard : Claim7 := { stood := { row := viewTextsUptoRow, standIns := [], harness := (true, "1169260b83a4887d95a0d2e8d58ef122ab1d914e75010851864198b1c6871b32"), looks := false }, kinds := [], alts := [], laidByText := true, laidKinds := [.data, .data, .data, .data, .pinned], laidTests := true, laidLooks := .later }
def ViewTextsUptoCardSaid : Prop := Claim7.holds Tryd.pinned (.plain (OpenSpec.upto viewTextsSpec)) viewTextsUptoCard

/-- THE SECOND FORM's CARD OF 'samphirelaw12.ViewMoves'. -/
def viewMovesUptoCard : Claim7 := { stood := { row := viewMovesUptoRow, standIns := [], harness := (true, "1169260b83a4887d95a0d2e8d58ef122ab1d914e75010851864198b1c6871b32"), looks := false }, kinds := [], alts := [], laidByText := true, laidKinds := [.data, .data, .data, .data, .pinned], laidTests := true, laidLooks := .later }
def ViewMovesUptoCardSaid : Prop := Claim7.holds Tryd.pinned (.plain (OpenSpec.upto viewMovesSpec)) viewMovesUptoCard
end Rows
end Go.Proofs.YteghkajegdcbjaaDoor
