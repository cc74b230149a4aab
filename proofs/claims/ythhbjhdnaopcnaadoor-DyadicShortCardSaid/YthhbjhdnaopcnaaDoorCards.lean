/-
  DERIVED. GIVEN WITH THE SEED: THE CARDS: each row of YthhbjhdnaopcnaaDoorRows.lean that lists a variable, with what it lists TIED to the program's text (the seventh form; the later family's looks); each row that meets fmt, with fmt's text TOLD by the authors' own Lean function (tested against real Go, not proved from fmt's source: count such statements apart). THE CARD IS WHAT COUNTS. Prove the row's statement (the work); the ties are given (YthhbjhdnaopcnaaDoorTie.lean); close each card by the builder's one call (the guide's Derived/Test/ToyasCard.lean, 'card_holds'). Laid BY PROGRAM, IN A SANDBOX (cutbox-door.mjs). By AI agents, Wed Nov 11 2026. No macro, syntax, notation, axiom, sorry.
-/
import Derived.Test.YthhbjhdnaopcnaaDoorRows
import GoSem.ClaimSeven
namespace Go.Proofs.YthhbjhdnaopcnaaDoor
namespace Rows

/-- THE TIED CARD OF 'surdlaw08.DyadicNames'. -/
def dyadicNamesCard : Claim7 := { stood := { row := dyadicNamesRow, standIns := [], harness := (true, "9192a499177341b32892a23e0f95324731f6d8db9f38c41470016d3a517507ae"), looks := true }, kinds := [], alts := [], laidByText := true, laidKinds := [.data], laidTests := true, laidLooks := .later }
def DyadicNamesCardSaid : Prop := Claim7.holds Tryd.pinned (.plain (OpenSpec.ofChange dyadicNamesSpec)) dyadicNamesCard

/-- THE TIED CARD OF 'surdlaw08.DyadicScales'. -/
def dyadicScalesCard : Claim7 := { stood := { row := dyadicScalesRow, standIns := [], harness := (true, "9192a499177341b32892a23e0f95324731f6d8db9f38c41470016d3a517507ae"), looks := true }, kinds := [], alts := [], laidByText := true, laidKinds := [.data], laidTests := true, laidLooks := .later }
def DyadicScalesCardSaid : Prop := Claim7.holds Tryd.pinned (.plain (OpenSpec.ofChange dyadicScalesSpec)) dyadicScalesCard

/-- THE TIED CARD OF 'surdlaw08.DyadicMakes'. -/
def dyadicMakesCard : Claim7 := { stood := { row := dyadicMakesRow, standIns := [], harness := (true, "9192a499177341b32892a23e0f95324731f6d8db9f38c41470016d3a517507ae"), looks := true }, kinds := [], alts := [], laidByText := true, laidKinds := [.data], laidTests := true, laidLooks := .later }
def DyadicMakesCardSaid : Prop := Claim7.holds Tryd.pinned (.plain (OpenSpec.ofChange dyadicMakesSpec)) dyadicMakesCard

/-- THE TIED CARD OF 'surdlaw08.DyadicRounds'. -/
def dyadicRoundsCard : Claim7 := { stood := { row := dyadicRoundsRow, standIns := [], harness := (true, "9192a499177341b32892a23e0f95324731f6d8db9f38c41470016d3a517507ae"), looks := true }, kinds := [], alts := [], laidByText := true, laidKinds := [.data], laidTests := true, laidLooks := .later }
def DyadicRoundsCardSaid : Prop := Claim7.holds Tryd.pinned (.plain (OpenSpec.ofChange dyadicRoundsSpec)) dyadicRoundsCard

/-- THE TIED CARD OF 'surdlaw08.DyadicCuts'. -/
def dyadicCutsCard : Claim7 := { stood := { row := dyadicCutsRow, standIns := [], harness := (true, "9192a499177341b32892a23e0f95324731f6d8db9f38c41470016d3a517507ae"), looks := true }, kinds := [], alts := [], laidByText := true, laidKinds := [.data], laidTests := true, laidLooks := .later }
def DyadicCutsCardSaid : Prop := Claim7.holds Tryd.pinned (.plain (OpenSpec.ofChange dyadicCutsSpec)) dyadicCutsCard

/-- THE TIED CARD OF 'surdlaw08.DyadicOrders'. -/
def dyadicOrdersCard : Claim7 := { stood := { row := dyadicOrdersRow, standIns := [], harness := (true, "9192a499177341b32892a23e0f95324731f6d8db9f38c41470016d3a517507ae"), looks := true }, kinds := [], alts := [], laidByText := true, laidKinds := [.data], laidTests := true, laidLooks := .later }
def DyadicOrdersCardSaid : Prop := Claim7.holds Tryd.pinned (.plain (OpenSpec.ofChange dyadicOrdersSpec)) dyadicOrdersCard

/-- THE TIED CARD OF 'surdlaw08.DyadicRatios'. -/
def dyadicRatiosCard : Claim7 := { stood := { row := dyadicRatiosRow, standIns := [], harness := (true, "9192a499177341b32892a23e0f95324731f6d8db9f38c41470016d3a517507ae"), looks := true }, kinds := [], alts := [], laidByText := true, laidKinds := [.data], laidTests := true, laidLooks := .later }
def DyadicRatiosCardSaid : Prop := Claim7.holds Tryd.pinned (.plain (OpenSpec.ofChange dyadicRatiosSpec)) dyadicRatiosCard

/-- THE TIED CARD OF 'surdlaw08.DyadicNear'. -/
def dyadicNearCard : Claim7 := { stood := { row := dyadicNearRow, standIns := [], harness := (true, "9192a499177341b32892a23e0f95324731f6d8db9f38c41470016d3a517507ae"), looks := true }, kinds := [], alts := [], laidByText := true, laidKinds := [.data], laidTests := true, laidLooks := .later }
def DyadicNearCardSaid : Prop := Claim7.holds Tryd.pinned (.plain (OpenSpec.ofChange dyadicNearSpec)) dyadicNearCard

/-- THE TIED CARD OF 'surdlaw08.DyadicShort'. -/
def dyadicShortCard : Claim7 := { stood := { row := dyadicShortRow, standIns := [], harness := (true, "9192a499177341b32892a23e0f95324731f6d8db9f38c41470016d3a517507ae"), looks := true }, kinds := [], alts := [], laidByText := true, laidKinds := [.data], laidTests := true, laidLooks := .later }
def DyadicShortCardSaid : Prop := Claim7.holds Tryd.pinned (.plain (OpenSpec.ofChange dyadicShortSpec)) dyadicShortCard

/-- THE TIED CARD OF 'surdlaw08.DyadicTwice'. -/
def dyadicTwiceCard : Claim7 := { stood := { row := dyadicTwiceRow, standIns := [], harness := (true, "9192a499177341b32892a23e0f95324731f6d8db9f38c41470016d3a517507ae"), looks := true }, kinds := [], alts := [], laidByText := true, laidKinds := [.data], laidTests := true, laidLooks := .later }
def DyadicTwiceCardSaid : Prop := Claim7.holds Tryd.pinned (.plain (OpenSpec.ofChange dyadicTwiceSpec)) dyadicTwiceCard

/-- THE SECOND FORM's CARD OF 'surdlaw08.DyadicNames'. -/
def dyadicNamesUptoCard : Claim7 := { stood := { row := dyadicNamesUptoRow, standIns := [], harness := (true, "9192a499177341b32892a23e0f95324731f6d8db9f38c41470016d3a517507ae"), looks := true }, kinds := [], alts := [], laidByText := true, laidKinds := [.data], laidTests := true, laidLooks := .later }
def DyadicNamesUptoCardSaid : Prop := Claim7.holds Tryd.pinned (.plain (OpenSpec.upto dyadicNamesSpec)) dyadicNamesUptoCard

/-- THE SECOND FORM's CARD OF 'surdlaw08.DyadicScales'. -/
def dyadicScalesUptoCard : Claim7 := { stood := { row := dyadicScalesUptoRow, standIns := [], harness := (true, "9192a499177341b32892a23e0f95324731f6d8db9f38c41470016d3a517507ae"), looks := true }, kinds := [], alts := [], laidByText := true, laidKinds := [.data], laidTests := true, laidLooks := .later }
def DyadicScalesUptoCardSaid : Prop := Claim7.holds Tryd.pinned (.plain (OpenSpec.upto dyadicScalesSpec)) dyadicScalesUptoCard

/-- THE SECOND FORM's CARD OF 'surdlaw08.DyadicMakes'. -/
def dyadicMakesUptoCard : Claim7 := { stood := { row := dyadicMakesUptoRow, standIns := [], harness := (true, "9192a499177341b32892a23e0f95324731f6d8db9f38c41470016d3a517507ae"), looks := true }, kinds := [], alts := [], laidByText := true, laidKinds := [.data], laidTests := true, laidLooks := .later }
def DyadicMakesUptoCardSaid : Prop := Claim7.holds Tryd.pinned (.plain (OpenSpec.upto dyadicMakesSpec)) dyadicMakesUptoCard

/-- THE SECOND FORM's CARD OF 'surdlaw08.DyadicRounds'. -/
def dyadicRoundsUptoCard : Claim7 := { stood := { row := dyadicRoundsUptoRow, standIns := [], harness := (true, "9192a499177341b32892a23e0f95324731f6d8db9f38c41470016d3a517507ae"), looks := true }, kinds := [], alts := [], laidByText := true, laidKinds := [.data], laidTests := true, laidLooks := .later }
def DyadicRoundsUptoCardSaid : Prop := Claim7.holds Tryd.pinned (.plain (OpenSpec.upto dyadicRoundsSpec)) dyadicRoundsUptoCard

/-- THE SECOND FORM's CARD OF 'surdlaw08.DyadicCuts'. -/
def dyadicCutsUptoCard : Claim7 := { stood := { row := dyadicCutsUptoRow, standIns := [], harness := (true, "9192a499177341b32892a23e0f95324731f6d8db9f38c41470016d3a517507ae"), looks := true }, kinds := [], alts := [], laidByText := true, laidKinds := [.data], laidTests := true, laidLooks := .later }
def DyadicCutsUptoCardSaid : Prop := Claim7.holds Tryd.pinned (.plain (OpenSpec.upto dyadicCutsSpec)) dyadicCutsUptoCard

/-- THE SECOND FORM's CARD OF 'surdlaw08.DyadicOrders'. -/
def dyadicOrdersUptoCard : Claim7 := { stood := { row := dyadicOrdersUptoRow, standIns := [], harness := (true, "9192a499177341b32892a23e0f95324731f6d8db9f38c41470016d3a517507ae"), looks := true }, kinds := [], alts := [], laidByText := true, laidKinds := [.data], laidTests := true, laidLooks := .later }
def DyadicOrdersUptoCardSaid : Prop := Claim7.holds Tryd.pinned (.plain (OpenSpec.upto dyadicOrdersSpec)) dyadicOrdersUptoCard

/-- THE SECOND FORM's CARD OF 'surdlaw08.DyadicRatios'. -/
def dyadicRatiosUptoCard : Claim7 := { stood := { row := dyadicRatiosUptoRow, standIns := [], harness := (true, "9192a499177341b32892a23e0f95324731f6d8db9f38c41470016d3a517507ae"), looks := true }, kinds := [], alts := [], laidByText := true, laidKinds := [.data], laidTests := true, laidLooks := .later }
def DyadicRatiosUptoCardSaid : Prop := Claim7.holds Tryd.pinned (.plain (OpenSpec.upto dyadicRatiosSpec)) dyadicRatiosUptoCard

/-- THE SECOND FORM's CARD OF 'surdlaw08.DyadicNear'. -/
def dyadicNearUptoCard : Claim7 := { stood := { row := dyadicNearUptoRow, standIns := [], harness := (true, "9192a499177341b32892a23e0f95324731f6d8db9f38c41470016d3a517507ae"), looks := true }, kinds := [], alts := [], laidByText := true, laidKinds := [.data], laidTests := true, laidLooks := .later }
def DyadicNearUptoCardSaid : Prop := Claim7.holds Tryd.pinned (.plain (OpenSpec.upto dyadicNearSpec)) dyadicNearUptoCard

/-- THE SECOND FORM's CARD OF 'surdlaw08.DyadicShort'. -/
def dyadicShortUptoCard : Claim7 := { stood := { row := dyadicShortUptoRow, standIns := [], harness := (true, "9192a499177341b32892a23e0f95324731f6d8db9f38c41470016d3a517507ae"), looks := true }, kinds := [], alts := [], laidByText := true, laidKinds := [.data], laidTests := true, laidLooks := .later }
def DyadicShortUptoCardSaid : Prop := Claim7.holds Tryd.pinned (.plain (OpenSpec.upto dyadicShortSpec)) dyadicShortUptoCard

/-- THE SECOND FORM's CARD OF 'surdlaw08.DyadicTwice'. -/
def dyadicTwiceUptoCard : Claim7 := { stood := { row := dyadicTwiceUptoRow, standIns := [], harness := (true, "9192a499177341b32892a23e0f95324731f6d8db9f38c41470016d3a517507ae"), looks := true }, kinds := [], alts := [], laidByText := true, laidKinds := [.data], laidTests := true, laidLooks := .later }
def DyadicTwiceUptoCardSaid : Prop := Claim7.holds Tryd.pinned (.plain (OpenSpec.upto dyadicTwiceSpec)) dyadicTwiceUptoCard
end Rows
end Go.Proofs.YthhbjhdnaopcnaaDoor
