/-
  DERIVED. GIVEN WITH THE SEED: THE CARDS: each row of YtbeiopoejdkheaaGreatDoorRows.lean that lists a variable, with what it lists TIED to the program's text (the seventh form; the later family's looks); each row that meets fmt, with fmt's text TOLD by the authors' own Lean function (tested against real Go, not proved from fmt's source: count such statements apart). THE CARD IS WHAT COUNTS. Prove the row's statement (the work); the ties are given (YtbeiopoejdkheaaGreatDoorTie.lean); close each card by the builder's one call (the guide's Derived/Test/ToyasCard.lean, 'card_holds'). Laid BY PROGRAM, IN A SANDBOX (cutbox-door.mjs). By AI agents, Wed Nov 11 2026. No macro, syntax, notation, axiom, sorry.
-/
import Derived.Test.YtbeiopoejdkheaaGreatDoorRows
import GoSem.ClaimSeven
namespace Go.Proofs.YtbeiopoejdkheaaGreatDoor
namespace Rows

/-- THE TIED CARD OF 'surdtop.WholeRounds'. -/
def wholeRoundsCard : Claim7 := { stood := { row := wholeRoundsRow, standIns := [], harness := (true, "d5ce00d01ebf0d4d756d78c5493536ad77957bb84149801da253c2d5f9b97ada"), looks := false }, kinds := [], alts := [], laidByText := true, laidKinds := [.data], laidTests := true, laidLooks := .later }
def WholeRoundsCardSaid : Prop := Claim7.holds Tryz.pinned (.plain (OpenSpec.ofChange wholeRoundsSpec)) wholeRoundsCard

/-- THE TIED CARD OF 'surdtop.WholeSpans'. -/
def wholeSpansCard : Claim7 := { stood := { row := wholeSpansRow, standIns := [], harness := (true, "d5ce00d01ebf0d4d756d78c5493536ad77957bb84149801da253c2d5f9b97ada"), looks := false }, kinds := [], alts := [], laidByText := true, laidKinds := [.data], laidTests := true, laidLooks := .later }
def WholeSpansCardSaid : Prop := Claim7.holds Tryz.pinned (.plain (OpenSpec.ofChange wholeSpansSpec)) wholeSpansCard

/-- THE SECOND FORM's CARD OF 'surdtop.WholeRounds'. -/
def wholeRoundsUptoCard : Claim7 := { stood := { row := wholeRoundsUptoRow, standIns := [], harness := (true, "d5ce00d01ebf0d4d756d78c5493536ad77957bb84149801da253c2d5f9b97ada"), looks := false }, kinds := [], alts := [], laidByText := true, laidKinds := [.data], laidTests := true, laidLooks := .later }
def WholeRoundsUptoCardSaid : Prop := Claim7.holds Tryz.pinned (.plain (OpenSpec.upto wholeRoundsSpec)) wholeRoundsUptoCard

/-- THE SECOND FORM's CARD OF 'surdtop.WholeSpans'. -/
def wholeSpansUptoCard : Claim7 := { stood := { row := wholeSpansUptoRow, standIns := [], harness := (true, "d5ce00d01ebf0d4d756d78c5493536ad77957bb84149801da253c2d5f9b97ada"), looks := false }, kinds := [], alts := [], laidByText := true, laidKinds := [.data], laidTests := true, laidLooks := .later }
def WholeSpansUptoCardSaid : Prop := Claim7.holds Tryz.pinned (.plain (OpenSpec.upto wholeSpansSpec)) wholeSpansUptoCard
end Rows
end Go.Proofs.YtbeiopoejdkheaaGreatDoor
