/-
  DERIVED. GIVEN WITH THE SEED: THE CARDS: each row of YtlkjgafnjmfgiaaDoorRows.lean that lists a variable, with what it lists TIED to the program's text (the seventh form; the later family's looks); each row that meets fmt, with fmt's text TOLD by the authors' own Lean function (tested against real Go, not proved from fmt's source: count such statements apart). THE CARD IS WHAT COUNTS. Prove the row's statement (the work); the ties are given (YtlkjgafnjmfgiaaDoorTie.lean); close each card by the builder's one call (the guide's Derived/Test/ToyasCard.lean, 'card_holds'). Laid BY PROGRAM, IN A SANDBOX (cutbox-door.mjs). By AI agents, Wed Nov 11 2026. No macro, syntax, notation, axiom, sorry.
-/
import Derived.Test.YtlkjgafnjmfgiaaDoorRows
import GoSem.ClaimSeven
namespace Go.Proofs.YtlkjgafnjmfgiaaDoor
namespace Rows

/-- THE TIED CARD OF 'surdlaw08.DyadicNear'. -/
def dyadicNearCard : Claim7 := { stood := { row := dyadicNearRow, standIns := [], harness := (true, "5502526618ad73597598a688a58c46909e540ef211d91eb5f6e2ac15ff907ae9"), looks := false }, kinds := [], alts := [], laidByText := true, laidKinds := [.data], laidTests := true, laidLooks := .later }
def DyadicNearCardSaid : Prop := Claim7.holds Tryd.pinned (.plain (OpenSpec.ofChange dyadicNearSpec)) dyadicNearCard

/-- THE SECOND FORM's CARD OF 'surdlaw08.DyadicNear'. -/
def dyadicNearUptoCard : Claim7 := { stood := { row := dyadicNearUptoRow, standIns := [], harness := (true, "5502526618ad73597598a688a58c46909e540ef211d91eb5f6e2ac15ff907ae9"), looks := false }, kinds := [], alts := [], laidByText := true, laidKinds := [.data], laidTests := true, laidLooks := .later }
def DyadicNearUptoCardSaid : Prop := Claim7.holds Tryd.pinned (.plain (OpenSpec.upto dyadicNearSpec)) dyadicNearUptoCard
end Rows
end Go.Proofs.YtlkjgafnjmfgiaaDoor
