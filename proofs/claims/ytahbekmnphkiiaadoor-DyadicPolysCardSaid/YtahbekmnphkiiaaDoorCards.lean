/-
  DERIVED. GIVEN WITH THE SEED: THE CARDS: each row of YtahbekmnphkiiaaDoorRows.lean that lists a variable, with what it lists TIED to the program's text (the seventh form; the later family's looks); each row that meets fmt, with fmt's text TOLD by the authors' own Lean function (tested against real Go, not proved from fmt's source: count such statements apart). THE CARD IS WHAT COUNTS. Prove the row's statement (the work); the ties are given (YtahbekmnphkiiaaDoorTie.lean); close each card by the builder's one call (the guide's Derived/Test/ToyasCard.lean, 'card_holds'). Laid BY PROGRAM, IN A SANDBOX (cutbox-door.mjs). By AI agents, Wed Nov 11 2026. No macro, syntax, notation, axiom, sorry.
-/
import Derived.Test.YtahbekmnphkiiaaDoorRows
import GoSem.ClaimSeven
namespace Go.Proofs.YtahbekmnphkiiaaDoor
namespace Rows

/-- THE TIED CARD OF 'surdlaw08.DyadicOwn'. -/
def dyadicOwnCard : Claim7 := { stood := { row := dyadicOwnRow, standIns := [], harness := (true, "a108811bb53db371d4e5c3ae22b4d8ace86bb1f4d6c382a5442f67143bb0d9a7"), looks := false }, kinds := [], alts := [], laidByText := true, laidKinds := [.data], laidTests := true, laidLooks := .later }
def DyadicOwnCardSaid : Prop := Claim7.holds Tryd.pinned (.plain (OpenSpec.ofChange dyadicOwnSpec)) dyadicOwnCard

/-- THE TIED CARD OF 'surdlaw08.DyadicRing'. -/
def dyadicRingCard : Claim7 := { stood := { row := dyadicRingRow, standIns := [], harness := (true, "a108811bb53db371d4e5c3ae22b4d8ace86bb1f4d6c382a5442f67143bb0d9a7"), looks := false }, kinds := [], alts := [], laidByText := true, laidKinds := [.data], laidTests := true, laidLooks := .later }
def DyadicRingCardSaid : Prop := Claim7.holds Tryd.pinned (.plain (OpenSpec.ofChange dyadicRingSpec)) dyadicRingCard

/-- THE TIED CARD OF 'surdlaw08.DyadicPolys'. -/
def dyadicPolysCard : Claim7 := { stood := { row := dyadicPolysRow, standIns := [], harness := (true, "a108811bb53db371d4e5c3ae22b4d8ace86bb1f4d6c382a5442f67143bb0d9a7"), looks := false }, kinds := [], alts := [], laidByText := true, laidKinds := [.data], laidTests := true, laidLooks := .later }
def DyadicPolysCardSaid : Prop := Claim7.holds Tryd.pinned (.plain (OpenSpec.ofChange dyadicPolysSpec)) dyadicPolysCard

/-- THE SECOND FORM's CARD OF 'surdlaw08.DyadicOwn'. -/
def dyadicOwnUptoCard : Claim7 := { stood := { row := dyadicOwnUptoRow, standIns := [], harness := (true, "a108811bb53db371d4e5c3ae22b4d8ace86bb1f4d6c382a5442f67143bb0d9a7"), looks := false }, kinds := [], alts := [], laidByText := true, laidKinds := [.data], laidTests := true, laidLooks := .later }
def DyadicOwnUptoCardSaid : Prop := Claim7.holds Tryd.pinned (.plain (OpenSpec.upto dyadicOwnSpec)) dyadicOwnUptoCard

/-- THE SECOND FORM's CARD OF 'surdlaw08.DyadicRing'. -/
def dyadicRingUptoCard : Claim7 := { stood := { row := dyadicRingUptoRow, standIns := [], harness := (true, "a108811bb53db371d4e5c3ae22b4d8ace86bb1f4d6c382a5442f67143bb0d9a7"), looks := false }, kinds := [], alts := [], laidByText := true, laidKinds := [.data], laidTests := true, laidLooks := .later }
def DyadicRingUptoCardSaid : Prop := Claim7.holds Tryd.pinned (.plain (OpenSpec.upto dyadicRingSpec)) dyadicRingUptoCard

/-- THE SECOND FORM's CARD OF 'surdlaw08.DyadicPolys'. -/
def dyadicPolysUptoCard : Claim7 := { stood := { row := dyadicPolysUptoRow, standIns := [], harness := (true, "a108811bb53db371d4e5c3ae22b4d8ace86bb1f4d6c382a5442f67143bb0d9a7"), looks := false }, kinds := [], alts := [], laidByText := true, laidKinds := [.data], laidTests := true, laidLooks := .later }
def DyadicPolysUptoCardSaid : Prop := Claim7.holds Tryd.pinned (.plain (OpenSpec.upto dyadicPolysSpec)) dyadicPolysUptoCard
end Rows
end Go.Proofs.YtahbekmnphkiiaaDoor
