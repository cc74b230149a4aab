/-
  DERIVED. GIVEN WITH THE SEED: THE CARDS: each row of YtaflfjbhlgbmdaaDoorRows.lean that lists a variable, with what it lists TIED to the program's text (the seventh form; the later family's looks); each row that meets fmt, with fmt's text TOLD by the authors' own Lean function (tested against real Go, not proved from fmt's source: count such statements apart). THE CARD IS WHAT COUNTS. Prove the row's statement (the work); the ties are given (YtaflfjbhlgbmdaaDoorTie.lean); close each card by the builder's one call (the guide's Derived/Test/ToyasCard.lean, 'card_holds'). Laid BY PROGRAM, IN A SANDBOX (cutbox-door.mjs). By AI agents, Wed Nov 11 2026. No macro, syntax, notation, axiom, sorry.
-/
import Derived.Test.YtaflfjbhlgbmdaaDoorRows
import GoSem.ClaimSeven
namespace Go.Proofs.YtaflfjbhlgbmdaaDoor
namespace Rows

/-- THE TIED CARD OF 'surdlaw01.NatForms'. -/
def natFormsCard : Claim7 := { stood := { row := natFormsRow, standIns := [], harness := (true, "b9da614396cded3473712f977a9afc9f59bdeda4e439993d0b5773f739215d33"), looks := false }, kinds := [], alts := [], laidByText := true, laidKinds := [.data], laidTests := true, laidLooks := .later }
def NatFormsCardSaid : Prop := Claim7.holds Tryd.pinned (.plain (OpenSpec.ofChange natFormsSpec)) natFormsCard

/-- THE SECOND FORM's CARD OF 'surdlaw01.NatForms'. -/
def natFormsUptoCard : Claim7 := { stood := { row := natFormsUptoRow, standIns := [], harness := (true, "b9da614396cded3473712f977a9afc9f59bdeda4e439993d0b5773f739215d33"), looks := false }, kinds := [], alts := [], laidByText := true, laidKinds := [.data], laidTests := true, laidLooks := .later }
def NatFormsUptoCardSaid : Prop := Claim7.holds Tryd.pinned (.plain (OpenSpec.upto natFormsSpec)) natFormsUptoCard
end Rows
end Go.Proofs.YtaflfjbhlgbmdaaDoor
