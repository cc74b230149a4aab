/-
  No cell of these rows narrows 'for every input' (looked for: loops, veiled, ifaces, maps, wideKeys, modest, calm, conditions, laid).
  DERIVED. THE GIVEN ROWS OF THIS SEAT. 10 by the template 'for every input the law returns true; each argument reads behind the call as it read before'; 0 by the template 'total and deterministic' (their statements: YtindbeolpjkijaaTotals.lean).
  GIVEN WITH THE SEED: the statements are not yours to turn. If you find one false, say at which input.
  Laid BY PROGRAM, IN A SANDBOX (cutbox-rows.mjs): the forced cells as the released guide's own fill.sh prints them over the translation 51a0b72d4e55b20a… (all of the seat's roots in one cut). By AI agents, Wed Nov 11 2026. No macro, syntax, notation, axiom, sorry.
-/
import Derived.Test.YtindbeolpjkijaaChecked
import GoSem.Claim
import GoSem.ClaimJoined
import GoSem.ClaimMapViews
import Derived.JoinedTies
import Derived.KernelRfl
namespace Go.Proofs.Ytindbeolpjkijaa
/- THE CELL 'sum', in the pinned program and in every row, IS THE sha256 OF THE DUMP (.gsa) THAT YtindbeolpjkijaaProg.lean LOADS. Nothing in Lean hashes anything: it is a label: what it is worth is what the hold of that sum in a sandbox is worth. -/
noncomputable def Try.pinned : Pinned := { name := "ytindbeolpjkijaa", sum := "51a0b72d4e55b20af0d57d7a71c404acb7f26d97e7aa9456a0f30a77d873d3f4", checked := Try.checked }
namespace Rows
def none {H : Type} : Left H := { results := [], args := [] }

/-- 'surdlaw02.MulNames': WHATEVER THE INPUT: true; the input reads as it did. -/
def mulNamesSpec : ChangeSpec := { name := "mulNames", fn := fun _ => fun
  | [] => { results := [.lit (.bool true)], args := [] }
  | _ => none }
def mulNamesRow : OpenClaim := { program := "ytindbeolpjkijaa", sum := "51a0b72d4e55b20af0d57d7a71c404acb7f26d97e7aa9456a0f30a77d873d3f4", func := "surd/surdlaw02.MulNames", spec := "mulNames", inPlace := ["math/bits.Add64", "math/bits.Sub64"], unfollowed := true, recurses := true, apart := false }
def MulNamesSaid : Prop := mulNamesRow.holds Try.pinned (OpenSpec.ofChange mulNamesSpec)

/-- ITS FALSE NEIGHBOUR: 'it returns false'. Refute it at one input. -/
def mulNamesWrong : ChangeSpec := { name := "mulNames", fn := fun _ => fun
  | [] => { results := [.lit (.bool false)], args := [] }
  | _ => none }
def MulNamesWrongFalsely : Prop := mulNamesRow.holds Try.pinned (OpenSpec.ofChange mulNamesWrong)

/-- 'surdlaw02.MulSquares': WHATEVER THE INPUT: true; the input reads as it did. -/
def mulSquaresSpec : ChangeSpec := { name := "mulSquares", fn := fun _ => fun
  | [d] => { results := [.lit (.bool true)], args := [d] }
  | _ => none }
def mulSquaresRow : OpenClaim := { program := "ytindbeolpjkijaa", sum := "51a0b72d4e55b20af0d57d7a71c404acb7f26d97e7aa9456a0f30a77d873d3f4", func := "surd/surdlaw02.MulSquares", spec := "mulSquares", inPlace := ["math/bits.Add64", "math/bits.Sub64"], unfollowed := true, recurses := true, apart := false }
def MulSquaresSaid : Prop := mulSquaresRow.holds Try.pinned (OpenSpec.ofChange mulSquaresSpec)

/-- ITS FALSE NEIGHBOUR: 'it returns false'. Refute it at one input. -/
def mulSquaresWrong : ChangeSpec := { name := "mulSquares", fn := fun _ => fun
  | [d] => { results := [.lit (.bool false)], args := [d] }
  | _ => none }
def MulSquaresWrongFalsely : Prop := mulSquaresRow.holds Try.pinned (OpenSpec.ofChange mulSquaresWrong)

/-- 'surdlaw02.MulRing': WHATEVER THE INPUT: true; the input reads as it did. -/
def mulRingSpec : ChangeSpec := { name := "mulRing", fn := fun _ => fun
  | [d1, d2, d3] => { results := [.lit (.bool true)], args := [d1, d2, d3] }
  | _ => none }
def mulRingRow : OpenClaim := { program := "ytindbeolpjkijaa", sum := "51a0b72d4e55b20af0d57d7a71c404acb7f26d97e7aa9456a0f30a77d873d3f4", func := "surd/surdlaw02.MulRing", spec := "mulRing", inPlace := ["math/bits.Add64", "math/bits.Sub64"], unfollowed := true, recurses := true, apart := false }
def MulRingSaid : Prop := mulRingRow.holds Try.pinned (OpenSpec.ofChange mulRingSpec)

/-- ITS FALSE NEIGHBOUR: 'it returns false'. Refute it at one input. -/
def mulRingWrong : ChangeSpec := { name := "mulRing", fn := fun _ => fun
  | [d1, d2, d3] => { results := [.lit (.bool false)], args := [d1, d2, d3] }
  | _ => none }
def MulRingWrongFalsely : Prop := mulRingRow.holds Try.pinned (OpenSpec.ofChange mulRingWrong)

/-- 'surdlaw02.MulProducts': WHATEVER THE INPUT: true; the input reads as it did. -/
def mulProductsSpec : ChangeSpec := { name := "mulProducts", fn := fun _ => fun
  | [d1, d2, d3] => { results := [.lit (.bool true)], args := [d1, d2, d3] }
  | _ => none }
def mulProductsRow : OpenClaim := { program := "ytindbeolpjkijaa", sum := "51a0b72d4e55b20af0d57d7a71c404acb7f26d97e7aa9456a0f30a77d873d3f4", func := "surd/surdlaw02.MulProducts", spec := "mulProducts", inPlace := ["math/bits.Add64", "math/bits.Sub64"], unfollowed := true, recurses := true, apart := false }
def MulProductsSaid : Prop := mulProductsRow.holds Try.pinned (OpenSpec.ofChange mulProductsSpec)

/-- ITS FALSE NEIGHBOUR: 'it returns false'. Refute it at one input. -/
def mulProductsWrong : ChangeSpec := { name := "mulProducts", fn := fun _ => fun
  | [d1, d2, d3] => { results := [.lit (.bool false)], args := [d1, d2, d3] }
  | _ => none }
def MulProductsWrongFalsely : Prop := mulProductsRow.holds Try.pinned (OpenSpec.ofChange mulProductsWrong)

/-- 'surdlaw02.MulSplits': WHATEVER THE INPUT: true; the input reads as it did. -/
def mulSplitsSpec : ChangeSpec := { name := "mulSplits", fn := fun _ => fun
  | [d1, d2] => { results := [.lit (.bool true)], args := [d1, d2] }
  | _ => none }
def mulSplitsRow : OpenClaim := { program := "ytindbeolpjkijaa", sum := "51a0b72d4e55b20af0d57d7a71c404acb7f26d97e7aa9456a0f30a77d873d3f4", func := "surd/surdlaw02.MulSplits", spec := "mulSplits", inPlace := ["math/bits.Add64", "math/bits.Sub64"], unfollowed := true, recurses := true, apart := false }
def MulSplitsSaid : Prop := mulSplitsRow.holds Try.pinned (OpenSpec.ofChange mulSplitsSpec)

/-- ITS FALSE NEIGHBOUR: 'it returns false'. Refute it at one input. -/
def mulSplitsWrong : ChangeSpec := { name := "mulSplits", fn := fun _ => fun
  | [d1, d2] => { results := [.lit (.bool false)], args := [d1, d2] }
  | _ => none }
def MulSplitsWrongFalsely : Prop := mulSplitsRow.holds Try.pinned (OpenSpec.ofChange mulSplitsWrong)

/-- 'surdlaw02.MulParts': WHATEVER THE INPUT: true; the input reads as it did. -/
def mulPartsSpec : ChangeSpec := { name := "mulParts", fn := fun _ => fun
  | [d1, d2, d3] => { results := [.lit (.bool true)], args := [d1, d2, d3] }
  | _ => none }
def mulPartsRow : OpenClaim := { program := "ytindbeolpjkijaa", sum := "51a0b72d4e55b20af0d57d7a71c404acb7f26d97e7aa9456a0f30a77d873d3f4", func := "surd/surdlaw02.MulParts", spec := "mulParts", inPlace := ["math/bits.Add64", "math/bits.Sub64"], unfollowed := true, recurses := true, apart := false }
def MulPartsSaid : Prop := mulPartsRow.holds Try.pinned (OpenSpec.ofChange mulPartsSpec)

/-- ITS FALSE NEIGHBOUR: 'it returns false'. Refute it at one input. -/
def mulPartsWrong : ChangeSpec := { name := "mulParts", fn := fun _ => fun
  | [d1, d2, d3] => { results := [.lit (.bool false)], args := [d1, d2, d3] }
  | _ => none }
def MulPartsWrongFalsely : Prop := mulPartsRow.holds Try.pinned (OpenSpec.ofChange mulPartsWrong)

/-- 'surdlaw02.MulMany': WHATEVER THE INPUT: true; the input reads as it did. -/
def mulManySpec : ChangeSpec := { name := "mulMany", fn := fun _ => fun
  | [d] => { results := [.lit (.bool true)], args := [d] }
  | _ => none }
def mulManyRow : OpenClaim := { program := "ytindbeolpjkijaa", sum := "51a0b72d4e55b20af0d57d7a71c404acb7f26d97e7aa9456a0f30a77d873d3f4", func := "surd/surdlaw02.MulMany", spec := "mulMany", inPlace := ["math/bits.Add64", "math/bits.Sub64"], unfollowed := true, recurses := true, apart := false }
def MulManySaid : Prop := mulManyRow.holds Try.pinned (OpenSpec.ofChange mulManySpec)

/-- ITS FALSE NEIGHBOUR: 'it returns false'. Refute it at one input. -/
def mulManyWrong : ChangeSpec := { name := "mulMany", fn := fun _ => fun
  | [d] => { results := [.lit (.bool false)], args := [d] }
  | _ => none }
def MulManyWrongFalsely : Prop := mulManyRow.holds Try.pinned (OpenSpec.ofChange mulManyWrong)

/-- 'surdlaw02.MulHalves': WHATEVER THE INPUT: true; the input reads as it did. -/
def mulHalvesSpec : ChangeSpec := { name := "mulHalves", fn := fun _ => fun
  | [d1, d2, d3] => { results := [.lit (.bool true)], args := [d1, d2, d3] }
  | _ => none }
def mulHalvesRow : OpenClaim := { program := "ytindbeolpjkijaa", sum := "51a0b72d4e55b20af0d57d7a71c404acb7f26d97e7aa9456a0f30a77d873d3f4", func := "surd/surdlaw02.MulHalves", spec := "mulHalves", inPlace := ["math/bits.Add64", "math/bits.Sub64"], unfollowed := true, recurses := true, apart := false }
def MulHalvesSaid : Prop := mulHalvesRow.holds Try.pinned (OpenSpec.ofChange mulHalvesSpec)

/-- ITS FALSE NEIGHBOUR: 'it returns false'. Refute it at one input. -/
def mulHalvesWrong : ChangeSpec := { name := "mulHalves", fn := fun _ => fun
  | [d1, d2, d3] => { results := [.lit (.bool false)], args := [d1, d2, d3] }
  | _ => none }
def MulHalvesWrongFalsely : Prop := mulHalvesRow.holds Try.pinned (OpenSpec.ofChange mulHalvesWrong)

/-- 'surdlaw02.MulIdentity': WHATEVER THE INPUT: true; the input reads as it did. -/
def mulIdentitySpec : ChangeSpec := { name := "mulIdentity", fn := fun _ => fun
  | [d1, d2, d3] => { results := [.lit (.bool true)], args := [d1, d2, d3] }
  | _ => none }
def mulIdentityRow : OpenClaim := { program := "ytindbeolpjkijaa", sum := "51a0b72d4e55b20af0d57d7a71c404acb7f26d97e7aa9456a0f30a77d873d3f4", func := "surd/surdlaw02.MulIdentity", spec := "mulIdentity", inPlace := ["math/bits.Add64", "math/bits.Sub64"], unfollowed := true, recurses := true, apart := false }
def MulIdentitySaid : Prop := mulIdentityRow.holds Try.pinned (OpenSpec.ofChange mulIdentitySpec)

/-- ITS FALSE NEIGHBOUR: 'it returns false'. Refute it at one input. -/
def mulIdentityWrong : ChangeSpec := { name := "mulIdentity", fn := fun _ => fun
  | [d1, d2, d3] => { results := [.lit (.bool false)], args := [d1, d2, d3] }
  | _ => none }
def MulIdentityWrongFalsely : Prop := mulIdentityRow.holds Try.pinned (OpenSpec.ofChange mulIdentityWrong)

/-- 'surdlaw02.MulOwn': WHATEVER THE INPUT: true; the input reads as it did. -/
def mulOwnSpec : ChangeSpec := { name := "mulOwn", fn := fun _ => fun
  | [d1, d2, d3] => { results := [.lit (.bool true)], args := [d1, d2, d3] }
  | _ => none }
def mulOwnRow : OpenClaim := { program := "ytindbeolpjkijaa", sum := "51a0b72d4e55b20af0d57d7a71c404acb7f26d97e7aa9456a0f30a77d873d3f4", func := "surd/surdlaw02.MulOwn", spec := "mulOwn", inPlace := ["math/bits.Add64", "math/bits.Sub64"], unfollowed := true, recurses := true, apart := false }
def MulOwnSaid : Prop := mulOwnRow.holds Try.pinned (OpenSpec.ofChange mulOwnSpec)

/-- ITS FALSE NEIGHBOUR: 'it returns false'. Refute it at one input. -/
def mulOwnWrong : ChangeSpec := { name := "mulOwn", fn := fun _ => fun
  | [d1, d2, d3] => { results := [.lit (.bool false)], args := [d1, d2, d3] }
  | _ => none }
def MulOwnWrongFalsely : Prop := mulOwnRow.holds Try.pinned (OpenSpec.ofChange mulOwnWrong)

/- THE SECOND FORM. 'bulk': how many values and letters a reading holds, each counted each time it is reached (what is shared counts as often as it is met; a slice's spare places count too). A statement '..UptoSaid' is the law's where the arguments, and the package variables that the reading takes, are together of bulk at most 1048576: NARROWER than '..Said'. Prove '..Said' where nothing that the law and all that it calls make is longer than what came in: it says more and counts as full. Else prove '..UptoSaid'. A law counts once. -/
mutual
def uptoBulk {H : Type} : DataW H → Nat
  | .lit (.string bytes) => bytes.length + 1
  | .lit _ => 1
  | .nil => 1
  | .ptr d => uptoBulk d + 1
  | .slice elems spare => uptoBulkAll elems + uptoBulkAll spare + 1
  | .agg parts => uptoBulkAll parts + 1
  | .iface _ d => uptoBulk d + 1
  | .map entries => uptoBulkEntries entries + 1
  | .held _ => 1
def uptoBulkAll {H : Type} : List (DataW H) → Nat
  | [] => 0
  | d :: r => uptoBulk d + uptoBulkAll r
def uptoBulkEntries {H : Type} : List (Lit × DataW H) → Nat
  | [] => 0
  | x :: r => uptoBulkEntry x + uptoBulkEntries r
def uptoBulkEntry {H : Type} : Lit × DataW H → Nat
  | (.string bytes, d) => bytes.length + uptoBulk d + 1
  | (_, d) => uptoBulk d + 1
 end
def uptoSmall : (H : Type) → List (DataW H) → Bool := fun _ ds => decide (uptoBulkAll ds ≤ 1048576)
def OpenSpec.upto (s : _root_.Go.ChangeSpec) : _root_.Go.OpenSpec := { _root_.Go.OpenSpec.ofChange s with cond := some uptoSmall }

/-- 'surdlaw02.MulNames', WHERE WHAT IT READS IS OF BULK AT MOST 1048576: true; the input reads as it did. -/
def mulNamesUptoRow : OpenClaim := { program := "ytindbeolpjkijaa", sum := "51a0b72d4e55b20af0d57d7a71c404acb7f26d97e7aa9456a0f30a77d873d3f4", func := "surd/surdlaw02.MulNames", spec := "mulNames", inPlace := ["math/bits.Add64", "math/bits.Sub64"], unfollowed := true, recurses := true, apart := false, narrowed := true }
def MulNamesUptoSaid : Prop := mulNamesUptoRow.holds Try.pinned (OpenSpec.upto mulNamesSpec)

/-- 'surdlaw02.MulSquares', WHERE WHAT IT READS IS OF BULK AT MOST 1048576: true; the input reads as it did. -/
def mulSquaresUptoRow : OpenClaim := { program := "ytindbeolpjkijaa", sum := "51a0b72d4e55b20af0d57d7a71c404acb7f26d97e7aa9456a0f30a77d873d3f4", func := "surd/surdlaw02.MulSquares", spec := "mulSquares", inPlace := ["math/bits.Add64", "math/bits.Sub64"], unfollowed := true, recurses := true, apart := false, narrowed := true }
def MulSquaresUptoSaid : Prop := mulSquaresUptoRow.holds Try.pinned (OpenSpec.upto mulSquaresSpec)

/-- 'surdlaw02.MulRing', WHERE WHAT IT READS IS OF BULK AT MOST 1048576: true; the input reads as it did. -/
def mulRingUptoRow : OpenClaim := { program := "ytindbeolpjkijaa", sum := "51a0b72d4e55b20af0d57d7a71c404acb7f26d97e7aa9456a0f30a77d873d3f4", func := "surd/surdlaw02.MulRing", spec := "mulRing", inPlace := ["math/bits.Add64", "math/bits.Sub64"], unfollowed := true, recurses := true, apart := false, narrowed := true }
def MulRingUptoSaid : Prop := mulRingUptoRow.holds Try.pinned (OpenSpec.upto mulRingSpec)

/-- 'surdlaw02.MulProducts', WHERE WHAT IT READS IS OF BULK AT MOST 1048576: true; the input reads as it did. -/
def mulProductsUptoRow : OpenClaim := { program := "ytindbeolpjkijaa", sum := "51a0b72d4e55b20af0d57d7a71c404acb7f26d97e7aa9456a0f30a77d873d3f4", func := "surd/surdlaw02.MulProducts", spec := "mulProducts", inPlace := ["math/bits.Add64", "math/bits.Sub64"], unfollowed := true, recurses := true, apart := false, narrowed := true }
def MulProductsUptoSaid : Prop := mulProductsUptoRow.holds Try.pinned (OpenSpec.upto mulProductsSpec)

/-- 'surdlaw02.MulSplits', WHERE WHAT IT READS IS OF BULK AT MOST 1048576: true; the input reads as it did. -/
def mulSplitsUptoRow : OpenClaim := { program := "ytindbeolpjkijaa", sum := "51a0b72d4e55b20af0d57d7a71c404acb7f26d97e7aa9456a0f30a77d873d3f4", func := "surd/surdlaw02.MulSplits", spec := "mulSplits", inPlace := ["math/bits.Add64", "math/bits.Sub64"], unfollowed := true, recurses := true, apart := false, narrowed := true }
def MulSplitsUptoSaid : Prop := mulSplitsUptoRow.holds Try.pinned (OpenSpec.upto mulSplitsSpec)

/-- 'surdlaw02.MulParts', WHERE WHAT IT READS IS OF BULK AT MOST 1048576: true; the input reads as it did. -/
def mulPartsUptoRow : OpenClaim := { program := "ytindbeolpjkijaa", sum := "51a0b72d4e55b20af0d57d7a71c404acb7f26d97e7aa9456a0f30a77d873d3f4", func := "surd/surdlaw02.MulParts", spec := "mulParts", inPlace := ["math/bits.Add64", "math/bits.Sub64"], unfollowed := true, recurses := true, apart := false, narrowed := true }
def MulPartsUptoSaid : Prop := mulPartsUptoRow.holds Try.pinned (OpenSpec.upto mulPartsSpec)

/-- 'surdlaw02.MulMany', WHERE WHAT IT READS IS OF BULK AT MOST 1048576: true; the input reads as it did. -/
def mulManyUptoRow : OpenClaim := { program := "ytindbeolpjkijaa", sum := "51a0b72d4e55b20af0d57d7a71c404acb7f26d97e7aa9456a0f30a77d873d3f4", func := "surd/surdlaw02.MulMany", spec := "mulMany", inPlace := ["math/bits.Add64", "math/bits.Sub64"], unfollowed := true, recurses := true, apart := false, narrowed := true }
def MulManyUptoSaid : Prop := mulManyUptoRow.holds Try.pinned (OpenSpec.upto mulManySpec)

/-- 'surdlaw02.MulHalves', WHERE WHAT IT READS IS OF BULK AT MOST 1048576: true; the input reads as it did. -/
def mulHalvesUptoRow : OpenClaim := { program := "ytindbeolpjkijaa", sum := "51a0b72d4e55b20af0d57d7a71c404acb7f26d97e7aa9456a0f30a77d873d3f4", func := "surd/surdlaw02.MulHalves", spec := "mulHalves", inPlace := ["math/bits.Add64", "math/bits.Sub64"], unfollowed := true, recurses := true, apart := false, narrowed := true }
def MulHalvesUptoSaid : Prop := mulHalvesUptoRow.holds Try.pinned (OpenSpec.upto mulHalvesSpec)

/-- 'surdlaw02.MulIdentity', WHERE WHAT IT READS IS OF BULK AT MOST 1048576: true; the input reads as it did. -/
def mulIdentityUptoRow : OpenClaim := { program := "ytindbeolpjkijaa", sum := "51a0b72d4e55b20af0d57d7a71c404acb7f26d97e7aa9456a0f30a77d873d3f4", func := "surd/surdlaw02.MulIdentity", spec := "mulIdentity", inPlace := ["math/bits.Add64", "math/bits.Sub64"], unfollowed := true, recurses := true, apart := false, narrowed := true }
def MulIdentityUptoSaid : Prop := mulIdentityUptoRow.holds Try.pinned (OpenSpec.upto mulIdentitySpec)

/-- 'surdlaw02.MulOwn', WHERE WHAT IT READS IS OF BULK AT MOST 1048576: true; the input reads as it did. -/
def mulOwnUptoRow : OpenClaim := { program := "ytindbeolpjkijaa", sum := "51a0b72d4e55b20af0d57d7a71c404acb7f26d97e7aa9456a0f30a77d873d3f4", func := "surd/surdlaw02.MulOwn", spec := "mulOwn", inPlace := ["math/bits.Add64", "math/bits.Sub64"], unfollowed := true, recurses := true, apart := false, narrowed := true }
def MulOwnUptoSaid : Prop := mulOwnUptoRow.holds Try.pinned (OpenSpec.upto mulOwnSpec)

end Rows
end Go.Proofs.Ytindbeolpjkijaa
