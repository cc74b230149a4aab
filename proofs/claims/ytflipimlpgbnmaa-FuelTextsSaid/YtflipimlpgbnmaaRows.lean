/-
  No cell of these rows narrows 'for every input' (looked for: loops, veiled, ifaces, maps, wideKeys, modest, calm, conditions, laid).
  DERIVED. THE GIVEN ROWS OF THIS SEAT. 8 by the template 'for every input the law returns true; each argument reads behind the call as it read before'; 0 by the template 'total and deterministic' (their statements: YtflipimlpgbnmaaTotals.lean).
  GIVEN WITH THE SEED: the statements are not yours to turn. If you find one false, say at which input.
  Laid BY PROGRAM, IN A SANDBOX (cutbox-rows.mjs): the forced cells as the released guide's own fill.sh prints them over the translation af31dc96cc54b688… (all of the seat's roots in one cut). By AI agents, Wed Nov 11 2026. No macro, syntax, notation, axiom, sorry.
-/
import Derived.Test.YtflipimlpgbnmaaChecked
import GoSem.Claim
import GoSem.ClaimJoined
import GoSem.ClaimMapViews
import Derived.JoinedTies
import Derived.KernelRfl
namespace Go.Proofs.Ytflipimlpgbnmaa
/- THE CELL 'sum', in the pinned program and in every row, IS THE sha256 OF THE DUMP (.gsa) THAT YtflipimlpgbnmaaProg.lean LOADS. Nothing in Lean hashes anything: it is a label: what it is worth is what the hold of that sum in a sandbox is worth. -/
noncomputable def Try.pinned : Pinned := { name := "ytflipimlpgbnmaa", sum := "af31dc96cc54b6884568748d627280f7d3352019e458aff9b32990a9bb5a72fd", checked := Try.checked }
namespace Rows
def none {H : Type} : Left H := { results := [], args := [] }

/-- 'surdlaw18.FuelNames': WHATEVER THE INPUT: true; the input reads as it did. -/
def fuelNamesSpec : ChangeSpec := { name := "fuelNames", fn := fun _ => fun
  | [] => { results := [.lit (.bool true)], args := [] }
  | _ => none }
def fuelNamesRow : OpenClaim := { program := "ytflipimlpgbnmaa", sum := "af31dc96cc54b6884568748d627280f7d3352019e458aff9b32990a9bb5a72fd", func := "surd/surdlaw18.FuelNames", spec := "fuelNames", apart := false }
def FuelNamesSaid : Prop := fuelNamesRow.holds Try.pinned (OpenSpec.ofChange fuelNamesSpec)

/-- ITS FALSE NEIGHBOUR: 'it returns false'. Refute it at one input. -/
def fuelNamesWrong : ChangeSpec := { name := "fuelNames", fn := fun _ => fun
  | [] => { results := [.lit (.bool false)], args := [] }
  | _ => none }
def FuelNamesWrongFalsely : Prop := fuelNamesRow.holds Try.pinned (OpenSpec.ofChange fuelNamesWrong)

/-- 'surdlaw18.FuelReaches': WHATEVER THE INPUT: true; the input reads as it did. -/
def fuelReachesSpec : ChangeSpec := { name := "fuelReaches", fn := fun _ => fun
  | [d] => { results := [.lit (.bool true)], args := [d] }
  | _ => none }
def fuelReachesRow : OpenClaim := { program := "ytflipimlpgbnmaa", sum := "af31dc96cc54b6884568748d627280f7d3352019e458aff9b32990a9bb5a72fd", func := "surd/surdlaw18.FuelReaches", spec := "fuelReaches", apart := false }
def FuelReachesSaid : Prop := fuelReachesRow.holds Try.pinned (OpenSpec.ofChange fuelReachesSpec)

/-- ITS FALSE NEIGHBOUR: 'it returns false'. Refute it at one input. -/
def fuelReachesWrong : ChangeSpec := { name := "fuelReaches", fn := fun _ => fun
  | [d] => { results := [.lit (.bool false)], args := [d] }
  | _ => none }
def FuelReachesWrongFalsely : Prop := fuelReachesRow.holds Try.pinned (OpenSpec.ofChange fuelReachesWrong)

/-- 'surdlaw18.FuelAttempts': WHATEVER THE INPUT: true; the input reads as it did. -/
def fuelAttemptsSpec : ChangeSpec := { name := "fuelAttempts", fn := fun _ => fun
  | [d1, d2, d3] => { results := [.lit (.bool true)], args := [d1, d2, d3] }
  | _ => none }
def fuelAttemptsRow : OpenClaim := { program := "ytflipimlpgbnmaa", sum := "af31dc96cc54b6884568748d627280f7d3352019e458aff9b32990a9bb5a72fd", func := "surd/surdlaw18.FuelAttempts", spec := "fuelAttempts", unfollowed := true, recurses := true, apart := false }
def FuelAttemptsSaid : Prop := fuelAttemptsRow.holds Try.pinned (OpenSpec.ofChange fuelAttemptsSpec)

/-- ITS FALSE NEIGHBOUR: 'it returns false'. Refute it at one input. -/
def fuelAttemptsWrong : ChangeSpec := { name := "fuelAttempts", fn := fun _ => fun
  | [d1, d2, d3] => { results := [.lit (.bool false)], args := [d1, d2, d3] }
  | _ => none }
def FuelAttemptsWrongFalsely : Prop := fuelAttemptsRow.holds Try.pinned (OpenSpec.ofChange fuelAttemptsWrong)

/-- 'surdlaw18.FuelGrows': WHATEVER THE INPUT: true; the input reads as it did. -/
def fuelGrowsSpec : ChangeSpec := { name := "fuelGrows", fn := fun _ => fun
  | [d1, d2, d3] => { results := [.lit (.bool true)], args := [d1, d2, d3] }
  | _ => none }
def fuelGrowsRow : OpenClaim := { program := "ytflipimlpgbnmaa", sum := "af31dc96cc54b6884568748d627280f7d3352019e458aff9b32990a9bb5a72fd", func := "surd/surdlaw18.FuelGrows", spec := "fuelGrows", inPlace := ["math/bits.Add64"], apart := false }
def FuelGrowsSaid : Prop := fuelGrowsRow.holds Try.pinned (OpenSpec.ofChange fuelGrowsSpec)

/-- ITS FALSE NEIGHBOUR: 'it returns false'. Refute it at one input. -/
def fuelGrowsWrong : ChangeSpec := { name := "fuelGrows", fn := fun _ => fun
  | [d1, d2, d3] => { results := [.lit (.bool false)], args := [d1, d2, d3] }
  | _ => none }
def FuelGrowsWrongFalsely : Prop := fuelGrowsRow.holds Try.pinned (OpenSpec.ofChange fuelGrowsWrong)

/-- 'surdlaw18.FuelNones': WHATEVER THE INPUT: true; the input reads as it did. -/
def fuelNonesSpec : ChangeSpec := { name := "fuelNones", fn := fun _ => fun
  | [d1, d2] => { results := [.lit (.bool true)], args := [d1, d2] }
  | _ => none }
def fuelNonesRow : OpenClaim := { program := "ytflipimlpgbnmaa", sum := "af31dc96cc54b6884568748d627280f7d3352019e458aff9b32990a9bb5a72fd", func := "surd/surdlaw18.FuelNones", spec := "fuelNones", inPlace := ["math/bits.Add64"], apart := false }
def FuelNonesSaid : Prop := fuelNonesRow.holds Try.pinned (OpenSpec.ofChange fuelNonesSpec)

/-- ITS FALSE NEIGHBOUR: 'it returns false'. Refute it at one input. -/
def fuelNonesWrong : ChangeSpec := { name := "fuelNones", fn := fun _ => fun
  | [d1, d2] => { results := [.lit (.bool false)], args := [d1, d2] }
  | _ => none }
def FuelNonesWrongFalsely : Prop := fuelNonesRow.holds Try.pinned (OpenSpec.ofChange fuelNonesWrong)

/-- 'surdlaw18.FuelMeters': WHATEVER THE INPUT: true; the input reads as it did. -/
def fuelMetersSpec : ChangeSpec := { name := "fuelMeters", fn := fun _ => fun
  | [d] => { results := [.lit (.bool true)], args := [d] }
  | _ => none }
def fuelMetersRow : OpenClaim := { program := "ytflipimlpgbnmaa", sum := "af31dc96cc54b6884568748d627280f7d3352019e458aff9b32990a9bb5a72fd", func := "surd/surdlaw18.FuelMeters", spec := "fuelMeters", inPlace := ["math/bits.Add64"], apart := false }
def FuelMetersSaid : Prop := fuelMetersRow.holds Try.pinned (OpenSpec.ofChange fuelMetersSpec)

/-- ITS FALSE NEIGHBOUR: 'it returns false'. Refute it at one input. -/
def fuelMetersWrong : ChangeSpec := { name := "fuelMeters", fn := fun _ => fun
  | [d] => { results := [.lit (.bool false)], args := [d] }
  | _ => none }
def FuelMetersWrongFalsely : Prop := fuelMetersRow.holds Try.pinned (OpenSpec.ofChange fuelMetersWrong)

/-- 'surdlaw18.FuelParses': WHATEVER THE INPUT: true; the input reads as it did. -/
def fuelParsesSpec : ChangeSpec := { name := "fuelParses", fn := fun _ => fun
  | [d] => { results := [.lit (.bool true)], args := [d] }
  | _ => none }
def fuelParsesRow : OpenClaim := { program := "ytflipimlpgbnmaa", sum := "af31dc96cc54b6884568748d627280f7d3352019e458aff9b32990a9bb5a72fd", func := "surd/surdlaw18.FuelParses", spec := "fuelParses", inPlace := ["math/bits.Add64", "math/bits.Sub64"], unfollowed := true, recurses := true, apart := false }
def FuelParsesSaid : Prop := fuelParsesRow.holds Try.pinned (OpenSpec.ofChange fuelParsesSpec)

/-- ITS FALSE NEIGHBOUR: 'it returns false'. Refute it at one input. -/
def fuelParsesWrong : ChangeSpec := { name := "fuelParses", fn := fun _ => fun
  | [d] => { results := [.lit (.bool false)], args := [d] }
  | _ => none }
def FuelParsesWrongFalsely : Prop := fuelParsesRow.holds Try.pinned (OpenSpec.ofChange fuelParsesWrong)

/-- 'surdlaw18.FuelTexts': WHATEVER THE INPUT: true; the input reads as it did. -/
def fuelTextsSpec : ChangeSpec := { name := "fuelTexts", fn := fun _ => fun
  | [d] => { results := [.lit (.bool true)], args := [d] }
  | _ => none }
def fuelTextsRow : OpenClaim := { program := "ytflipimlpgbnmaa", sum := "af31dc96cc54b6884568748d627280f7d3352019e458aff9b32990a9bb5a72fd", func := "surd/surdlaw18.FuelTexts", spec := "fuelTexts", inPlace := ["math/bits.Add64", "math/bits.Sub64"], unfollowed := true, recurses := true, apart := false }
def FuelTextsSaid : Prop := fuelTextsRow.holds Try.pinned (OpenSpec.ofChange fuelTextsSpec)

/-- ITS FALSE NEIGHBOUR: 'it returns false'. Refute it at one input. -/
def fuelTextsWrong : ChangeSpec := { name := "fuelTexts", fn := fun _ => fun
  | [d] => { results := [.lit (.bool false)], args := [d] }
  | _ => none }
def FuelTextsWrongFalsely : Prop := fuelTextsRow.holds Try.pinned (OpenSpec.ofChange fuelTextsWrong)

/- THE SECOND FORM. 'bulk': how many values and letters a reading holds, each counted each time it is reached (what is shared counts as often as it is met; a slice's spare places count too). A statement '..UptoSaid' is the law's where the arguments, and the package variables that the reading takes, are together of bulk at most 1048576: NARROWER than '..Said'. Prove '..Said' where nothing that the law and all that it calls make is longer than what came in: it says more and counts as full. Else prove '..UptoSaid'. A law counts once. -/
mutual
def uptoBulk {H : Type} : DataW H → Nat
  | .lit (.string bytes) => bytes.length + 1
  | .lit _ => 1
  | .nil => 1
  | .ptr d => uptoBulk d + 1
  | .slice elems spare => uptoBulkAll elems + uptoBulkAll spare + 1
  | .agg parts => uptoBulkAll parts + 1
  | .iface _ d => uptoBulk d + 1
  | .map entries => uptoBulkEntries entries + 1
  | .held _ => 1
def uptoBulkAll {H : Type} : List (DataW H) → Nat
  | [] => 0
  | d :: r => uptoBulk d + uptoBulkAll r
def uptoBulkEntries {H : Type} : List (Lit × DataW H) → Nat
  | [] => 0
  | x :: r => uptoBulkEntry x + uptoBulkEntries r
def uptoBulkEntry {H : Type} : Lit × DataW H → Nat
  | (.string bytes, d) => bytes.length + uptoBulk d + 1
  | (_, d) => uptoBulk d + 1
 end
def uptoSmall : (H : Type) → List (DataW H) → Bool := fun _ ds => decide (uptoBulkAll ds ≤ 1048576)
def OpenSpec.upto (s : _root_.Go.ChangeSpec) : _root_.Go.OpenSpec := { _root_.Go.OpenSpec.ofChange s with cond := some uptoSmall }

/-- 'surdlaw18.FuelNames', WHERE WHAT IT READS IS OF BULK AT MOST 1048576: true; the input reads as it did. -/
def fuelNamesUptoRow : OpenClaim := { program := "ytflipimlpgbnmaa", sum := "af31dc96cc54b6884568748d627280f7d3352019e458aff9b32990a9bb5a72fd", func := "surd/surdlaw18.FuelNames", spec := "fuelNames", apart := false, narrowed := true }
def FuelNamesUptoSaid : Prop := fuelNamesUptoRow.holds Try.pinned (OpenSpec.upto fuelNamesSpec)

/-- 'surdlaw18.FuelReaches', WHERE WHAT IT READS IS OF BULK AT MOST 1048576: true; the input reads as it did. -/
def fuelReachesUptoRow : OpenClaim := { program := "ytflipimlpgbnmaa", sum := "af31dc96cc54b6884568748d627280f7d3352019e458aff9b32990a9bb5a72fd", func := "surd/surdlaw18.FuelReaches", spec := "fuelReaches", apart := false, narrowed := true }
def FuelReachesUptoSaid : Prop := fuelReachesUptoRow.holds Try.pinned (OpenSpec.upto fuelReachesSpec)

/-- 'surdlaw18.FuelAttempts', WHERE WHAT IT READS IS OF BULK AT MOST 1048576: true; the input reads as it did. -/
def fuelAttemptsUptoRow : OpenClaim := { program := "ytflipimlpgbnmaa", sum := "af31dc96cc54b6884568748d627280f7d3352019e458aff9b32990a9bb5a72fd", func := "surd/surdlaw18.FuelAttempts", spec := "fuelAttempts", unfollowed := true, recurses := true, apart := false, narrowed := true }
def FuelAttemptsUptoSaid : Prop := fuelAttemptsUptoRow.holds Try.pinned (OpenSpec.upto fuelAttemptsSpec)

/-- 'surdlaw18.FuelGrows', WHERE WHAT IT READS IS OF BULK AT MOST 1048576: true; the input reads as it did. -/
def fuelGrowsUptoRow : OpenClaim := { program := "ytflipimlpgbnmaa", sum := "af31dc96cc54b6884568748d627280f7d3352019e458aff9b32990a9bb5a72fd", func := "surd/surdlaw18.FuelGrows", spec := "fuelGrows", inPlace := ["math/bits.Add64"], apart := false, narrowed := true }
def FuelGrowsUptoSaid : Prop := fuelGrowsUptoRow.holds Try.pinned (OpenSpec.upto fuelGrowsSpec)

/-- 'surdlaw18.FuelNones', WHERE WHAT IT READS IS OF BULK AT MOST 1048576: true; the input reads as it did. -/
def fuelNonesUptoRow : OpenClaim := { program := "ytflipimlpgbnmaa", sum := "af31dc96cc54b6884568748d627280f7d3352019e458aff9b32990a9bb5a72fd", func := "surd/surdlaw18.FuelNones", spec := "fuelNones", inPlace := ["math/bits.Add64"], apart := false, narrowed := true }
def FuelNonesUptoSaid : Prop := fuelNonesUptoRow.holds Try.pinned (OpenSpec.upto fuelNonesSpec)

/-- 'surdlaw18.FuelMeters', WHERE WHAT IT READS IS OF BULK AT MOST 1048576: true; the input reads as it did. -/
def fuelMetersUptoRow : OpenClaim := { program := "ytflipimlpgbnmaa", sum := "af31dc96cc54b6884568748d627280f7d3352019e458aff9b32990a9bb5a72fd", func := "surd/surdlaw18.FuelMeters", spec := "fuelMeters", inPlace := ["math/bits.Add64"], apart := false, narrowed := true }
def FuelMetersUptoSaid : Prop := fuelMetersUptoRow.holds Try.pinned (OpenSpec.upto fuelMetersSpec)

/-- 'surdlaw18.FuelParses', WHERE WHAT IT READS IS OF BULK AT MOST 1048576: true; the input reads as it did. -/
def fuelParsesUptoRow : OpenClaim := { program := "ytflipimlpgbnmaa", sum := "af31dc96cc54b6884568748d627280f7d3352019e458aff9b32990a9bb5a72fd", func := "surd/surdlaw18.FuelParses", spec := "fuelParses", inPlace := ["math/bits.Add64", "math/bits.Sub64"], unfollowed := true, recurses := true, apart := false, narrowed := true }
def FuelParsesUptoSaid : Prop := fuelParsesUptoRow.holds Try.pinned (OpenSpec.upto fuelParsesSpec)

/-- 'surdlaw18.FuelTexts', WHERE WHAT IT READS IS OF BULK AT MOST 1048576: true; the input reads as it did. -/
def fuelTextsUptoRow : OpenClaim := { program := "ytflipimlpgbnmaa", sum := "af31dc96cc54b6884568748d627280f7d3352019e458aff9b32990a9bb5a72fd", func := "surd/surdlaw18.FuelTexts", spec := "fuelTexts", inPlace := ["math/bits.Add64", "math/bits.Sub64"], unfollowed := true, recurses := true, apart := false, narrowed := true }
def FuelTextsUptoSaid : Prop := fuelTextsUptoRow.holds Try.pinned (OpenSpec.upto fuelTextsSpec)

end Rows
end Go.Proofs.Ytflipimlpgbnmaa
