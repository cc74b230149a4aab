/-
  NARROWER THAN 'FOR EVERY INPUT', by the rows' own cells (each row's printed sentence says how): DyadicNames: laid · DyadicScales: laid · DyadicMakes: laid · DyadicRounds: laid · DyadicCuts: laid · DyadicOrders: laid · DyadicRatios: laid · DyadicNear: laid · DyadicShort: laid · DyadicTwice: laid.
  DERIVED. THE GIVEN ROWS OF THIS SEAT. 10 by the template 'for every input the law returns true; each argument reads behind the call as it read before'; 0 by the template 'total and deterministic' (their statements: YthhbjhdnaopcnaaDoorTotals.lean).
  GIVEN WITH THE SEED: the statements are not yours to turn. If you find one false, say at which input.
  Laid BY PROGRAM, IN A SANDBOX (cutbox-rows.mjs): the forced cells as the released guide's own fill.sh prints them over the translation 53768db47e88d5eb… (all of the seat's roots in one cut). By AI agents, Wed Nov 11 2026. No macro, syntax, notation, axiom, sorry.
-/
import Derived.Test.YthhbjhdnaopcnaaDoorChecked
import GoSem.Claim
import GoSem.ClaimJoined
import GoSem.ClaimMapViews
import Derived.JoinedTies
import Derived.KernelRfl
namespace Go.Proofs.YthhbjhdnaopcnaaDoor
/- THE CELL 'sum', in the pinned program and in every row, IS THE sha256 OF THE DUMP (.gsa) THAT YthhbjhdnaopcnaaDoorProg.lean LOADS. Nothing in Lean hashes anything: it is a label: what it is worth is what the hold of that sum in a sandbox is worth. -/
noncomputable def Tryd.pinned : Pinned := { name := "ythhbjhdnaopcnaadoor", sum := "53768db47e88d5ebcf5d4a683abf05b74b486489d6aa94f710d5b378a4f9c054", checked := Tryd.checked }
namespace Rows
def none {H : Type} : Left H := { results := [], args := [] }

/- WHAT THE LISTED PACKAGE-LEVEL VARIABLES READ AS WHEN THE CALL BEGINS. Each datum BY PROGRAM (the guide's laid-datum.mjs) off the statement by which the dump's own 'gosem.cut.vars' lays the variable. In a bare row this is a premise. The card (YthhbjhdnaopcnaaDoorCards.lean) ties it to the program's text. -/
def laid_math_bits_deBruijn64tab {H : Type} : DataW H := .agg [.lit (.int .u8 0), .lit (.int .u8 1), .lit (.int .u8 56), .lit (.int .u8 2), .lit (.int .u8 57), .lit (.int .u8 49), .lit (.int .u8 28), .lit (.int .u8 3), .lit (.int .u8 61), .lit (.int .u8 58), .lit (.int .u8 42), .lit (.int .u8 50), .lit (.int .u8 38), .lit (.int .u8 29), .lit (.int .u8 17), .lit (.int .u8 4), .lit (.int .u8 62), .lit (.int .u8 47), .lit (.int .u8 59), .lit (.int .u8 36), .lit (.int .u8 45), .lit (.int .u8 43), .lit (.int .u8 51), .lit (.int .u8 22), .lit (.int .u8 53), .lit (.int .u8 39), .lit (.int .u8 33), .lit (.int .u8 30), .lit (.int .u8 24), .lit (.int .u8 18), .lit (.int .u8 12), .lit (.int .u8 5), .lit (.int .u8 63), .lit (.int .u8 55), .lit (.int .u8 48), .lit (.int .u8 27), .lit (.int .u8 60), .lit (.int .u8 41), .lit (.int .u8 37), .lit (.int .u8 16), .lit (.int .u8 46), .lit (.int .u8 35), .lit (.int .u8 44), .lit (.int .u8 21), .lit (.int .u8 52), .lit (.int .u8 32), .lit (.int .u8 23), .lit (.int .u8 11), .lit (.int .u8 54), .lit (.int .u8 26), .lit (.int .u8 40), .lit (.int .u8 15), .lit (.int .u8 34), .lit (.int .u8 20), .lit (.int .u8 31), .lit (.int .u8 10), .lit (.int .u8 25), .lit (.int .u8 14), .lit (.int .u8 19), .lit (.int .u8 9), .lit (.int .u8 13), .lit (.int .u8 8), .lit (.int .u8 7), .lit (.int .u8 6)]

/-- 'surdlaw08.DyadicNames': WHATEVER THE INPUT: true; the input reads as it did. -/
def dyadicNamesSpec : ChangeSpec := { name := "dyadicNames", fn := fun _ => fun
  | [] => { results := [.lit (.bool true)], args := [] }
  | _ => none }
def dyadicNamesRow : OpenClaim := { program := "ythhbjhdnaopcnaadoor", sum := "53768db47e88d5ebcf5d4a683abf05b74b486489d6aa94f710d5b378a4f9c054", func := "surd/surdlaw08.DyadicNames", spec := "dyadicNames", named := ["math/bits.deBruijn64tab"], apart := false, laid := [("math/bits.deBruijn64tab", laid_math_bits_deBruijn64tab)] }
def DyadicNamesSaid : Prop := dyadicNamesRow.holds Tryd.pinned (OpenSpec.ofChange dyadicNamesSpec)

/-- ITS FALSE NEIGHBOUR: 'it returns false'. Refute it at one input. -/
def dyadicNamesWrong : ChangeSpec := { name := "dyadicNames", fn := fun _ => fun
  | [] => { results := [.lit (.bool false)], args := [] }
  | _ => none }
def DyadicNamesWrongFalsely : Prop := dyadicNamesRow.holds Tryd.pinned (OpenSpec.ofChange dyadicNamesWrong)

/-- 'surdlaw08.DyadicScales': WHATEVER THE INPUT: true; the input reads as it did. -/
def dyadicScalesSpec : ChangeSpec := { name := "dyadicScales", fn := fun _ => fun
  | [d1, d2, d3] => { results := [.lit (.bool true)], args := [d1, d2, d3] }
  | _ => none }
def dyadicScalesRow : OpenClaim := { program := "ythhbjhdnaopcnaadoor", sum := "53768db47e88d5ebcf5d4a683abf05b74b486489d6aa94f710d5b378a4f9c054", func := "surd/surdlaw08.DyadicScales", spec := "dyadicScales", named := ["math/bits.deBruijn64tab"], apart := false, laid := [("math/bits.deBruijn64tab", laid_math_bits_deBruijn64tab)] }
def DyadicScalesSaid : Prop := dyadicScalesRow.holds Tryd.pinned (OpenSpec.ofChange dyadicScalesSpec)

/-- ITS FALSE NEIGHBOUR: 'it returns false'. Refute it at one input. -/
def dyadicScalesWrong : ChangeSpec := { name := "dyadicScales", fn := fun _ => fun
  | [d1, d2, d3] => { results := [.lit (.bool false)], args := [d1, d2, d3] }
  | _ => none }
def DyadicScalesWrongFalsely : Prop := dyadicScalesRow.holds Tryd.pinned (OpenSpec.ofChange dyadicScalesWrong)

/-- 'surdlaw08.DyadicMakes': WHATEVER THE INPUT: true; the input reads as it did. -/
def dyadicMakesSpec : ChangeSpec := { name := "dyadicMakes", fn := fun _ => fun
  | [d1, d2] => { results := [.lit (.bool true)], args := [d1, d2] }
  | _ => none }
def dyadicMakesRow : OpenClaim := { program := "ythhbjhdnaopcnaadoor", sum := "53768db47e88d5ebcf5d4a683abf05b74b486489d6aa94f710d5b378a4f9c054", func := "surd/surdlaw08.DyadicMakes", spec := "dyadicMakes", named := ["math/bits.deBruijn64tab"], apart := false, laid := [("math/bits.deBruijn64tab", laid_math_bits_deBruijn64tab)] }
def DyadicMakesSaid : Prop := dyadicMakesRow.holds Tryd.pinned (OpenSpec.ofChange dyadicMakesSpec)

/-- ITS FALSE NEIGHBOUR: 'it returns false'. Refute it at one input. -/
def dyadicMakesWrong : ChangeSpec := { name := "dyadicMakes", fn := fun _ => fun
  | [d1, d2] => { results := [.lit (.bool false)], args := [d1, d2] }
  | _ => none }
def DyadicMakesWrongFalsely : Prop := dyadicMakesRow.holds Tryd.pinned (OpenSpec.ofChange dyadicMakesWrong)

/-- 'surdlaw08.DyadicRounds': WHATEVER THE INPUT: true; the input reads as it did. -/
def dyadicRoundsSpec : ChangeSpec := { name := "dyadicRounds", fn := fun _ => fun
  | [d1, d2, d3] => { results := [.lit (.bool true)], args := [d1, d2, d3] }
  | _ => none }
def dyadicRoundsRow : OpenClaim := { program := "ythhbjhdnaopcnaadoor", sum := "53768db47e88d5ebcf5d4a683abf05b74b486489d6aa94f710d5b378a4f9c054", func := "surd/surdlaw08.DyadicRounds", spec := "dyadicRounds", named := ["math/bits.deBruijn64tab"], apart := false, laid := [("math/bits.deBruijn64tab", laid_math_bits_deBruijn64tab)] }
def DyadicRoundsSaid : Prop := dyadicRoundsRow.holds Tryd.pinned (OpenSpec.ofChange dyadicRoundsSpec)

/-- ITS FALSE NEIGHBOUR: 'it returns false'. Refute it at one input. -/
def dyadicRoundsWrong : ChangeSpec := { name := "dyadicRounds", fn := fun _ => fun
  | [d1, d2, d3] => { results := [.lit (.bool false)], args := [d1, d2, d3] }
  | _ => none }
def DyadicRoundsWrongFalsely : Prop := dyadicRoundsRow.holds Tryd.pinned (OpenSpec.ofChange dyadicRoundsWrong)

/-- 'surdlaw08.DyadicCuts': WHATEVER THE INPUT: true; the input reads as it did. -/
def dyadicCutsSpec : ChangeSpec := { name := "dyadicCuts", fn := fun _ => fun
  | [d1, d2, d3] => { results := [.lit (.bool true)], args := [d1, d2, d3] }
  | _ => none }
def dyadicCutsRow : OpenClaim := { program := "ythhbjhdnaopcnaadoor", sum := "53768db47e88d5ebcf5d4a683abf05b74b486489d6aa94f710d5b378a4f9c054", func := "surd/surdlaw08.DyadicCuts", spec := "dyadicCuts", named := ["math/bits.deBruijn64tab"], apart := false, laid := [("math/bits.deBruijn64tab", laid_math_bits_deBruijn64tab)] }
def DyadicCutsSaid : Prop := dyadicCutsRow.holds Tryd.pinned (OpenSpec.ofChange dyadicCutsSpec)

/-- ITS FALSE NEIGHBOUR: 'it returns false'. Refute it at one input. -/
def dyadicCutsWrong : ChangeSpec := { name := "dyadicCuts", fn := fun _ => fun
  | [d1, d2, d3] => { results := [.lit (.bool false)], args := [d1, d2, d3] }
  | _ => none }
def DyadicCutsWrongFalsely : Prop := dyadicCutsRow.holds Tryd.pinned (OpenSpec.ofChange dyadicCutsWrong)

/-- 'surdlaw08.DyadicOrders': WHATEVER THE INPUT: true; the input reads as it did. -/
def dyadicOrdersSpec : ChangeSpec := { name := "dyadicOrders", fn := fun _ => fun
  | [d1, d2] => { results := [.lit (.bool true)], args := [d1, d2] }
  | _ => none }
def dyadicOrdersRow : OpenClaim := { program := "ythhbjhdnaopcnaadoor", sum := "53768db47e88d5ebcf5d4a683abf05b74b486489d6aa94f710d5b378a4f9c054", func := "surd/surdlaw08.DyadicOrders", spec := "dyadicOrders", inPlace := ["math/bits.Add64", "math/bits.Sub64"], named := ["math/bits.deBruijn64tab"], apart := false, laid := [("math/bits.deBruijn64tab", laid_math_bits_deBruijn64tab)] }
def DyadicOrdersSaid : Prop := dyadicOrdersRow.holds Tryd.pinned (OpenSpec.ofChange dyadicOrdersSpec)

/-- ITS FALSE NEIGHBOUR: 'it returns false'. Refute it at one input. -/
def dyadicOrdersWrong : ChangeSpec := { name := "dyadicOrders", fn := fun _ => fun
  | [d1, d2] => { results := [.lit (.bool false)], args := [d1, d2] }
  | _ => none }
def DyadicOrdersWrongFalsely : Prop := dyadicOrdersRow.holds Tryd.pinned (OpenSpec.ofChange dyadicOrdersWrong)

/-- 'surdlaw08.DyadicRatios': WHATEVER THE INPUT: true; the input reads as it did. -/
def dyadicRatiosSpec : ChangeSpec := { name := "dyadicRatios", fn := fun _ => fun
  | [d] => { results := [.lit (.bool true)], args := [d] }
  | _ => none }
def dyadicRatiosRow : OpenClaim := { program := "ythhbjhdnaopcnaadoor", sum := "53768db47e88d5ebcf5d4a683abf05b74b486489d6aa94f710d5b378a4f9c054", func := "surd/surdlaw08.DyadicRatios", spec := "dyadicRatios", inPlace := ["math/bits.Add64", "math/bits.Sub64"], unfollowed := true, recurses := true, named := ["math/bits.deBruijn64tab", "math/bits.divideError", "math/bits.overflowError"], apart := false, laid := [("math/bits.deBruijn64tab", laid_math_bits_deBruijn64tab)] }
def DyadicRatiosSaid : Prop := dyadicRatiosRow.holds Tryd.pinned (OpenSpec.ofChange dyadicRatiosSpec)

/-- ITS FALSE NEIGHBOUR: 'it returns false'. Refute it at one input. -/
def dyadicRatiosWrong : ChangeSpec := { name := "dyadicRatios", fn := fun _ => fun
  | [d] => { results := [.lit (.bool false)], args := [d] }
  | _ => none }
def DyadicRatiosWrongFalsely : Prop := dyadicRatiosRow.holds Tryd.pinned (OpenSpec.ofChange dyadicRatiosWrong)

/-- 'surdlaw08.DyadicNear': WHATEVER THE INPUT: true; the input reads as it did. -/
def dyadicNearSpec : ChangeSpec := { name := "dyadicNear", fn := fun _ => fun
  | [d1, d2] => { results := [.lit (.bool true)], args := [d1, d2] }
  | _ => none }
def dyadicNearRow : OpenClaim := { program := "ythhbjhdnaopcnaadoor", sum := "53768db47e88d5ebcf5d4a683abf05b74b486489d6aa94f710d5b378a4f9c054", func := "surd/surdlaw08.DyadicNear", spec := "dyadicNear", named := ["math/bits.deBruijn64tab"], apart := false, laid := [("math/bits.deBruijn64tab", laid_math_bits_deBruijn64tab)] }
def DyadicNearSaid : Prop := dyadicNearRow.holds Tryd.pinned (OpenSpec.ofChange dyadicNearSpec)

/-- ITS FALSE NEIGHBOUR: 'it returns false'. Refute it at one input. -/
def dyadicNearWrong : ChangeSpec := { name := "dyadicNear", fn := fun _ => fun
  | [d1, d2] => { results := [.lit (.bool false)], args := [d1, d2] }
  | _ => none }
def DyadicNearWrongFalsely : Prop := dyadicNearRow.holds Tryd.pinned (OpenSpec.ofChange dyadicNearWrong)

/-- 'surdlaw08.DyadicShort': WHATEVER THE INPUT: true; the input reads as it did. -/
def dyadicShortSpec : ChangeSpec := { name := "dyadicShort", fn := fun _ => fun
  | [d1, d2, d3] => { results := [.lit (.bool true)], args := [d1, d2, d3] }
  | _ => none }
def dyadicShortRow : OpenClaim := { program := "ythhbjhdnaopcnaadoor", sum := "53768db47e88d5ebcf5d4a683abf05b74b486489d6aa94f710d5b378a4f9c054", func := "surd/surdlaw08.DyadicShort", spec := "dyadicShort", named := ["math/bits.deBruijn64tab"], apart := false, laid := [("math/bits.deBruijn64tab", laid_math_bits_deBruijn64tab)] }
def DyadicShortSaid : Prop := dyadicShortRow.holds Tryd.pinned (OpenSpec.ofChange dyadicShortSpec)

/-- ITS FALSE NEIGHBOUR: 'it returns false'. Refute it at one input. -/
def dyadicShortWrong : ChangeSpec := { name := "dyadicShort", fn := fun _ => fun
  | [d1, d2, d3] => { results := [.lit (.bool false)], args := [d1, d2, d3] }
  | _ => none }
def DyadicShortWrongFalsely : Prop := dyadicShortRow.holds Tryd.pinned (OpenSpec.ofChange dyadicShortWrong)

/-- 'surdlaw08.DyadicTwice': WHATEVER THE INPUT: true; the input reads as it did. -/
def dyadicTwiceSpec : ChangeSpec := { name := "dyadicTwice", fn := fun _ => fun
  | [d1, d2, d3] => { results := [.lit (.bool true)], args := [d1, d2, d3] }
  | _ => none }
def dyadicTwiceRow : OpenClaim := { program := "ythhbjhdnaopcnaadoor", sum := "53768db47e88d5ebcf5d4a683abf05b74b486489d6aa94f710d5b378a4f9c054", func := "surd/surdlaw08.DyadicTwice", spec := "dyadicTwice", named := ["math/bits.deBruijn64tab"], apart := false, laid := [("math/bits.deBruijn64tab", laid_math_bits_deBruijn64tab)] }
def DyadicTwiceSaid : Prop := dyadicTwiceRow.holds Tryd.pinned (OpenSpec.ofChange dyadicTwiceSpec)

/-- ITS FALSE NEIGHBOUR: 'it returns false'. Refute it at one input. -/
def dyadicTwiceWrong : ChangeSpec := { name := "dyadicTwice", fn := fun _ => fun
  | [d1, d2, d3] => { results := [.lit (.bool false)], args := [d1, d2, d3] }
  | _ => none }
def DyadicTwiceWrongFalsely : Prop := dyadicTwiceRow.holds Tryd.pinned (OpenSpec.ofChange dyadicTwiceWrong)

/- THE SECOND FORM. 'bulk': how many values and letters a reading holds, each counted each time it is reached (what is shared counts as often as it is met; a slice's spare places count too). A statement '..UptoSaid' is the law's where the arguments, and the package variables that the reading takes, are together of bulk at most 1048576: NARROWER than '..Said'. Prove '..Said' where nothing that the law and all that it calls make is longer than what came in: it says more and counts as full. Else prove '..UptoSaid'. A law counts once. -/
mutual
def uptoBulk {H : Type} : DataW H → Nat
  | .lit (.string bytes) => bytes.length + 1
  | .lit _ => 1
  | .nil => 1
  | .ptr d => uptoBulk d + 1
  | .slice elems spare => uptoBulkAll elems + uptoBulkAll spare + 1
  | .agg parts => uptoBulkAll parts + 1
  | .iface _ d => uptoBulk d + 1
  | .map entries => uptoBulkEntries entries + 1
  | .held _ => 1
def uptoBulkAll {H : Type} : List (DataW H) → Nat
  | [] => 0
  | d :: r => uptoBulk d + uptoBulkAll r
def uptoBulkEntries {H : Type} : List (Lit × DataW H) → Nat
  | [] => 0
  | x :: r => uptoBulkEntry x + uptoBulkEntries r
def uptoBulkEntry {H : Type} : Lit × DataW H → Nat
  | (.string bytes, d) => bytes.length + uptoBulk d + 1
  | (_, d) => uptoBulk d + 1
 end
def uptoSmall : (H : Type) → List (DataW H) → Bool := fun _ ds => decide (uptoBulkAll ds ≤ 1048576)
def OpenSpec.upto (s : _root_.Go.ChangeSpec) : _root_.Go.OpenSpec := { _root_.Go.OpenSpec.ofChange s with cond := some uptoSmall }

/-- 'surdlaw08.DyadicNames', WHERE WHAT IT READS IS OF BULK AT MOST 1048576: true; the input reads as it did. -/
def dyadicNamesUptoRow : OpenClaim := { program := "ythhbjhdnaopcnaadoor", sum := "53768db47e88d5ebcf5d4a683abf05b74b486489d6aa94f710d5b378a4f9c054", func := "surd/surdlaw08.DyadicNames", spec := "dyadicNames", named := ["math/bits.deBruijn64tab"], apart := false, laid := [("math/bits.deBruijn64tab", laid_math_bits_deBruijn64tab)], narrowed := true }
def DyadicNamesUptoSaid : Prop := dyadicNamesUptoRow.holds Tryd.pinned (OpenSpec.upto dyadicNamesSpec)

/-- 'surdlaw08.DyadicScales', WHERE WHAT IT READS IS OF BULK AT MOST 1048576: true; the input reads as it did. -/
def dyadicScalesUptoRow : OpenClaim := { program := "ythhbjhdnaopcnaadoor", sum := "53768db47e88d5ebcf5d4a683abf05b74b486489d6aa94f710d5b378a4f9c054", func := "surd/surdlaw08.DyadicScales", spec := "dyadicScales", named := ["math/bits.deBruijn64tab"], apart := false, laid := [("math/bits.deBruijn64tab", laid_math_bits_deBruijn64tab)], narrowed := true }
def DyadicScalesUptoSaid : Prop := dyadicScalesUptoRow.holds Tryd.pinned (OpenSpec.upto dyadicScalesSpec)

/-- 'surdlaw08.DyadicMakes', WHERE WHAT IT READS IS OF BULK AT MOST 1048576: true; the input reads as it did. -/
def dyadicMakesUptoRow : OpenClaim := { program := "ythhbjhdnaopcnaadoor", sum := "53768db47e88d5ebcf5d4a683abf05b74b486489d6aa94f710d5b378a4f9c054", func := "surd/surdlaw08.DyadicMakes", spec := "dyadicMakes", named := ["math/bits.deBruijn64tab"], apart := false, laid := [("math/bits.deBruijn64tab", laid_math_bits_deBruijn64tab)], narrowed := true }
def DyadicMakesUptoSaid : Prop := dyadicMakesUptoRow.holds Tryd.pinned (OpenSpec.upto dyadicMakesSpec)

/-- 'surdlaw08.DyadicRounds', WHERE WHAT IT READS IS OF BULK AT MOST 1048576: true; the input reads as it did. -/
def dyadicRoundsUptoRow : OpenClaim := { program := "ythhbjhdnaopcnaadoor", sum := "53768db47e88d5ebcf5d4a683abf05b74b486489d6aa94f710d5b378a4f9c054", func := "surd/surdlaw08.DyadicRounds", spec := "dyadicRounds", named := ["math/bits.deBruijn64tab"], apart := false, laid := [("math/bits.deBruijn64tab", laid_math_bits_deBruijn64tab)], narrowed := true }
def DyadicRoundsUptoSaid : Prop := dyadicRoundsUptoRow.holds Tryd.pinned (OpenSpec.upto dyadicRoundsSpec)

/-- 'surdlaw08.DyadicCuts', WHERE WHAT IT READS IS OF BULK AT MOST 1048576: true; the input reads as it did. -/
def dyadicCutsUptoRow : OpenClaim := { program := "ythhbjhdnaopcnaadoor", sum := "53768db47e88d5ebcf5d4a683abf05b74b486489d6aa94f710d5b378a4f9c054", func := "surd/surdlaw08.DyadicCuts", spec := "dyadicCuts", named := ["math/bits.deBruijn64tab"], apart := false, laid := [("math/bits.deBruijn64tab", laid_math_bits_deBruijn64tab)], narrowed := true }
def DyadicCutsUptoSaid : Prop := dyadicCutsUptoRow.holds Tryd.pinned (OpenSpec.upto dyadicCutsSpec)

/-- 'surdlaw08.DyadicOrders', WHERE WHAT IT READS IS OF BULK AT MOST 1048576: true; the input reads as it did. -/
def dyadicOrdersUptoRow : OpenClaim := { program := "ythhbjhdnaopcnaadoor", sum := "53768db47e88d5ebcf5d4a683abf05b74b486489d6aa94f710d5b378a4f9c054", func := "surd/surdlaw08.DyadicOrders", spec := "dyadicOrders", inPlace := ["math/bits.Add64", "math/bits.Sub64"], named := ["math/bits.deBruijn64tab"], apart := false, laid := [("math/bits.deBruijn64tab", laid_math_bits_deBruijn64tab)], narrowed := true }
def DyadicOrdersUptoSaid : Prop := dyadicOrdersUptoRow.holds Tryd.pinned (OpenSpec.upto dyadicOrdersSpec)

/-- 'surdlaw08.DyadicRatios', WHERE WHAT IT READS IS OF BULK AT MOST 1048576: true; the input reads as it did. -/
def dyadicRatiosUptoRow : OpenClaim := { program := "ythhbjhdnaopcnaadoor", sum := "53768db47e88d5ebcf5d4a683abf05b74b486489d6aa94f710d5b378a4f9c054", func := "surd/surdlaw08.DyadicRatios", spec := "dyadicRatios", inPlace := ["math/bits.Add64", "math/bits.Sub64"], unfollowed := true, recurses := true, named := ["math/bits.deBruijn64tab", "math/bits.divideError", "math/bits.overflowError"], apart := false, laid := [("math/bits.deBruijn64tab", laid_math_bits_deBruijn64tab)], narrowed := true }
def DyadicRatiosUptoSaid : Prop := dyadicRatiosUptoRow.holds Tryd.pinned (OpenSpec.upto dyadicRatiosSpec)

/-- 'surdlaw08.DyadicNear', WHERE WHAT IT READS IS OF BULK AT MOST 1048576: true; the input reads as it did. -/
def dyadicNearUptoRow : OpenClaim := { program := "ythhbjhdnaopcnaadoor", sum := "53768db47e88d5ebcf5d4a683abf05b74b486489d6aa94f710d5b378a4f9c054", func := "surd/surdlaw08.DyadicNear", spec := "dyadicNear", named := ["math/bits.deBruijn64tab"], apart := false, laid := [("math/bits.deBruijn64tab", laid_math_bits_deBruijn64tab)], narrowed := true }
def DyadicNearUptoSaid : Prop := dyadicNearUptoRow.holds Tryd.pinned (OpenSpec.upto dyadicNearSpec)

/-- 'surdlaw08.DyadicShort', WHERE WHAT IT READS IS OF BULK AT MOST 1048576: true; the input reads as it did. -/
def dyadicShortUptoRow : OpenClaim := { program := "ythhbjhdnaopcnaadoor", sum := "53768db47e88d5ebcf5d4a683abf05b74b486489d6aa94f710d5b378a4f9c054", func := "surd/surdlaw08.DyadicShort", spec := "dyadicShort", named := ["math/bits.deBruijn64tab"], apart := false, laid := [("math/bits.deBruijn64tab", laid_math_bits_deBruijn64tab)], narrowed := true }
def DyadicShortUptoSaid : Prop := dyadicShortUptoRow.holds Tryd.pinned (OpenSpec.upto dyadicShortSpec)

/-- 'surdlaw08.DyadicTwice', WHERE WHAT IT READS IS OF BULK AT MOST 1048576: true; the input reads as it did. -/
def dyadicTwiceUptoRow : OpenClaim := { program := "ythhbjhdnaopcnaadoor", sum := "53768db47e88d5ebcf5d4a683abf05b74b486489d6aa94f710d5b378a4f9c054", func := "surd/surdlaw08.DyadicTwice", spec := "dyadicTwice", named := ["math/bits.deBruijn64tab"], apart := false, laid := [("math/bits.deBruijn64tab", laid_math_bits_deBruijn64tab)], narrowed := true }
def DyadicTwiceUptoSaid : Prop := dyadicTwiceUptoRow.holds Tryd.pinned (OpenSpec.upto dyadicTwiceSpec)

end Rows
end Go.Proofs.YthhbjhdnaopcnaaDoor
