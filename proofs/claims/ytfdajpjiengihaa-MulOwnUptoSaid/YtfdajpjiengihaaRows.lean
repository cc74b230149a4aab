/-
  No cell of these rows narrows 'for every input' (looked for: loops, veiled, ifaces, maps, wideKeys, modest, calm, conditions, laid).
  DERIVED. THE GIVEN ROWS OF THIS SEAT. 4 by the template 'for every input the law returns true; each argument reads behind the call as it read before'; 0 by the template 'total and deterministic' (their statements: YtfdajpjiengihaaTotals.lean).
  GIVEN WITH THE SEED: the statements are not yours to turn. If you find one false, say at which input.
  Laid BY PROGRAM, IN A SANDBOX (cutbox-rows.mjs): the forced cells as the released guide's own fill.sh prints them over the translation eaa407b1d2a743b2… (all of the seat's roots in one cut). By AI agents, Wed Nov 11 2026. No macro, syntax, notation, axiom, sorry.
-/
import Derived.Test.YtfdajpjiengihaaChecked
import GoSem.Claim
import GoSem.ClaimJoined
import GoSem.ClaimMapViews
import Derived.JoinedTies
import Derived.KernelRfl
namespace Go.Proofs.Ytfdajpjiengihaa
/- THE CELL 'sum', in the pinned program and in every row, IS THE sha256 OF THE DUMP (.gsa) THAT YtfdajpjiengihaaProg.lean LOADS. Nothing in Lean hashes anything: it is a label: what it is worth is what the hold of that sum in a sandbox is worth. -/
noncomputable def Try.pinned : Pinned := { name := "ytfdajpjiengihaa", sum := "eaa407b1d2a743b25b84dccedf2b81fac8ed6b6e6874d431af29870504d3dc6d", checked := Try.checked }
namespace Rows
def none {H : Type} : Left H := { results := [], args := [] }

/-- 'surdlaw02.MulRecurs': WHATEVER THE INPUT: true; the input reads as it did. -/
def mulRecursSpec : ChangeSpec := { name := "mulRecurs", fn := fun _ => fun
  | [d1, d2] => { results := [.lit (.bool true)], args := [d1, d2] }
  | _ => none }
def mulRecursRow : OpenClaim := { program := "ytfdajpjiengihaa", sum := "eaa407b1d2a743b25b84dccedf2b81fac8ed6b6e6874d431af29870504d3dc6d", func := "surd/surdlaw02.MulRecurs", spec := "mulRecurs", inPlace := ["math/bits.Add64", "math/bits.Sub64"], unfollowed := true, recurses := true, named := ["math/bits.divideError", "math/bits.overflowError"], apart := false }
def MulRecursSaid : Prop := mulRecursRow.holds Try.pinned (OpenSpec.ofChange mulRecursSpec)

/-- ITS FALSE NEIGHBOUR: 'it returns false'. Refute it at one input. -/
def mulRecursWrong : ChangeSpec := { name := "mulRecurs", fn := fun _ => fun
  | [d1, d2] => { results := [.lit (.bool false)], args := [d1, d2] }
  | _ => none }
def MulRecursWrongFalsely : Prop := mulRecursRow.holds Try.pinned (OpenSpec.ofChange mulRecursWrong)

/-- 'surdlaw02.MulTooms': WHATEVER THE INPUT: true; the input reads as it did. -/
def mulToomsSpec : ChangeSpec := { name := "mulTooms", fn := fun _ => fun
  | [d1, d2, d3] => { results := [.lit (.bool true)], args := [d1, d2, d3] }
  | _ => none }
def mulToomsRow : OpenClaim := { program := "ytfdajpjiengihaa", sum := "eaa407b1d2a743b25b84dccedf2b81fac8ed6b6e6874d431af29870504d3dc6d", func := "surd/surdlaw02.MulTooms", spec := "mulTooms", inPlace := ["math/bits.Add64", "math/bits.Sub64"], unfollowed := true, recurses := true, named := ["math/bits.divideError", "math/bits.overflowError"], apart := false }
def MulToomsSaid : Prop := mulToomsRow.holds Try.pinned (OpenSpec.ofChange mulToomsSpec)

/-- ITS FALSE NEIGHBOUR: 'it returns false'. Refute it at one input. -/
def mulToomsWrong : ChangeSpec := { name := "mulTooms", fn := fun _ => fun
  | [d1, d2, d3] => { results := [.lit (.bool false)], args := [d1, d2, d3] }
  | _ => none }
def MulToomsWrongFalsely : Prop := mulToomsRow.holds Try.pinned (OpenSpec.ofChange mulToomsWrong)

/-- 'surdlaw02.MulMany': WHATEVER THE INPUT: true; the input reads as it did. -/
def mulManySpec : ChangeSpec := { name := "mulMany", fn := fun _ => fun
  | [d] => { results := [.lit (.bool true)], args := [d] }
  | _ => none }
def mulManyRow : OpenClaim := { program := "ytfdajpjiengihaa", sum := "eaa407b1d2a743b25b84dccedf2b81fac8ed6b6e6874d431af29870504d3dc6d", func := "surd/surdlaw02.MulMany", spec := "mulMany", inPlace := ["math/bits.Add64", "math/bits.Sub64"], unfollowed := true, recurses := true, apart := false }
def MulManySaid : Prop := mulManyRow.holds Try.pinned (OpenSpec.ofChange mulManySpec)

/-- ITS FALSE NEIGHBOUR: 'it returns false'. Refute it at one input. -/
def mulManyWrong : ChangeSpec := { name := "mulMany", fn := fun _ => fun
  | [d] => { results := [.lit (.bool false)], args := [d] }
  | _ => none }
def MulManyWrongFalsely : Prop := mulManyRow.holds Try.pinned (OpenSpec.ofChange mulManyWrong)

/-- 'surdlaw02.MulOwn': WHATEVER THE INPUT: true; the input reads as it did. -/
def mulOwnSpec : ChangeSpec := { name := "mulOwn", fn := fun _ => fun
  | [d1, d2, d3] => { results := [.lit (.bool true)], args := [d1, d2, d3] }
  | _ => none }
def mulOwnRow : OpenClaim := { program := "ytfdajpjiengihaa", sum := "eaa407b1d2a743b25b84dccedf2b81fac8ed6b6e6874d431af29870504d3dc6d", func := "surd/surdlaw02.MulOwn", spec := "mulOwn", inPlace := ["math/bits.Add64", "math/bits.Sub64"], unfollowed := true, recurses := true, apart := false }
def MulOwnSaid : Prop := mulOwnRow.holds Try.pinned (OpenSpec.ofChange mulOwnSpec)

/-- ITS FALSE NEIGHBOUR: 'it returns false'. Refute it at one input. -/
def mulOwnWrong : ChangeSpec := { name := "mulOwn", fn := fun _ => fun
  | [d1, d2, d3] => { results := [.lit (.bool false)], args := [d1, d2, d3] }
  | _ => none }
def MulOwnWrongFalsely : Prop := mulOwnRow.holds Try.pinned (OpenSpec.ofChange mulOwnWrong)

/- THE SECOND FORM. 'bulk': how many values and letters a reading holds, each counted each time it is reached (what is shared counts as often as it is met; a slice's spare places count too). A statement '..UptoSaid' is the law's where the arguments, and the package variables that the reading takes, are together of bulk at most 1048576: NARROWER than '..Said'. Prove '..Said' where nothing that the law and all that it calls make is longer than what came in: it says more and counts as full. Else prove '..UptoSaid'. A law counts once. -/
mutual
def uptoBulk {H : Type} : DataW H → Nat
  | .lit (.string bytes) => bytes.length + 1
  | .lit _ => 1
  | .nil => 1
  | .ptr d => uptoBulk d + 1
  | .slice elems spare => uptoBulkAll elems + uptoBulkAll spare + 1
  | .agg parts => uptoBulkAll parts + 1
  | .iface _ d => uptoBulk d + 1
  | .map entries => uptoBulkEntries entries + 1
  | .held _ => 1
def uptoBulkAll {H : Type} : List (DataW H) → Nat
  | [] => 0
  | d :: r => uptoBulk d + uptoBulkAll r
def uptoBulkEntries {H : Type} : List (Lit × DataW H) → Nat
  | [] => 0
  | x :: r => uptoBulkEntry x + uptoBulkEntries r
def uptoBulkEntry {H : Type} : Lit × DataW H → Nat
  | (.string bytes, d) => bytes.length + uptoBulk d + 1
  | (_, d) => uptoBulk d + 1
 end
def uptoSmall : (H : Type) → List (DataW H) → Bool := fun _ ds => decide (uptoBulkAll ds ≤ 1048576)
def OpenSpec.upto (s : _root_.Go.ChangeSpec) : _root_.Go.OpenSpec := { _root_.Go.OpenSpec.ofChange s with cond := some uptoSmall }

/-- 'surdlaw02.MulRecurs', WHERE WHAT IT READS IS OF BULK AT MOST 1048576: true; the input reads as it did. -/
def mulRecursUptoRow : OpenClaim := { program := "ytfdajpjiengihaa", sum := "eaa407b1d2a743b25b84dccedf2b81fac8ed6b6e6874d431af29870504d3dc6d", func := "surd/surdlaw02.MulRecurs", spec := "mulRecurs", inPlace := ["math/bits.Add64", "math/bits.Sub64"], unfollowed := true, recurses := true, named := ["math/bits.divideError", "math/bits.overflowError"], apart := false, narrowed := true }
def MulRecursUptoSaid : Prop := mulRecursUptoRow.holds Try.pinned (OpenSpec.upto mulRecursSpec)

/-- 'surdlaw02.MulTooms', WHERE WHAT IT READS IS OF BULK AT MOST 1048576: true; the input reads as it did. -/
def mulToomsUptoRow : OpenClaim := { program := "ytfdajpjiengihaa", sum := "eaa407b1d2a743b25b84dccedf2b81fac8ed6b6e6874d431af29870504d3dc6d", func := "surd/surdlaw02.MulTooms", spec := "mulTooms", inPlace := ["math/bits.Add64", "math/bits.Sub64"], unfollowed := true, recurses := true, named := ["math/bits.divideError", "math/bits.overflowError"], apart := false, narrowed := true }
def MulToomsUptoSaid : Prop := mulToomsUptoRow.holds Try.pinned (OpenSpec.upto mulToomsSpec)

/-- 'surdlaw02.MulMany', WHERE WHAT IT READS IS OF BULK AT MOST 1048576: true; the input reads as it did. -/
def mulManyUptoRow : OpenClaim := { program := "ytfdajpjiengihaa", sum := "eaa407b1d2a743b25b84dccedf2b81fac8ed6b6e6874d431af29870504d3dc6d", func := "surd/surdlaw02.MulMany", spec := "mulMany", inPlace := ["math/bits.Add64", "math/bits.Sub64"], unfollowed := true, recurses := true, apart := false, narrowed := true }
def MulManyUptoSaid : Prop := mulManyUptoRow.holds Try.pinned (OpenSpec.upto mulManySpec)

/-- 'surdlaw02.MulOwn', WHERE WHAT IT READS IS OF BULK AT MOST 1048576: true; the input reads as it did. -/
def mulOwnUptoRow : OpenClaim := { program := "ytfdajpjiengihaa", sum := "eaa407b1d2a743b25b84dccedf2b81fac8ed6b6e6874d431af29870504d3dc6d", func := "surd/surdlaw02.MulOwn", spec := "mulOwn", inPlace := ["math/bits.Add64", "math/bits.Sub64"], unfollowed := true, recurses := true, apart := false, narrowed := true }
def MulOwnUptoSaid : Prop := mulOwnUptoRow.holds Try.pinned (OpenSpec.upto mulOwnSpec)

end Rows
end Go.Proofs.Ytfdajpjiengihaa
