/- The laws of layer 1. No condition. -/
import Derived.Test.YthhbjhdnaopcnaaDoorNat2
import Derived.Test.YthhbjhdnaopcnaaDoorVcL01
namespace Go.Proofs.YthhbjhdnaopcnaaDoor
open Go Go.RowKit Eng Sp Dg
set_option linter.unusedVariables false
set_option linter.unusedSimpArgs false
set_option maxRecDepth 100000
namespace Nat

/-- A law's answer. -/
def Yes (w : World) (e : Ending) (w' : World) : Prop := e = .returned (.bool true) ∧ Ahead w w'

/-- A literal's slice of one limb. -/
theorem one_rd (w : World) (x : Nat) : Rd .u64 (w.alloc (.cells #[.int .u64 (x : Int)] tU64 (0, 0))) ⟨some ⟨w.heap.size, 0, none⟩, 1, 1⟩ (nn [x]) :=
  Own.rd (t := tU64) (b := w.heap.size) ⟨rfl, [], rfl, by rw [get_alloc]; rfl⟩
theorem ok_one {x : Nat} (h : x < B64) : ok B64 [x] := by intro y hy; simp at hy; omega
theorem val_one (x : Nat) : val B64 [x] = x := by simp [val]





end Nat
end Go.Proofs.YthhbjhdnaopcnaaDoor
