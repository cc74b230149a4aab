/- The contracts of nat's functions: Compare, Add, Sub. No condition. -/
import Derived.Test.YtindbeolpjkijaaNat1
import Derived.Shelf.Spec.BitsCarry
namespace Go.Proofs.Ytindbeolpjkijaa
open Go Go.RowKit Eng Sp Dg
set_option linter.unusedVariables false
set_option linter.unusedSimpArgs false
set_option maxRecDepth 100000
namespace Nat

theorem add64 {x y c : Nat} (hc : c ≤ 1) {w : World} {K : Int → Int → World → Prop} (hk : K (((x + y + c) % B64 : Nat) : Int) (((x + y + c) / B64 : Nat) : Int) w) :
    Sem.wp pr (callFunc bits_Add64_id #[.int .u64 (x : Int), .int .u64 (y : Int), .int .u64 (c : Int)]) (fun n w' => ∃ s : Int, ∃ o : Int, n = .value (.tuple #[.int .u64 s, .int .u64 o]) ∧ K s o w') (fun _ _ => False) w := by
  rw [Sem.wp_iff_run, run_callFunc_extern Try.func72 (by kernel_rfl) (by kernel_rfl) (by kernel_rfl) (e := add64Entry) (by kernel_rfl), run_add64 x y c (by omega) (by omega) (by omega) (by omega)]
  exact ⟨_, _, rfl, hk⟩
theorem sub64 {x y c : Nat} (hc : c ≤ 1) {w : World} {K : Int → Int → World → Prop} (hk : K (((x + B64 - y - c) % B64 : Nat) : Int) (((if x < y + c then 1 else 0) : Nat) : Int) w) :
    Sem.wp pr (callFunc bits_Sub64_id #[.int .u64 (x : Int), .int .u64 (y : Int), .int .u64 (c : Int)]) (fun n w' => ∃ s : Int, ∃ o : Int, n = .value (.tuple #[.int .u64 s, .int .u64 o]) ∧ K s o w') (fun _ _ => False) w := by
  rw [Sem.wp_iff_run, run_callFunc_extern Try.func76 (by kernel_rfl) (by kernel_rfl) (by kernel_rfl) (e := sub64Entry) (by kernel_rfl), run_sub64 x y c hc]
  exact ⟨_, _, rfl, hk⟩




end Nat
end Go.Proofs.Ytindbeolpjkijaa
