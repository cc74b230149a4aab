/- Verification conditions of some of the program's functions, printed by a program of this session. No condition. -/
import Derived.Test.YtaflfjbhlgbmdaaDoorProg
import Derived.Test.YtaflfjbhlgbmdaaDoorEng
namespace Go.Proofs.YtaflfjbhlgbmdaaDoor
open Go Go.RowKit Eng
set_option linter.unusedVariables false

set_option maxRecDepth 100000 in
/-- surd/surdlaw01.lives: function 22. -/
theorem surdlaw01_lives_vc  (w : World) (R : Ending → World → Prop)
    
    (h : newC w #[Value.int .u64 18446744073709551615] 38 fun ad1 w1 =>
    newC w1 #[Value.int .u64 1] 38 fun ad2 w2 =>
    Calls Tryd.prog 29 #[(⟨some ad1, 1, 1⟩ : Slc).v, (⟨some ad2, 1, 1⟩ : Slc).v] w2 fun e1 w3 =>
    ∃ s1 : Slc, ∃ x1 : Int, e1 = .returned (Value.tuple #[s1.v, Value.int .i64 x1]) ∧
    (newC w3 #[Value.int .u64 5] 38 fun ad3 w4 =>
      newC w4 #[Value.int .u64 7] 38 fun ad4 w5 =>
      Calls Tryd.prog 30 #[(⟨some ad3, 1, 1⟩ : Slc).v, (⟨some ad4, 1, 1⟩ : Slc).v] w5 fun e2 w6 =>
      ∃ s2 : Slc, ∃ x2 : Int, e2 = .returned (Value.tuple #[s2.v, Value.int .i64 x2]) ∧
      (br (x1 == 0)
        (br ((s1.n : Int) == 2)
          (semA Tryd.prog (Instr.indexAt 23 s1.v (Value.int .i64 0)) w6 fun ad5 w7 =>
            ldI .u64 ad5 w7 fun x3 =>
            br (x3 == 0)
            (semA Tryd.prog (Instr.indexAt 23 s1.v (Value.int .i64 1)) w7 fun ad6 w8 =>
              ldI .u64 ad6 w8 fun x4 =>
              br (x4 == 1)
              (br (x2 == 10)
                (newC w8 #[Value.int .u64 255] 38 fun ad7 w9 =>
                  Calls Tryd.prog 12 #[(⟨some ad7, 1, 1⟩ : Slc).v] w9 fun e3 w10 =>
                  ∃ x5 : Int, e3 = .returned (Value.int .i64 x5) ∧
                  (R (.returned (Value.bool (x5 == 8))) w10))
                (R (.returned (Value.bool false)) w8))
              (R (.returned (Value.bool false)) w8))
            (R (.returned (Value.bool false)) w7))
          (R (.returned (Value.bool false)) w6))
        (R (.returned (Value.bool false)) w6)))) :
    Calls Tryd.prog 22 #[] w R := by
  refine calls_of_vc (fun _ => none) (by kernel_rfl) Tryd.func22 rfl ?_ ?_
  · refine kcast h ?_; kernel_rfl
  · exact (obl_seq (obl_reg (obl_seq (obl_reg (obl_seq (obl_reg (obl_seq (obl_reg (obl_ret trivial)))))))))

end Go.Proofs.YtaflfjbhlgbmdaaDoor
