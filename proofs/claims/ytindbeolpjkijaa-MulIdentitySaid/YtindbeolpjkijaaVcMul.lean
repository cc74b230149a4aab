/- Verification conditions of some of the program's functions, printed by a program of this session. No condition. -/
import Derived.Test.YtindbeolpjkijaaProg
import Derived.Test.YtindbeolpjkijaaEng
namespace Go.Proofs.Ytindbeolpjkijaa
open Go Go.RowKit Eng
set_option linter.unusedVariables false

set_option maxRecDepth 100000 in
/-- surd/mul.Mul: function 21. -/
theorem mul_Mul_vc (a0_a : Slc) (a1_b : Slc) (w : World) (R : Ending → World → Prop)
    
    (h : Calls Try.prog 49 #[a0_a.v, a1_b.v, Value.func (Fn.func 50) #[] #[]] w fun e1 w1 =>
    ∃ s1 : Slc, ∃ x1 : Int, e1 = .returned (Value.tuple #[s1.v, Value.int .i64 x1]) ∧
    (R (.returned (Value.tuple #[s1.v, Value.int .i64 x1])) w1)) :
    Calls Try.prog 21 #[a0_a.v, a1_b.v] w R := by
  refine calls_of_vc (fun _ => none) (by kernel_rfl) Try.func21 rfl ?_ ?_
  · refine kcast h ?_; kernel_rfl
  · exact (obl_seq (obl_reg (obl_seq (obl_reg (obl_ret trivial)))))

set_option maxRecDepth 100000 in
/-- surd/mul.product: function 49. -/
theorem mul_product__mul_Mul_1_vc (a0_a : Slc) (a1_b : Slc) (w : World) (R : Ending → World → Prop)
    
    (h : Calls Try.prog 56 #[a0_a.v] w fun e1 w1 =>
    ∃ s1 : Slc, e1 = .returned s1.v ∧
    (Calls Try.prog 56 #[a1_b.v] w1 fun e2 w2 =>
      ∃ s2 : Slc, e2 = .returned s2.v ∧
      (Calls Try.prog 59 #[s1.v, s2.v] w2 fun e3 w3 =>
        ∃ b1 : Bool, e3 = .returned (Value.bool b1) ∧
        (br b1
          (R (.returned (Value.tuple #[(⟨none, 0, 0⟩ : Slc).v, Value.int .i64 3])) w3)
          (Calls Try.prog 50 #[s1.v, s2.v] w3 fun e4 w4 =>
            ∃ s3 : Slc, e4 = .returned s3.v ∧
            (Calls Try.prog 57 #[s3.v] w4 fun e5 w5 =>
              ∃ s4 : Slc, ∃ x1 : Int, e5 = .returned (Value.tuple #[s4.v, Value.int .i64 x1]) ∧
              (R (.returned (Value.tuple #[s4.v, Value.int .i64 x1])) w5))))))) :
    Calls Try.prog 49 #[a0_a.v, a1_b.v, Value.func (Fn.func 50) #[] #[]] w R := by
  refine calls_of_vc (fun _ => none) (by kernel_rfl) Try.func49 rfl ?_ ?_
  · refine kcast h ?_; kernel_rfl
  · exact (obl_seq (obl_reg (obl_seq (obl_reg (obl_seq (obl_seq (obl_reg (obl_cond (obl_seq (obl_reg (obl_ret (obl_skip (obl_seq (obl_reg (obl_ret trivial)))))))))))))))

set_option maxRecDepth 100000 in
/-- surd/mul.Mul$1: function 50. -/
theorem mul_Mul_1_vc (a0_a : Slc) (a1_b : Slc) (w : World) (R : Ending → World → Prop)
    
    (h : Calls Try.prog 51 #[a0_a.v, a1_b.v, Value.int .i64 40] w fun e1 w1 =>
    ∃ s1 : Slc, e1 = .returned s1.v ∧
    (R (.returned s1.v) w1)) :
    Calls Try.prog 50 #[a0_a.v, a1_b.v] w R := by
  refine calls_of_vc (fun _ => none) (by kernel_rfl) Try.func50 rfl ?_ ?_
  · refine kcast h ?_; kernel_rfl
  · exact (obl_seq (obl_reg (obl_seq (obl_reg (obl_ret trivial)))))

set_option maxRecDepth 100000 in
/-- surd/mul.halved: function 51. -/
theorem mul_halved_vc (a0 : Slc) (a1 : Slc) (a2 : Int) (w : World) (R : Ending → World → Prop)
    
    (h : br (decide ((a0.n : Int) < (a1.n : Int)))
    (br (decide ((a0.n : Int) < a2))
      (Calls Try.prog 53 #[a1.v, a0.v] w fun e1 w1 =>
        ∃ s1 : Slc, e1 = .returned s1.v ∧
        (R (.returned s1.v) w1))
      (br (decide ((a0.n : Int) ≤ (IntKind.i64.wrap (Int.tdiv (IntKind.i64.wrap ((a1.n : Int) + 1)) 2))))
        (semS Try.prog (Instr.makeSlice 32 (Value.int .i64 (IntKind.i64.wrap ((IntKind.i64.wrap ((a1.n : Int) + (a0.n : Int))) + 1))) (Value.int .i64 (IntKind.i64.wrap ((IntKind.i64.wrap ((a1.n : Int) + (a0.n : Int))) + 1)))) w fun s2 w2 =>
          Calls Try.prog 58 #[a1.v, Value.int .i64 0, Value.int .i64 (IntKind.i64.wrap (Int.tdiv (IntKind.i64.wrap ((a1.n : Int) + 1)) 2))] w2 fun e2 w3 =>
          ∃ s3 : Slc, e2 = .returned s3.v ∧
          (Calls Try.prog 51 #[s3.v, a0.v, Value.int .i64 a2] w3 fun e3 w4 =>
            ∃ s4 : Slc, e3 = .returned s4.v ∧
            (Calls Try.prog 69 #[s2.v, s4.v, Value.int .i64 0] w4 fun e4 w5 =>
              e4 = .returned (Value.tuple #[]) ∧
              (Calls Try.prog 58 #[a1.v, Value.int .i64 (IntKind.i64.wrap (Int.tdiv (IntKind.i64.wrap ((a1.n : Int) + 1)) 2)), Value.int .i64 (a1.n : Int)] w5 fun e5 w6 =>
                ∃ s5 : Slc, e5 = .returned s5.v ∧
                (Calls Try.prog 51 #[s5.v, a0.v, Value.int .i64 a2] w6 fun e6 w7 =>
                  ∃ s6 : Slc, e6 = .returned s6.v ∧
                  (Calls Try.prog 69 #[s2.v, s6.v, Value.int .i64 (IntKind.i64.wrap (Int.tdiv (IntKind.i64.wrap ((a1.n : Int) + 1)) 2))] w7 fun e7 w8 =>
                    e7 = .returned (Value.tuple #[]) ∧
                    (R (.returned s2.v) w8)))))))
        (Calls Try.prog 58 #[a1.v, Value.int .i64 0, Value.int .i64 (IntKind.i64.wrap (Int.tdiv (IntKind.i64.wrap ((a1.n : Int) + 1)) 2))] w fun e8 w9 =>
          ∃ s7 : Slc, e8 = .returned s7.v ∧
          (Calls Try.prog 58 #[a1.v, Value.int .i64 (IntKind.i64.wrap (Int.tdiv (IntKind.i64.wrap ((a1.n : Int) + 1)) 2)), Value.int .i64 (a1.n : Int)] w9 fun e9 w10 =>
            ∃ s8 : Slc, e9 = .returned s8.v ∧
            (Calls Try.prog 58 #[a0.v, Value.int .i64 0, Value.int .i64 (IntKind.i64.wrap (Int.tdiv (IntKind.i64.wrap ((a1.n : Int) + 1)) 2))] w10 fun e10 w11 =>
              ∃ s9 : Slc, e10 = .returned s9.v ∧
              (Calls Try.prog 58 #[a0.v, Value.int .i64 (IntKind.i64.wrap (Int.tdiv (IntKind.i64.wrap ((a1.n : Int) + 1)) 2)), Value.int .i64 (a0.n : Int)] w11 fun e11 w12 =>
                ∃ s10 : Slc, e11 = .returned s10.v ∧
                (Calls Try.prog 51 #[s7.v, s9.v, Value.int .i64 a2] w12 fun e12 w13 =>
                  ∃ s11 : Slc, e12 = .returned s11.v ∧
                  (Calls Try.prog 51 #[s8.v, s10.v, Value.int .i64 a2] w13 fun e13 w14 =>
                    ∃ s12 : Slc, e13 = .returned s12.v ∧
                    (Calls Try.prog 60 #[s7.v, s8.v] w14 fun e14 w15 =>
                      ∃ s13 : Slc, e14 = .returned s13.v ∧
                      (Calls Try.prog 56 #[s13.v] w15 fun e15 w16 =>
                        ∃ s14 : Slc, e15 = .returned s14.v ∧
                        (Calls Try.prog 60 #[s9.v, s10.v] w16 fun e16 w17 =>
                          ∃ s15 : Slc, e16 = .returned s15.v ∧
                          (Calls Try.prog 56 #[s15.v] w17 fun e17 w18 =>
                            ∃ s16 : Slc, e17 = .returned s16.v ∧
                            (Calls Try.prog 51 #[s14.v, s16.v, Value.int .i64 a2] w18 fun e18 w19 =>
                              ∃ s17 : Slc, e18 = .returned s17.v ∧
                              (Calls Try.prog 70 #[s17.v, s11.v] w19 fun e19 w20 =>
                                ∃ s18 : Slc, e19 = .returned s18.v ∧
                                (Calls Try.prog 70 #[s18.v, s12.v] w20 fun e20 w21 =>
                                  ∃ s19 : Slc, e20 = .returned s19.v ∧
                                  (semS Try.prog (Instr.makeSlice 32 (Value.int .i64 (IntKind.i64.wrap ((IntKind.i64.wrap ((a1.n : Int) + (a0.n : Int))) + 1))) (Value.int .i64 (IntKind.i64.wrap ((IntKind.i64.wrap ((a1.n : Int) + (a0.n : Int))) + 1)))) w21 fun s20 w22 =>
                                    Calls Try.prog 69 #[s20.v, s11.v, Value.int .i64 0] w22 fun e21 w23 =>
                                    e21 = .returned (Value.tuple #[]) ∧
                                    (Calls Try.prog 69 #[s20.v, s19.v, Value.int .i64 (IntKind.i64.wrap (Int.tdiv (IntKind.i64.wrap ((a1.n : Int) + 1)) 2))] w23 fun e22 w24 =>
                                      e22 = .returned (Value.tuple #[]) ∧
                                      (Calls Try.prog 69 #[s20.v, s12.v, Value.int .i64 (IntKind.i64.wrap (2 * (IntKind.i64.wrap (Int.tdiv (IntKind.i64.wrap ((a1.n : Int) + 1)) 2))))] w24 fun e23 w25 =>
                                        e23 = .returned (Value.tuple #[]) ∧
                                        (R (.returned s20.v) w25)))))))))))))))))))
    (br (decide ((a1.n : Int) < a2))
      (Calls Try.prog 53 #[a0.v, a1.v] w fun e24 w26 =>
        ∃ s21 : Slc, e24 = .returned s21.v ∧
        (R (.returned s21.v) w26))
      (br (decide ((a1.n : Int) ≤ (IntKind.i64.wrap (Int.tdiv (IntKind.i64.wrap ((a0.n : Int) + 1)) 2))))
        (semS Try.prog (Instr.makeSlice 32 (Value.int .i64 (IntKind.i64.wrap ((IntKind.i64.wrap ((a0.n : Int) + (a1.n : Int))) + 1))) (Value.int .i64 (IntKind.i64.wrap ((IntKind.i64.wrap ((a0.n : Int) + (a1.n : Int))) + 1)))) w fun s22 w27 =>
          Calls Try.prog 58 #[a0.v, Value.int .i64 0, Value.int .i64 (IntKind.i64.wrap (Int.tdiv (IntKind.i64.wrap ((a0.n : Int) + 1)) 2))] w27 fun e25 w28 =>
          ∃ s23 : Slc, e25 = .returned s23.v ∧
          (Calls Try.prog 51 #[s23.v, a1.v, Value.int .i64 a2] w28 fun e26 w29 =>
            ∃ s24 : Slc, e26 = .returned s24.v ∧
            (Calls Try.prog 69 #[s22.v, s24.v, Value.int .i64 0] w29 fun e27 w30 =>
              e27 = .returned (Value.tuple #[]) ∧
              (Calls Try.prog 58 #[a0.v, Value.int .i64 (IntKind.i64.wrap (Int.tdiv (IntKind.i64.wrap ((a0.n : Int) + 1)) 2)), Value.int .i64 (a0.n : Int)] w30 fun e28 w31 =>
                ∃ s25 : Slc, e28 = .returned s25.v ∧
                (Calls Try.prog 51 #[s25.v, a1.v, Value.int .i64 a2] w31 fun e29 w32 =>
                  ∃ s26 : Slc, e29 = .returned s26.v ∧
                  (Calls Try.prog 69 #[s22.v, s26.v, Value.int .i64 (IntKind.i64.wrap (Int.tdiv (IntKind.i64.wrap ((a0.n : Int) + 1)) 2))] w32 fun e30 w33 =>
                    e30 = .returned (Value.tuple #[]) ∧
                    (R (.returned s22.v) w33)))))))
        (Calls Try.prog 58 #[a0.v, Value.int .i64 0, Value.int .i64 (IntKind.i64.wrap (Int.tdiv (IntKind.i64.wrap ((a0.n : Int) + 1)) 2))] w fun e31 w34 =>
          ∃ s27 : Slc, e31 = .returned s27.v ∧
          (Calls Try.prog 58 #[a0.v, Value.int .i64 (IntKind.i64.wrap (Int.tdiv (IntKind.i64.wrap ((a0.n : Int) + 1)) 2)), Value.int .i64 (a0.n : Int)] w34 fun e32 w35 =>
            ∃ s28 : Slc, e32 = .returned s28.v ∧
            (Calls Try.prog 58 #[a1.v, Value.int .i64 0, Value.int .i64 (IntKind.i64.wrap (Int.tdiv (IntKind.i64.wrap ((a0.n : Int) + 1)) 2))] w35 fun e33 w36 =>
              ∃ s29 : Slc, e33 = .returned s29.v ∧
              (Calls Try.prog 58 #[a1.v, Value.int .i64 (IntKind.i64.wrap (Int.tdiv (IntKind.i64.wrap ((a0.n : Int) + 1)) 2)), Value.int .i64 (a1.n : Int)] w36 fun e34 w37 =>
                ∃ s30 : Slc, e34 = .returned s30.v ∧
                (Calls Try.prog 51 #[s27.v, s29.v, Value.int .i64 a2] w37 fun e35 w38 =>
                  ∃ s31 : Slc, e35 = .returned s31.v ∧
                  (Calls Try.prog 51 #[s28.v, s30.v, Value.int .i64 a2] w38 fun e36 w39 =>
                    ∃ s32 : Slc, e36 = .returned s32.v ∧
                    (Calls Try.prog 60 #[s27.v, s28.v] w39 fun e37 w40 =>
                      ∃ s33 : Slc, e37 = .returned s33.v ∧
                      (Calls Try.prog 56 #[s33.v] w40 fun e38 w41 =>
                        ∃ s34 : Slc, e38 = .returned s34.v ∧
                        (Calls Try.prog 60 #[s29.v, s30.v] w41 fun e39 w42 =>
                          ∃ s35 : Slc, e39 = .returned s35.v ∧
                          (Calls Try.prog 56 #[s35.v] w42 fun e40 w43 =>
                            ∃ s36 : Slc, e40 = .returned s36.v ∧
                            (Calls Try.prog 51 #[s34.v, s36.v, Value.int .i64 a2] w43 fun e41 w44 =>
                              ∃ s37 : Slc, e41 = .returned s37.v ∧
                              (Calls Try.prog 70 #[s37.v, s31.v] w44 fun e42 w45 =>
                                ∃ s38 : Slc, e42 = .returned s38.v ∧
                                (Calls Try.prog 70 #[s38.v, s32.v] w45 fun e43 w46 =>
                                  ∃ s39 : Slc, e43 = .returned s39.v ∧
                                  (semS Try.prog (Instr.makeSlice 32 (Value.int .i64 (IntKind.i64.wrap ((IntKind.i64.wrap ((a0.n : Int) + (a1.n : Int))) + 1))) (Value.int .i64 (IntKind.i64.wrap ((IntKind.i64.wrap ((a0.n : Int) + (a1.n : Int))) + 1)))) w46 fun s40 w47 =>
                                    Calls Try.prog 69 #[s40.v, s31.v, Value.int .i64 0] w47 fun e44 w48 =>
                                    e44 = .returned (Value.tuple #[]) ∧
                                    (Calls Try.prog 69 #[s40.v, s39.v, Value.int .i64 (IntKind.i64.wrap (Int.tdiv (IntKind.i64.wrap ((a0.n : Int) + 1)) 2))] w48 fun e45 w49 =>
                                      e45 = .returned (Value.tuple #[]) ∧
                                      (Calls Try.prog 69 #[s40.v, s32.v, Value.int .i64 (IntKind.i64.wrap (2 * (IntKind.i64.wrap (Int.tdiv (IntKind.i64.wrap ((a0.n : Int) + 1)) 2))))] w49 fun e46 w50 =>
                                        e46 = .returned (Value.tuple #[]) ∧
                                        (R (.returned s40.v) w50)))))))))))))))))))) :
    Calls Try.prog 51 #[a0.v, a1.v, Value.int .i64 a2] w R := by
  refine calls_of_vc (fun _ => none) (by kernel_rfl) Try.func51 rfl ?_ ?_
  · refine kcast h ?_; kernel_rfl
  · exact (obl_seq (obl_reg (obl_seq (obl_seq (obl_reg (obl_cond (obl_reg (obl_skip (obl_seq (obl_seq (obl_reg (obl_cond (obl_seq (obl_reg (obl_ret (obl_skip (obl_seq (obl_reg (obl_seq (obl_seq (obl_reg (obl_cond (obl_seq (obl_reg (obl_seq (obl_reg (obl_seq (obl_reg (obl_seq (obl_reg (obl_ret (obl_skip (obl_seq (obl_reg (obl_seq (obl_reg (obl_seq (obl_reg (obl_seq (obl_reg (obl_seq (obl_reg (obl_seq (obl_reg (obl_seq (obl_reg (obl_seq (obl_reg (obl_ret trivial)))))))))))))))))))))))))))))))))))))))))))))))))

set_option maxRecDepth 100000 in
/-- surd/mul.great: function 59. -/
theorem mul_great_vc (a0_a : Slc) (a1_b : Slc) (w : World) (R : Ending → World → Prop)
    
    (h : Calls Try.prog 62 #[a0_a.v] w fun e1 w1 =>
    ∃ x1 : Int, e1 = .returned (Value.int .i64 x1) ∧
    (Calls Try.prog 62 #[a1_b.v] w1 fun e2 w2 =>
      ∃ x2 : Int, e2 = .returned (Value.int .i64 x2) ∧
      (br (decide (x1 > 0))
        (br (decide (x2 > 0))
          (R (.returned (Value.bool (decide ((IntKind.i64.wrap ((IntKind.i64.wrap (x1 + x2)) - 1)) > 67108864)))) w2)
          (R (.returned (Value.bool false)) w2))
        (R (.returned (Value.bool false)) w2)))) :
    Calls Try.prog 59 #[a0_a.v, a1_b.v] w R := by
  refine calls_of_vc (fun _ => none) (by kernel_rfl) Try.func59 rfl ?_ ?_
  · refine kcast h ?_; kernel_rfl
  · exact (obl_seq (obl_reg (obl_seq (obl_reg (obl_seq (obl_reg (obl_ret trivial)))))))

set_option maxRecDepth 100000 in
/-- surd/mul.fits: function 57. -/
theorem mul_fits_vc (a0_a : Slc) (w : World) (R : Ending → World → Prop)
    
    (h : Calls Try.prog 56 #[a0_a.v] w fun e1 w1 =>
    ∃ s1 : Slc, e1 = .returned s1.v ∧
    (Calls Try.prog 62 #[s1.v] w1 fun e2 w2 =>
      ∃ x1 : Int, e2 = .returned (Value.int .i64 x1) ∧
      (br (decide (x1 > 67108864))
        (R (.returned (Value.tuple #[(⟨none, 0, 0⟩ : Slc).v, Value.int .i64 3])) w2)
        (R (.returned (Value.tuple #[s1.v, Value.int .i64 0])) w2)))) :
    Calls Try.prog 57 #[a0_a.v] w R := by
  refine calls_of_vc (fun _ => none) (by kernel_rfl) Try.func57 rfl ?_ ?_
  · refine kcast h ?_; kernel_rfl
  · exact (obl_seq (obl_reg (obl_seq (obl_reg (obl_seq (obl_seq (obl_reg (obl_cond (obl_seq (obl_reg (obl_ret (obl_skip (obl_seq (obl_reg (obl_ret trivial)))))))))))))))

def mul_school_cut (J0 : Slc → Slc → Slc → Int → Int → World → Prop) (m0 : Slc → Slc → Slc → Int → Int → World → Nat) (J2 : Slc → Slc → Slc → Int → Int → World → Slc → Slc → Int → Int → Int → Slc → Int → Int → Slc → Int → Int → World → Prop) (m2 : Slc → Slc → Slc → Int → Int → World → Slc → Slc → Int → Int → Int → Slc → Int → Int → Slc → Int → Int → World → Nat) : Nat → Option ((Act → World → Prop) × (Act → World → Nat))
  | 0 => some (fun a_ w_ => atSz a_ 78 (atS a_ 1 fun t1 => atS a_ 5 fun t5 => atS a_ 20 fun t20 => atI .i64 a_ 21 fun t21 => atI .i64 a_ 22 fun t22 => J0 t1 t5 t20 t21 t22 w_), fun a_ w_ => mS a_ 1 fun t1 => mS a_ 5 fun t5 => mS a_ 20 fun t20 => mI a_ 21 fun t21 => mI a_ 22 fun t22 => m0 t1 t5 t20 t21 t22 w_)
  | _ => none

def mul_school_cut_0 (J0 : Slc → Slc → Slc → Int → Int → World → Prop) (m0 : Slc → Slc → Slc → Int → Int → World → Nat) (J2 : Slc → Slc → Slc → Int → Int → World → Slc → Slc → Int → Int → Int → Slc → Int → Int → Slc → Int → Int → World → Prop) (m2 : Slc → Slc → Slc → Int → Int → World → Slc → Slc → Int → Int → Int → Slc → Int → Int → Slc → Int → Int → World → Nat) (o_t1 : Slc) (o_t5 : Slc) (o_t20 : Slc) (o_t21 : Int) (o_t22 : Int) (o_w_ : World) : Nat → Option ((Act → World → Prop) × (Act → World → Nat))
  | 2 => some (fun a_ w_ => atSz a_ 78 (atS a_ 1 fun t1 => atS a_ 5 fun t5 => atI .i64 a_ 6 fun t6 => atI .u64 a_ 7 fun t7 => atI .u64 a_ 8 fun t8 => atS a_ 20 fun t20 => atI .i64 a_ 21 fun t21 => atI .i64 a_ 22 fun t22 => atS a_ 27 fun t27 => atI .i64 a_ 28 fun t28 => atI .i64 a_ 29 fun t29 => J2 o_t1 o_t5 o_t20 o_t21 o_t22 o_w_ t1 t5 t6 t7 t8 t20 t21 t22 t27 t28 t29 w_), fun a_ w_ => mS a_ 1 fun t1 => mS a_ 5 fun t5 => mI a_ 6 fun t6 => mI a_ 7 fun t7 => mI a_ 8 fun t8 => mS a_ 20 fun t20 => mI a_ 21 fun t21 => mI a_ 22 fun t22 => mS a_ 27 fun t27 => mI a_ 28 fun t28 => mI a_ 29 fun t29 => m2 o_t1 o_t5 o_t20 o_t21 o_t22 o_w_ t1 t5 t6 t7 t8 t20 t21 t22 t27 t28 t29 w_)
  | _ => none

set_option maxRecDepth 100000 in
/-- surd/mul.school: function 53. -/
theorem mul_school_vc (a0 : Slc) (a1 : Slc) (w : World) (R : Ending → World → Prop)
    (J0 : Slc → Slc → Slc → Int → Int → World → Prop) (m0 : Slc → Slc → Slc → Int → Int → World → Nat) (J2 : Slc → Slc → Slc → Int → Int → World → Slc → Slc → Int → Int → Int → Slc → Int → Int → Slc → Int → Int → World → Prop) (m2 : Slc → Slc → Slc → Int → Int → World → Slc → Slc → Int → Int → Int → Slc → Int → Int → Slc → Int → Int → World → Nat)
    (h : semS Try.prog (Instr.makeSlice 32 (Value.int .i64 (IntKind.i64.wrap ((a0.n : Int) + (a1.n : Int)))) (Value.int .i64 (IntKind.i64.wrap ((a0.n : Int) + (a1.n : Int))))) w fun s1 w1 =>
    J0 a1 s1 a0 (a0.n : Int) 0 w1)
    (h0 : ∀ (t1 : Slc) (t5 : Slc) (t20 : Slc) (t21 : Int) (t22 : Int) (w_ : World), J0 t1 t5 t20 t21 t22 w_ → 
    br (decide (t22 < t21))
    (semA Try.prog (Instr.indexAt 32 t20.v (Value.int .i64 t22)) w_ fun ad1 w2 =>
      ldI .u64 ad1 w2 fun x1 =>
      J2 t1 t5 t20 t21 t22 w_ t1 t5 t22 x1 0 t20 t21 t22 t1 (t1.n : Int) 0 w2)
    (R (.returned t5.v) w_))
    (h2 : ∀ (t1 : Slc) (t5 : Slc) (t20 : Slc) (t21 : Int) (t22 : Int) (w_ : World), J0 t1 t5 t20 t21 t22 w_ → ∀ (t1' : Slc) (t5' : Slc) (t6' : Int) (t7' : Int) (t8' : Int) (t20' : Slc) (t21' : Int) (t22' : Int) (t27' : Slc) (t28' : Int) (t29' : Int) (w__ : World), J2 t1 t5 t20 t21 t22 w_ t1' t5' t6' t7' t8' t20' t21' t22' t27' t28' t29' w__ → 
    br (decide (t29' < t28'))
    (semA Try.prog (Instr.indexAt 32 t27'.v (Value.int .i64 t29')) w__ fun ad2 w3 =>
      ldI .u64 ad2 w3 fun x2 =>
      Calls Try.prog 71 #[Value.int .u64 t7', Value.int .u64 x2] w3 fun e1 w4 =>
      ∃ x3 : Int, ∃ x4 : Int, e1 = .returned (Value.tuple #[Value.int .u64 x3, Value.int .u64 x4]) ∧
      (Sem.wp Try.prog (callFunc 72 #[Value.int .u64 x4, Value.int .u64 t8', Value.int .u64 0]) (fun n1 w5 =>
          ∃ x5 : Int, ∃ x6 : Int, n1 = .value (Value.tuple #[Value.int .u64 x5, Value.int .u64 x6]) ∧
          (semA Try.prog (Instr.indexAt 32 t5'.v (Value.int .i64 (IntKind.i64.wrap (t6' + t29')))) w5 fun ad3 w6 =>
            ldI .u64 ad3 w6 fun x7 =>
            Sem.wp Try.prog (callFunc 72 #[Value.int .u64 x7, Value.int .u64 x5, Value.int .u64 0]) (fun n2 w7 =>
              ∃ x8 : Int, ∃ x9 : Int, n2 = .value (Value.tuple #[Value.int .u64 x8, Value.int .u64 x9]) ∧
              (semA Try.prog (Instr.indexAt 32 t5'.v (Value.int .i64 (IntKind.i64.wrap (t6' + t29')))) w7 fun ad4 w8 =>
                stC ad4 (Value.int .u64 x8) w8 fun w9 =>
                J2 t1 t5 t20 t21 t22 w_ t1' t5' t6' t7' (IntKind.u64.wrap ((IntKind.u64.wrap (x3 + x6)) + x9)) t20' t21' t22' t27' t28' (IntKind.i64.wrap (t29' + 1)) w9 ∧
                m2 t1 t5 t20 t21 t22 w_ t1' t5' t6' t7' (IntKind.u64.wrap ((IntKind.u64.wrap (x3 + x6)) + x9)) t20' t21' t22' t27' t28' (IntKind.i64.wrap (t29' + 1)) w9 < m2 t1 t5 t20 t21 t22 w_ t1' t5' t6' t7' t8' t20' t21' t22' t27' t28' t29' w__)) (fun _ _ => False) w6)) (fun _ _ => False) w4))
    (semA Try.prog (Instr.indexAt 32 t5'.v (Value.int .i64 (IntKind.i64.wrap (t6' + (t1'.n : Int))))) w__ fun ad5 w10 =>
      stC ad5 (Value.int .u64 t8') w10 fun w11 =>
      J0 t1' t5' t20' t21' (IntKind.i64.wrap (t22' + 1)) w11 ∧
      m0 t1' t5' t20' t21' (IntKind.i64.wrap (t22' + 1)) w11 < m0 t1 t5 t20 t21 t22 w_)) :
    Calls Try.prog 53 #[a0.v, a1.v] w R := by
  refine calls_of_vc (mul_school_cut J0 m0 J2 m2) (by kernel_rfl) Try.func53 rfl ?_ ?_
  · refine kcast h ?_; kernel_rfl
  · exact (obl_seq (obl_reg (obl_seq (obl_reg (obl_seq (obl_seq (obl_reg (obl_loop _ rfl (fun a_ w_ hL_ => (by
    obtain ⟨hz_, hd_, hL_⟩ := atSz_out hL_
    obtain ⟨t1, h1_, hL_⟩ := atS_out hL_
    obtain ⟨t5, h5_, hL_⟩ := atS_out hL_
    obtain ⟨t20, h20_, hL_⟩ := atS_out hL_
    obtain ⟨t21, h21_, hL_⟩ := atI_out hL_
    obtain ⟨t22, h22_, hL_⟩ := atI_out hL_
    obtain ⟨g0, rfl⟩ : ∃ g, a_ = Fr 78 [(1, t1.v), (5, t5.v), (20, t20.v), (21, Value.int .i64 t21), (22, Value.int .i64 t22)] g := ⟨_, fr_of hz_ hd_ [(1, t1.v), (5, t5.v), (20, t20.v), (21, Value.int .i64 t21), (22, Value.int .i64 t22)] (sel_cons h1_ (sel_cons h5_ (sel_cons h20_ (sel_cons h21_ (sel_cons h22_ sel_nil)))))⟩
    clear hz_ hd_ h1_ h5_ h20_ h21_ h22_
    have hJ0_ := hL_
    refine ⟨(mul_school_cut_0 J0 m0 J2 m2 t1 t5 t20 t21 t22 w_), kcast (h0 t1 t5 t20 t21 t22 w_ hJ0_) ?_, ?_⟩
    · kernel_rfl
    · exact (obl_seq (obl_reg (obl_seq (obl_cond (obl_skip (obl_exit (obl_seq (obl_blk rfl (obl_seq (obl_reg (obl_seq (obl_reg (obl_seq (obl_seq (obl_reg (obl_loop _ rfl (fun a_ w__ hL_ => (by
      obtain ⟨hz_, hd_, hL_⟩ := atSz_out hL_
      obtain ⟨t1', h1_, hL_⟩ := atS_out hL_
      obtain ⟨t5', h5_, hL_⟩ := atS_out hL_
      obtain ⟨t6', h6_, hL_⟩ := atI_out hL_
      obtain ⟨t7', h7_, hL_⟩ := atI_out hL_
      obtain ⟨t8', h8_, hL_⟩ := atI_out hL_
      obtain ⟨t20', h20_, hL_⟩ := atS_out hL_
      obtain ⟨t21', h21_, hL_⟩ := atI_out hL_
      obtain ⟨t22', h22_, hL_⟩ := atI_out hL_
      obtain ⟨t27', h27_, hL_⟩ := atS_out hL_
      obtain ⟨t28', h28_, hL_⟩ := atI_out hL_
      obtain ⟨t29', h29_, hL_⟩ := atI_out hL_
      obtain ⟨g2, rfl⟩ : ∃ g, a_ = Fr 78 [(1, t1'.v), (5, t5'.v), (6, Value.int .i64 t6'), (7, Value.int .u64 t7'), (8, Value.int .u64 t8'), (20, t20'.v), (21, Value.int .i64 t21'), (22, Value.int .i64 t22'), (27, t27'.v), (28, Value.int .i64 t28'), (29, Value.int .i64 t29')] g := ⟨_, fr_of hz_ hd_ [(1, t1'.v), (5, t5'.v), (6, Value.int .i64 t6'), (7, Value.int .u64 t7'), (8, Value.int .u64 t8'), (20, t20'.v), (21, Value.int .i64 t21'), (22, Value.int .i64 t22'), (27, t27'.v), (28, Value.int .i64 t28'), (29, Value.int .i64 t29')] (sel_cons h1_ (sel_cons h5_ (sel_cons h6_ (sel_cons h7_ (sel_cons h8_ (sel_cons h20_ (sel_cons h21_ (sel_cons h22_ (sel_cons h27_ (sel_cons h28_ (sel_cons h29_ sel_nil)))))))))))⟩
      clear hz_ hd_ h1_ h5_ h6_ h7_ h8_ h20_ h21_ h22_ h27_ h28_ h29_
      have hJ2_ := hL_
      refine ⟨(fun _ => none), kcast (h2 t1 t5 t20 t21 t22 w_ hJ0_ t1' t5' t6' t7' t8' t20' t21' t22' t27' t28' t29' w__ hJ2_) ?_, ?_⟩
      · kernel_rfl
      · exact (obl_seq (obl_reg (obl_seq (obl_cond (obl_skip (obl_exit (obl_seq (obl_blk rfl (obl_seq (obl_reg (obl_seq (obl_reg (obl_seq (obl_reg (obl_seq (obl_reg (obl_seq (obl_reg (obl_seq (obl_reg (obl_reg (obl_reg trivial)))))))))))))))))))))))) (obl_reg (obl_reg trivial)))))))))))))))))))) (obl_seq (obl_reg (obl_ret trivial)))))))))))

def mul_addAt_cut (J0 : Slc → Slc → Int → Int → Int → World → Prop) (m0 : Slc → Slc → Int → Int → Int → World → Nat) : Nat → Option ((Act → World → Prop) × (Act → World → Nat))
  | 0 => some (fun a_ w_ => atSz a_ 53 (atS a_ 0 fun t0_a => atS a_ 1 fun t1_b => atI .i64 a_ 2 fun t2_at => atI .u64 a_ 6 fun t6_carry => atI .i64 a_ 7 fun t7_i => J0 t0_a t1_b t2_at t6_carry t7_i w_), fun a_ w_ => mS a_ 0 fun t0_a => mS a_ 1 fun t1_b => mI a_ 2 fun t2_at => mI a_ 6 fun t6_carry => mI a_ 7 fun t7_i => m0 t0_a t1_b t2_at t6_carry t7_i w_)
  | _ => none

set_option maxRecDepth 100000 in
/-- surd/mul.addAt: function 69. -/
theorem mul_addAt_vc (a0_a : Slc) (a1_b : Slc) (a2_at : Int) (w : World) (R : Ending → World → Prop)
    (J0 : Slc → Slc → Int → Int → Int → World → Prop) (m0 : Slc → Slc → Int → Int → Int → World → Nat)
    (h : J0 a0_a a1_b a2_at 0 a2_at w)
    (h0 : ∀ (t0_a : Slc) (t1_b : Slc) (t2_at : Int) (t6_carry : Int) (t7_i : Int) (w_ : World), J0 t0_a t1_b t2_at t6_carry t7_i w_ → 
    br (decide (t7_i < (t0_a.n : Int)))
    (br (decide ((IntKind.i64.wrap (t7_i - t2_at)) < (t1_b.n : Int)))
      (br (decide ((IntKind.i64.wrap (t7_i - t2_at)) < (t1_b.n : Int)))
        (semA Try.prog (Instr.indexAt 32 t1_b.v (Value.int .i64 (IntKind.i64.wrap (t7_i - t2_at)))) w_ fun ad1 w1 =>
          ldI .u64 ad1 w1 fun x1 =>
          semA Try.prog (Instr.indexAt 32 t0_a.v (Value.int .i64 t7_i)) w1 fun ad2 w2 =>
          ldI .u64 ad2 w2 fun x2 =>
          Sem.wp Try.prog (callFunc 72 #[Value.int .u64 x2, Value.int .u64 x1, Value.int .u64 t6_carry]) (fun n1 w3 =>
            ∃ x3 : Int, ∃ x4 : Int, n1 = .value (Value.tuple #[Value.int .u64 x3, Value.int .u64 x4]) ∧
            (semA Try.prog (Instr.indexAt 32 t0_a.v (Value.int .i64 t7_i)) w3 fun ad3 w4 =>
              stC ad3 (Value.int .u64 x3) w4 fun w5 =>
              J0 t0_a t1_b t2_at x4 (IntKind.i64.wrap (t7_i + 1)) w5 ∧
              m0 t0_a t1_b t2_at x4 (IntKind.i64.wrap (t7_i + 1)) w5 < m0 t0_a t1_b t2_at t6_carry t7_i w_)) (fun _ _ => False) w2)
        (semA Try.prog (Instr.indexAt 32 t0_a.v (Value.int .i64 t7_i)) w_ fun ad4 w6 =>
          ldI .u64 ad4 w6 fun x5 =>
          Sem.wp Try.prog (callFunc 72 #[Value.int .u64 x5, Value.int .u64 0, Value.int .u64 t6_carry]) (fun n2 w7 =>
            ∃ x6 : Int, ∃ x7 : Int, n2 = .value (Value.tuple #[Value.int .u64 x6, Value.int .u64 x7]) ∧
            (semA Try.prog (Instr.indexAt 32 t0_a.v (Value.int .i64 t7_i)) w7 fun ad5 w8 =>
              stC ad5 (Value.int .u64 x6) w8 fun w9 =>
              J0 t0_a t1_b t2_at x7 (IntKind.i64.wrap (t7_i + 1)) w9 ∧
              m0 t0_a t1_b t2_at x7 (IntKind.i64.wrap (t7_i + 1)) w9 < m0 t0_a t1_b t2_at t6_carry t7_i w_)) (fun _ _ => False) w6))
      (br (decide (t6_carry > 0))
        (br (decide ((IntKind.i64.wrap (t7_i - t2_at)) < (t1_b.n : Int)))
          (semA Try.prog (Instr.indexAt 32 t1_b.v (Value.int .i64 (IntKind.i64.wrap (t7_i - t2_at)))) w_ fun ad6 w10 =>
            ldI .u64 ad6 w10 fun x8 =>
            semA Try.prog (Instr.indexAt 32 t0_a.v (Value.int .i64 t7_i)) w10 fun ad7 w11 =>
            ldI .u64 ad7 w11 fun x9 =>
            Sem.wp Try.prog (callFunc 72 #[Value.int .u64 x9, Value.int .u64 x8, Value.int .u64 t6_carry]) (fun n3 w12 =>
              ∃ x10 : Int, ∃ x11 : Int, n3 = .value (Value.tuple #[Value.int .u64 x10, Value.int .u64 x11]) ∧
              (semA Try.prog (Instr.indexAt 32 t0_a.v (Value.int .i64 t7_i)) w12 fun ad8 w13 =>
                stC ad8 (Value.int .u64 x10) w13 fun w14 =>
                J0 t0_a t1_b t2_at x11 (IntKind.i64.wrap (t7_i + 1)) w14 ∧
                m0 t0_a t1_b t2_at x11 (IntKind.i64.wrap (t7_i + 1)) w14 < m0 t0_a t1_b t2_at t6_carry t7_i w_)) (fun _ _ => False) w11)
          (semA Try.prog (Instr.indexAt 32 t0_a.v (Value.int .i64 t7_i)) w_ fun ad9 w15 =>
            ldI .u64 ad9 w15 fun x12 =>
            Sem.wp Try.prog (callFunc 72 #[Value.int .u64 x12, Value.int .u64 0, Value.int .u64 t6_carry]) (fun n4 w16 =>
              ∃ x13 : Int, ∃ x14 : Int, n4 = .value (Value.tuple #[Value.int .u64 x13, Value.int .u64 x14]) ∧
              (semA Try.prog (Instr.indexAt 32 t0_a.v (Value.int .i64 t7_i)) w16 fun ad10 w17 =>
                stC ad10 (Value.int .u64 x13) w17 fun w18 =>
                J0 t0_a t1_b t2_at x14 (IntKind.i64.wrap (t7_i + 1)) w18 ∧
                m0 t0_a t1_b t2_at x14 (IntKind.i64.wrap (t7_i + 1)) w18 < m0 t0_a t1_b t2_at t6_carry t7_i w_)) (fun _ _ => False) w15))
        (R (.returned (Value.tuple #[])) w_)))
    (R (.returned (Value.tuple #[])) w_)) :
    Calls Try.prog 69 #[a0_a.v, a1_b.v, Value.int .i64 a2_at] w R := by
  refine calls_of_vc (mul_addAt_cut J0 m0) (by kernel_rfl) Try.func69 rfl ?_ ?_
  · refine kcast h ?_; kernel_rfl
  · exact (obl_seq (obl_reg (obl_seq (obl_reg (obl_loop _ rfl (fun a_ w_ hL_ => (by
    obtain ⟨hz_, hd_, hL_⟩ := atSz_out hL_
    obtain ⟨t0_a, h0_, hL_⟩ := atS_out hL_
    obtain ⟨t1_b, h1_, hL_⟩ := atS_out hL_
    obtain ⟨t2_at, h2_, hL_⟩ := atI_out hL_
    obtain ⟨t6_carry, h6_, hL_⟩ := atI_out hL_
    obtain ⟨t7_i, h7_, hL_⟩ := atI_out hL_
    obtain ⟨g0, rfl⟩ : ∃ g, a_ = Fr 53 [(0, t0_a.v), (1, t1_b.v), (2, Value.int .i64 t2_at), (6, Value.int .u64 t6_carry), (7, Value.int .i64 t7_i)] g := ⟨_, fr_of hz_ hd_ [(0, t0_a.v), (1, t1_b.v), (2, Value.int .i64 t2_at), (6, Value.int .u64 t6_carry), (7, Value.int .i64 t7_i)] (sel_cons h0_ (sel_cons h1_ (sel_cons h2_ (sel_cons h6_ (sel_cons h7_ sel_nil)))))⟩
    clear hz_ hd_ h0_ h1_ h2_ h6_ h7_
    have hJ0_ := hL_
    refine ⟨(fun _ => none), kcast (h0 t0_a t1_b t2_at t6_carry t7_i w_ hJ0_) ?_, ?_⟩
    · kernel_rfl
    · exact (obl_seq (obl_seq (obl_reg (obl_cond (obl_skip (obl_exit (obl_seq (obl_blk rfl (obl_seq (obl_reg (obl_seq (obl_seq (obl_reg (obl_cond (obl_reg (obl_skip (obl_reg (obl_reg trivial)))))))))))))))))))) trivial)))))

def mul_part_cut (J0 : Slc → Int → Int → World → Prop) (m0 : Slc → Int → Int → World → Nat) : Nat → Option ((Act → World → Prop) × (Act → World → Nat))
  | 0 => some (fun a_ w_ => atSz a_ 32 (atS a_ 0 fun t0_a => atI .i64 a_ 1 fun t1_from => atI .i64 a_ 2 fun t2_to => J0 t0_a t1_from t2_to w_), fun a_ w_ => mS a_ 0 fun t0_a => mI a_ 1 fun t1_from => mI a_ 2 fun t2_to => m0 t0_a t1_from t2_to w_)
  | _ => none

set_option maxRecDepth 100000 in
/-- surd/mul.part: function 58. -/
theorem mul_part_vc (a0_a : Slc) (a1_from : Int) (a2_to : Int) (w : World) (R : Ending → World → Prop)
    (J0 : Slc → Int → Int → World → Prop) (m0 : Slc → Int → Int → World → Nat)
    (h : J0 a0_a (minI a1_from (a0_a.n : Int)) (minI a2_to (a0_a.n : Int)) w)
    (h0 : ∀ (t0_a : Slc) (t1_from : Int) (t2_to : Int) (w_ : World), J0 t0_a t1_from t2_to w_ → 
    br (decide (t2_to > t1_from))
    (semA Try.prog (Instr.indexAt 32 t0_a.v (Value.int .i64 (IntKind.i64.wrap (t2_to - 1)))) w_ fun ad1 w1 =>
      ldI .u64 ad1 w1 fun x1 =>
      br (x1 == 0)
      (J0 t0_a t1_from (IntKind.i64.wrap (t2_to - 1)) w1 ∧
        m0 t0_a t1_from (IntKind.i64.wrap (t2_to - 1)) w1 < m0 t0_a t1_from t2_to w_)
      (semS Try.prog (Instr.sliceAt 32 t0_a.v (some (Value.int .i64 t1_from)) (some (Value.int .i64 t2_to)) none) w1 fun s1 w2 =>
        R (.returned s1.v) w2))
    (semS Try.prog (Instr.sliceAt 32 t0_a.v (some (Value.int .i64 t1_from)) (some (Value.int .i64 t2_to)) none) w_ fun s2 w3 =>
      R (.returned s2.v) w3)) :
    Calls Try.prog 58 #[a0_a.v, Value.int .i64 a1_from, Value.int .i64 a2_to] w R := by
  refine calls_of_vc (mul_part_cut J0 m0) (by kernel_rfl) Try.func58 rfl ?_ ?_
  · refine kcast h ?_; kernel_rfl
  · exact (obl_seq (obl_reg (obl_seq (obl_reg (obl_seq (obl_loop _ rfl (fun a_ w_ hL_ => (by
    obtain ⟨hz_, hd_, hL_⟩ := atSz_out hL_
    obtain ⟨t0_a, h0_, hL_⟩ := atS_out hL_
    obtain ⟨t1_from, h1_, hL_⟩ := atI_out hL_
    obtain ⟨t2_to, h2_, hL_⟩ := atI_out hL_
    obtain ⟨g0, rfl⟩ : ∃ g, a_ = Fr 32 [(0, t0_a.v), (1, Value.int .i64 t1_from), (2, Value.int .i64 t2_to)] g := ⟨_, fr_of hz_ hd_ [(0, t0_a.v), (1, Value.int .i64 t1_from), (2, Value.int .i64 t2_to)] (sel_cons h0_ (sel_cons h1_ (sel_cons h2_ sel_nil)))⟩
    clear hz_ hd_ h0_ h1_ h2_
    have hJ0_ := hL_
    refine ⟨(fun _ => none), kcast (h0 t0_a t1_from t2_to w_ hJ0_) ?_, ?_⟩
    · kernel_rfl
    · exact (obl_seq (obl_seq (obl_reg (obl_cond (obl_skip (obl_exit (obl_blk rfl (obl_reg trivial)))))))))) (obl_seq (obl_reg (obl_ret trivial)))))))))

def mul_less_cut (J0 : Slc → Slc → Int → Int → Int → World → Prop) (m0 : Slc → Slc → Int → Int → Int → World → Nat) : Nat → Option ((Act → World → Prop) × (Act → World → Nat))
  | 0 => some (fun a_ w_ => atSz a_ 43 (atS a_ 1 fun t1_b => atS a_ 5 fun t5_out => atI .u64 a_ 6 fun t6_borrow => atI .i64 a_ 16 fun t16 => atI .i64 a_ 17 fun t17 => J0 t1_b t5_out t6_borrow t16 t17 w_), fun a_ w_ => mS a_ 1 fun t1_b => mS a_ 5 fun t5_out => mI a_ 6 fun t6_borrow => mI a_ 16 fun t16 => mI a_ 17 fun t17 => m0 t1_b t5_out t6_borrow t16 t17 w_)
  | _ => none

set_option maxRecDepth 100000 in
/-- surd/mul.less: function 70. -/
theorem mul_less_vc (a0_a : Slc) (a1_b : Slc) (w : World) (R : Ending → World → Prop)
    (J0 : Slc → Slc → Int → Int → Int → World → Prop) (m0 : Slc → Slc → Int → Int → Int → World → Nat)
    (h : semS Try.prog (Instr.makeSlice 32 (Value.int .i64 (a0_a.n : Int)) (Value.int .i64 (a0_a.n : Int))) w fun s1 w1 =>
    semI Try.prog .i64 (Builtin.copy_ #[32, 32] 3 #[s1.v, a0_a.v]) w1 fun x1 w2 =>
    J0 a1_b s1 0 (s1.n : Int) 0 w2)
    (h0 : ∀ (t1_b : Slc) (t5_out : Slc) (t6_borrow : Int) (t16 : Int) (t17 : Int) (w_ : World), J0 t1_b t5_out t6_borrow t16 t17 w_ → 
    br (decide (t17 < t16))
    (br (decide (t17 < (t1_b.n : Int)))
      (semA Try.prog (Instr.indexAt 32 t1_b.v (Value.int .i64 t17)) w_ fun ad1 w3 =>
        ldI .u64 ad1 w3 fun x2 =>
        semA Try.prog (Instr.indexAt 32 t5_out.v (Value.int .i64 t17)) w3 fun ad2 w4 =>
        ldI .u64 ad2 w4 fun x3 =>
        Sem.wp Try.prog (callFunc 76 #[Value.int .u64 x3, Value.int .u64 x2, Value.int .u64 t6_borrow]) (fun n1 w5 =>
          ∃ x4 : Int, ∃ x5 : Int, n1 = .value (Value.tuple #[Value.int .u64 x4, Value.int .u64 x5]) ∧
          (semA Try.prog (Instr.indexAt 32 t5_out.v (Value.int .i64 t17)) w5 fun ad3 w6 =>
            stC ad3 (Value.int .u64 x4) w6 fun w7 =>
            J0 t1_b t5_out x5 t16 (IntKind.i64.wrap (t17 + 1)) w7 ∧
            m0 t1_b t5_out x5 t16 (IntKind.i64.wrap (t17 + 1)) w7 < m0 t1_b t5_out t6_borrow t16 t17 w_)) (fun _ _ => False) w4)
      (semA Try.prog (Instr.indexAt 32 t5_out.v (Value.int .i64 t17)) w_ fun ad4 w8 =>
        ldI .u64 ad4 w8 fun x6 =>
        Sem.wp Try.prog (callFunc 76 #[Value.int .u64 x6, Value.int .u64 0, Value.int .u64 t6_borrow]) (fun n2 w9 =>
          ∃ x7 : Int, ∃ x8 : Int, n2 = .value (Value.tuple #[Value.int .u64 x7, Value.int .u64 x8]) ∧
          (semA Try.prog (Instr.indexAt 32 t5_out.v (Value.int .i64 t17)) w9 fun ad5 w10 =>
            stC ad5 (Value.int .u64 x7) w10 fun w11 =>
            J0 t1_b t5_out x8 t16 (IntKind.i64.wrap (t17 + 1)) w11 ∧
            m0 t1_b t5_out x8 t16 (IntKind.i64.wrap (t17 + 1)) w11 < m0 t1_b t5_out t6_borrow t16 t17 w_)) (fun _ _ => False) w8))
    (R (.returned t5_out.v) w_)) :
    Calls Try.prog 70 #[a0_a.v, a1_b.v] w R := by
  refine calls_of_vc (mul_less_cut J0 m0) (by kernel_rfl) Try.func70 rfl ?_ ?_
  · refine kcast h ?_; kernel_rfl
  · exact (obl_seq (obl_reg (obl_seq (obl_reg (obl_seq (obl_reg (obl_seq (obl_reg (obl_seq (obl_seq (obl_reg (obl_loop _ rfl (fun a_ w_ hL_ => (by
    obtain ⟨hz_, hd_, hL_⟩ := atSz_out hL_
    obtain ⟨t1_b, h1_, hL_⟩ := atS_out hL_
    obtain ⟨t5_out, h5_, hL_⟩ := atS_out hL_
    obtain ⟨t6_borrow, h6_, hL_⟩ := atI_out hL_
    obtain ⟨t16, h16_, hL_⟩ := atI_out hL_
    obtain ⟨t17, h17_, hL_⟩ := atI_out hL_
    obtain ⟨g0, rfl⟩ : ∃ g, a_ = Fr 43 [(1, t1_b.v), (5, t5_out.v), (6, Value.int .u64 t6_borrow), (16, Value.int .i64 t16), (17, Value.int .i64 t17)] g := ⟨_, fr_of hz_ hd_ [(1, t1_b.v), (5, t5_out.v), (6, Value.int .u64 t6_borrow), (16, Value.int .i64 t16), (17, Value.int .i64 t17)] (sel_cons h1_ (sel_cons h5_ (sel_cons h6_ (sel_cons h16_ (sel_cons h17_ sel_nil)))))⟩
    clear hz_ hd_ h1_ h5_ h6_ h16_ h17_
    have hJ0_ := hL_
    refine ⟨(fun _ => none), kcast (h0 t1_b t5_out t6_borrow t16 t17 w_ hJ0_) ?_, ?_⟩
    · kernel_rfl
    · exact (obl_seq (obl_reg (obl_seq (obl_cond (obl_skip (obl_exit (obl_seq (obl_blk rfl (obl_seq (obl_reg (obl_seq (obl_reg (obl_seq (obl_seq (obl_reg (obl_cond (obl_reg (obl_skip (obl_reg (obl_reg trivial)))))))))))))))))))))) (obl_seq (obl_reg (obl_ret trivial)))))))))))))))

set_option maxRecDepth 100000 in
/-- surd/mul.sum: function 60. -/
theorem mul_sum_vc (a0_a : Slc) (a1_b : Slc) (w : World) (R : Ending → World → Prop)
    
    (h : semS Try.prog (Instr.makeSlice 32 (Value.int .i64 (IntKind.i64.wrap ((maxI (a0_a.n : Int) (a1_b.n : Int)) + 1))) (Value.int .i64 (IntKind.i64.wrap ((maxI (a0_a.n : Int) (a1_b.n : Int)) + 1)))) w fun s1 w1 =>
    semI Try.prog .i64 (Builtin.copy_ #[32, 32] 3 #[s1.v, a0_a.v]) w1 fun x1 w2 =>
    Calls Try.prog 69 #[s1.v, a1_b.v, Value.int .i64 0] w2 fun e1 w3 =>
    e1 = .returned (Value.tuple #[]) ∧
    (R (.returned s1.v) w3)) :
    Calls Try.prog 60 #[a0_a.v, a1_b.v] w R := by
  refine calls_of_vc (fun _ => none) (by kernel_rfl) Try.func60 rfl ?_ ?_
  · refine kcast h ?_; kernel_rfl
  · exact (obl_seq (obl_reg (obl_seq (obl_reg (obl_seq (obl_reg (obl_seq (obl_reg (obl_seq (obl_reg (obl_ret trivial)))))))))))

set_option maxRecDepth 100000 in
/-- surd/mul.Square: function 18. -/
theorem mul_Square_vc (a0_a : Slc) (w : World) (R : Ending → World → Prop)
    
    (h : Calls Try.prog 21 #[a0_a.v, a0_a.v] w fun e1 w1 =>
    ∃ s1 : Slc, ∃ x1 : Int, e1 = .returned (Value.tuple #[s1.v, Value.int .i64 x1]) ∧
    (R (.returned (Value.tuple #[s1.v, Value.int .i64 x1])) w1)) :
    Calls Try.prog 18 #[a0_a.v] w R := by
  refine calls_of_vc (fun _ => none) (by kernel_rfl) Try.func18 rfl ?_ ?_
  · refine kcast h ?_; kernel_rfl
  · exact (obl_seq (obl_reg (obl_seq (obl_reg (obl_ret trivial)))))

set_option maxRecDepth 100000 in
/-- surd/surdlaw02.num: function 13. -/
theorem surdlaw02_num_vc (a0_e : Int) (w : World) (R : Ending → World → Prop)
    
    (h : R (.returned (Value.int .i64 a0_e)) w) :
    Calls Try.prog 13 #[Value.int .i64 a0_e] w R := by
  refine calls_of_vc (fun _ => none) (by kernel_rfl) Try.func13 rfl ?_ ?_
  · refine kcast h ?_; kernel_rfl
  · exact (obl_seq (obl_reg (obl_seq (obl_reg (obl_ret trivial)))))

set_option maxRecDepth 100000 in
/-- surd/surdlaw02.awake: function 14. -/
theorem surdlaw02_awake_vc  (w : World) (R : Ending → World → Prop)
    
    (h : newC w #[Value.int .u64 0, Value.int .u64 1] 69 fun ad1 w1 =>
    newC w1 #[Value.int .u64 7, Value.int .u64 3] 69 fun ad2 w2 =>
    Calls Try.prog 21 #[(⟨some ad1, 2, 2⟩ : Slc).v, (⟨some ad2, 2, 2⟩ : Slc).v] w2 fun e1 w3 =>
    ∃ s1 : Slc, ∃ x1 : Int, e1 = .returned (Value.tuple #[s1.v, Value.int .i64 x1]) ∧
    (Calls Try.prog 13 #[Value.int .i64 x1] w3 fun e2 w4 =>
      ∃ x2 : Int, e2 = .returned (Value.int .i64 x2) ∧
      (br (x2 == 0)
        (newC w4 #[Value.int .u64 0, Value.int .u64 7, Value.int .u64 3] 69 fun ad3 w5 =>
          Calls Try.prog 16 #[(⟨some ad3, 3, 3⟩ : Slc).v] w5 fun e3 w6 =>
          ∃ s2 : Slc, e3 = .returned s2.v ∧
          (Calls Try.prog 45 #[s2.v, s1.v] w6 fun e4 w7 =>
            ∃ b1 : Bool, e4 = .returned (Value.bool b1) ∧
            (R (.returned (Value.bool b1)) w7)))
        (R (.returned (Value.bool false)) w4)))) :
    Calls Try.prog 14 #[] w R := by
  refine calls_of_vc (fun _ => none) (by kernel_rfl) Try.func14 rfl ?_ ?_
  · refine kcast h ?_; kernel_rfl
  · exact (obl_seq (obl_reg (obl_seq (obl_reg (obl_seq (obl_reg (obl_ret trivial)))))))

set_option maxRecDepth 100000 in
/-- surd/surdlaw02.alike: function 19. -/
theorem surdlaw02_alike_vc (a0_a : Slc) (a1_e : Int) (a2_want : Slc) (a3_f : Int) (w : World) (R : Ending → World → Prop)
    
    (h : Calls Try.prog 13 #[Value.int .i64 a1_e] w fun e1 w1 =>
    ∃ x1 : Int, e1 = .returned (Value.int .i64 x1) ∧
    (br (x1 != a3_f)
      (R (.returned (Value.bool false)) w1)
      (br (a3_f != 0)
        (R (.returned (Value.bool ((a0_a.n : Int) == 0))) w1)
        (Calls Try.prog 45 #[a2_want.v, a0_a.v] w1 fun e2 w2 =>
          ∃ b1 : Bool, e2 = .returned (Value.bool b1) ∧
          (R (.returned (Value.bool b1)) w2))))) :
    Calls Try.prog 19 #[a0_a.v, Value.int .i64 a1_e, a2_want.v, Value.int .i64 a3_f] w R := by
  refine calls_of_vc (fun _ => none) (by kernel_rfl) Try.func19 rfl ?_ ?_
  · refine kcast h ?_; kernel_rfl
  · exact (obl_seq (obl_reg (obl_seq (obl_seq (obl_reg (obl_cond (obl_seq (obl_reg (obl_ret (obl_skip (obl_seq (obl_seq (obl_reg (obl_cond (obl_seq (obl_reg (obl_ret (obl_skip (obl_seq (obl_reg (obl_ret trivial)))))))))))))))))))))

set_option maxRecDepth 100000 in
/-- surd/surdlaw02.MulNames: function 3. -/
theorem surdlaw02_MulNames_vc  (w : World) (R : Ending → World → Prop)
    
    (h : Calls Try.prog 13 #[Value.int .i64 1] w fun e1 w1 =>
    ∃ x1 : Int, e1 = .returned (Value.int .i64 x1) ∧
    (br (x1 == 1)
      (Calls Try.prog 13 #[Value.int .i64 3] w1 fun e2 w2 =>
        ∃ x2 : Int, e2 = .returned (Value.int .i64 x2) ∧
        (br (x2 == 3)
          (Calls Try.prog 14 #[] w2 fun e3 w3 =>
            ∃ b1 : Bool, e3 = .returned (Value.bool b1) ∧
            (R (.returned (Value.bool b1)) w3))
          (R (.returned (Value.bool false)) w2)))
      (R (.returned (Value.bool false)) w1))) :
    Calls Try.prog 3 #[] w R := by
  refine calls_of_vc (fun _ => none) (by kernel_rfl) Try.func3 rfl ?_ ?_
  · refine kcast h ?_; kernel_rfl
  · exact (obl_seq (obl_reg (obl_seq (obl_reg (obl_ret trivial)))))

set_option maxRecDepth 100000 in
/-- surd/surdlaw02.MulSquares: function 4. -/
theorem surdlaw02_MulSquares_vc (a0_a : Slc) (w : World) (R : Ending → World → Prop)
    
    (h : Calls Try.prog 15 #[a0_a.v] w fun e1 w1 =>
    ∃ s1 : Slc, ∃ s2 : Slc, e1 = .returned (Value.tuple #[s1.v, s2.v]) ∧
    (Calls Try.prog 16 #[a0_a.v] w1 fun e2 w2 =>
      ∃ s3 : Slc, e2 = .returned s3.v ∧
      (Calls Try.prog 17 #[s3.v, s3.v] w2 fun e3 w3 =>
        ∃ s4 : Slc, ∃ x1 : Int, e3 = .returned (Value.tuple #[s4.v, Value.int .i64 x1]) ∧
        (Calls Try.prog 18 #[s2.v] w3 fun e4 w4 =>
          ∃ s5 : Slc, ∃ x2 : Int, e4 = .returned (Value.tuple #[s5.v, Value.int .i64 x2]) ∧
          (Calls Try.prog 19 #[s5.v, Value.int .i64 x2, s4.v, Value.int .i64 x1] w4 fun e5 w5 =>
            ∃ b1 : Bool, e5 = .returned (Value.bool b1) ∧
            (br b1
              (Calls Try.prog 20 #[s1.v, a0_a.v] w5 fun e6 w6 =>
                ∃ b2 : Bool, e6 = .returned (Value.bool b2) ∧
                (br b2
                  (Calls Try.prog 14 #[] w6 fun e7 w7 =>
                    ∃ b3 : Bool, e7 = .returned (Value.bool b3) ∧
                    (R (.returned (Value.bool b3)) w7))
                  (R (.returned (Value.bool false)) w6)))
              (R (.returned (Value.bool false)) w5))))))) :
    Calls Try.prog 4 #[a0_a.v] w R := by
  refine calls_of_vc (fun _ => none) (by kernel_rfl) Try.func4 rfl ?_ ?_
  · refine kcast h ?_; kernel_rfl
  · exact (obl_seq (obl_reg (obl_seq (obl_reg (obl_seq (obl_reg (obl_seq (obl_reg (obl_seq (obl_reg (obl_seq (obl_reg (obl_ret trivial)))))))))))))

set_option maxRecDepth 100000 in
/-- surd/surdlaw02.MulRing: function 5. -/
theorem surdlaw02_MulRing_vc (a0 : Slc) (a1 : Slc) (a2 : Slc) (w : World) (R : Ending → World → Prop)
    
    (h : Calls Try.prog 21 #[a0.v, a1.v] w fun e1 w1 =>
    ∃ s1 : Slc, ∃ x1 : Int, e1 = .returned (Value.tuple #[s1.v, Value.int .i64 x1]) ∧
    (Calls Try.prog 21 #[a1.v, a0.v] w1 fun e2 w2 =>
      ∃ s2 : Slc, ∃ x2 : Int, e2 = .returned (Value.tuple #[s2.v, Value.int .i64 x2]) ∧
      (Calls Try.prog 21 #[a0.v, a2.v] w2 fun e3 w3 =>
        ∃ s3 : Slc, ∃ x3 : Int, e3 = .returned (Value.tuple #[s3.v, Value.int .i64 x3]) ∧
        (Calls Try.prog 21 #[a1.v, a2.v] w3 fun e4 w4 =>
          ∃ s4 : Slc, ∃ x4 : Int, e4 = .returned (Value.tuple #[s4.v, Value.int .i64 x4]) ∧
          (newC w4 #[Value.int .i64 x1, Value.int .i64 x2, Value.int .i64 x3, Value.int .i64 x4] 23 fun ad1 w5 =>
            Calls Try.prog 22 #[(⟨some ad1, 4, 4⟩ : Slc).v] w5 fun e5 w6 =>
            ∃ b1 : Bool, e5 = .returned (Value.bool b1) ∧
            (br (!b1)
              (Calls Try.prog 14 #[] w6 fun e6 w7 =>
                ∃ b2 : Bool, e6 = .returned (Value.bool b2) ∧
                (R (.returned (Value.bool b2)) w7))
              (Calls Try.prog 21 #[s1.v, a2.v] w6 fun e7 w8 =>
                ∃ s5 : Slc, ∃ x5 : Int, e7 = .returned (Value.tuple #[s5.v, Value.int .i64 x5]) ∧
                (Calls Try.prog 21 #[a0.v, s4.v] w8 fun e8 w9 =>
                  ∃ s6 : Slc, ∃ x6 : Int, e8 = .returned (Value.tuple #[s6.v, Value.int .i64 x6]) ∧
                  (Calls Try.prog 23 #[a1.v, a2.v] w9 fun e9 w10 =>
                    ∃ s7 : Slc, e9 = .returned s7.v ∧
                    (Calls Try.prog 21 #[a0.v, s7.v] w10 fun e10 w11 =>
                      ∃ s8 : Slc, ∃ x7 : Int, e10 = .returned (Value.tuple #[s8.v, Value.int .i64 x7]) ∧
                      (newC w11 #[Value.int .i64 x5, Value.int .i64 x6, Value.int .i64 x7] 23 fun ad2 w12 =>
                        Calls Try.prog 22 #[(⟨some ad2, 3, 3⟩ : Slc).v] w12 fun e11 w13 =>
                        ∃ b3 : Bool, e11 = .returned (Value.bool b3) ∧
                        (br (!b3)
                          (Calls Try.prog 24 #[s1.v, s2.v] w13 fun e12 w14 =>
                            ∃ b4 : Bool, e12 = .returned (Value.bool b4) ∧
                            (br b4
                              (Calls Try.prog 14 #[] w14 fun e13 w15 =>
                                ∃ b5 : Bool, e13 = .returned (Value.bool b5) ∧
                                (R (.returned (Value.bool b5)) w15))
                              (R (.returned (Value.bool false)) w14)))
                          (Calls Try.prog 23 #[a0.v, a1.v] w13 fun e14 w16 =>
                            ∃ s9 : Slc, e14 = .returned s9.v ∧
                            (Calls Try.prog 18 #[s9.v] w16 fun e15 w17 =>
                              ∃ s10 : Slc, ∃ x8 : Int, e15 = .returned (Value.tuple #[s10.v, Value.int .i64 x8]) ∧
                              (Calls Try.prog 18 #[a0.v] w17 fun e16 w18 =>
                                ∃ s11 : Slc, ∃ x9 : Int, e16 = .returned (Value.tuple #[s11.v, Value.int .i64 x9]) ∧
                                (Calls Try.prog 18 #[a1.v] w18 fun e17 w19 =>
                                  ∃ s12 : Slc, ∃ x10 : Int, e17 = .returned (Value.tuple #[s12.v, Value.int .i64 x10]) ∧
                                  (newC w19 #[Value.int .i64 x8, Value.int .i64 x9, Value.int .i64 x10] 23 fun ad3 w20 =>
                                    Calls Try.prog 22 #[(⟨some ad3, 3, 3⟩ : Slc).v] w20 fun e18 w21 =>
                                    ∃ b6 : Bool, e18 = .returned (Value.bool b6) ∧
                                    (br (!b6)
                                      (Calls Try.prog 24 #[s1.v, s2.v] w21 fun e19 w22 =>
                                        ∃ b7 : Bool, e19 = .returned (Value.bool b7) ∧
                                        (br b7
                                          (Calls Try.prog 24 #[s5.v, s6.v] w22 fun e20 w23 =>
                                            ∃ b8 : Bool, e20 = .returned (Value.bool b8) ∧
                                            (br b8
                                              (Calls Try.prog 23 #[s1.v, s3.v] w23 fun e21 w24 =>
                                                ∃ s13 : Slc, e21 = .returned s13.v ∧
                                                (Calls Try.prog 24 #[s8.v, s13.v] w24 fun e22 w25 =>
                                                  ∃ b9 : Bool, e22 = .returned (Value.bool b9) ∧
                                                  (br b9
                                                    (Calls Try.prog 14 #[] w25 fun e23 w26 =>
                                                      ∃ b10 : Bool, e23 = .returned (Value.bool b10) ∧
                                                      (R (.returned (Value.bool b10)) w26))
                                                    (R (.returned (Value.bool false)) w25))))
                                              (R (.returned (Value.bool false)) w23)))
                                          (R (.returned (Value.bool false)) w22)))
                                      (Calls Try.prog 24 #[s1.v, s2.v] w21 fun e24 w27 =>
                                        ∃ b11 : Bool, e24 = .returned (Value.bool b11) ∧
                                        (br b11
                                          (Calls Try.prog 24 #[s5.v, s6.v] w27 fun e25 w28 =>
                                            ∃ b12 : Bool, e25 = .returned (Value.bool b12) ∧
                                            (br b12
                                              (Calls Try.prog 23 #[s1.v, s3.v] w28 fun e26 w29 =>
                                                ∃ s14 : Slc, e26 = .returned s14.v ∧
                                                (Calls Try.prog 24 #[s8.v, s14.v] w29 fun e27 w30 =>
                                                  ∃ b13 : Bool, e27 = .returned (Value.bool b13) ∧
                                                  (br b13
                                                    (Calls Try.prog 23 #[s11.v, s12.v] w30 fun e28 w31 =>
                                                      ∃ s15 : Slc, e28 = .returned s15.v ∧
                                                      (Calls Try.prog 23 #[s1.v, s1.v] w31 fun e29 w32 =>
                                                        ∃ s16 : Slc, e29 = .returned s16.v ∧
                                                        (Calls Try.prog 23 #[s15.v, s16.v] w32 fun e30 w33 =>
                                                          ∃ s17 : Slc, e30 = .returned s17.v ∧
                                                          (Calls Try.prog 24 #[s10.v, s17.v] w33 fun e31 w34 =>
                                                            ∃ b14 : Bool, e31 = .returned (Value.bool b14) ∧
                                                            (br b14
                                                              (Calls Try.prog 14 #[] w34 fun e32 w35 =>
                                                                ∃ b15 : Bool, e32 = .returned (Value.bool b15) ∧
                                                                (R (.returned (Value.bool b15)) w35))
                                                              (R (.returned (Value.bool false)) w34))))))
                                                    (R (.returned (Value.bool false)) w30))))
                                              (R (.returned (Value.bool false)) w28)))
                                          (R (.returned (Value.bool false)) w27))))))))))))))))))))) :
    Calls Try.prog 5 #[a0.v, a1.v, a2.v] w R := by
  refine calls_of_vc (fun _ => none) (by kernel_rfl) Try.func5 rfl ?_ ?_
  · refine kcast h ?_; kernel_rfl
  · exact (obl_seq (obl_reg (obl_seq (obl_reg (obl_seq (obl_reg (obl_seq (obl_reg (obl_seq (obl_reg (obl_seq (obl_seq (obl_reg (obl_cond (obl_seq (obl_reg (obl_ret (obl_skip (obl_seq (obl_reg (obl_seq (obl_reg (obl_seq (obl_reg (obl_seq (obl_seq (obl_reg (obl_cond (obl_seq (obl_reg (obl_ret (obl_skip (obl_seq (obl_reg (obl_seq (obl_reg (obl_seq (obl_reg (obl_seq (obl_seq (obl_reg (obl_cond (obl_seq (obl_reg (obl_ret (obl_skip (obl_seq (obl_reg (obl_ret trivial)))))))))))))))))))))))))))))))))))))))))))))))))

set_option maxRecDepth 100000 in
/-- surd/surdref02.Mul: function 17. -/
theorem surdref02_Mul_vc (a0_a : Slc) (a1_b : Slc) (w : World) (R : Ending → World → Prop)
    
    (h : Calls Try.prog 47 #[a0_a.v] w fun e1 w1 =>
    ∃ b1 : Bool, e1 = .returned (Value.bool b1) ∧
    (br (!b1)
      (Calls Try.prog 47 #[a1_b.v] w1 fun e2 w2 =>
        ∃ b2 : Bool, e2 = .returned (Value.bool b2) ∧
        (br (!b2)
          (Calls Try.prog 44 #[a0_a.v] w2 fun e3 w3 =>
            ∃ x1 : Int, e3 = .returned (Value.int .i64 x1) ∧
            (Calls Try.prog 44 #[a1_b.v] w3 fun e4 w4 =>
              ∃ x2 : Int, e4 = .returned (Value.int .i64 x2) ∧
              (br (decide ((IntKind.i64.wrap ((IntKind.i64.wrap (x1 + x2)) - 1)) > 67108864))
                (R (.returned (Value.tuple #[(⟨none, 0, 0⟩ : Slc).v, Value.int .i64 3])) w4)
                (Calls Try.prog 42 #[a0_a.v, a1_b.v] w4 fun e5 w5 =>
                  ∃ s1 : Slc, e5 = .returned s1.v ∧
                  (Calls Try.prog 48 #[s1.v] w5 fun e6 w6 =>
                    ∃ s2 : Slc, ∃ x3 : Int, e6 = .returned (Value.tuple #[s2.v, Value.int .i64 x3]) ∧
                    (R (.returned (Value.tuple #[s2.v, Value.int .i64 x3])) w6))))))
          (Calls Try.prog 42 #[a0_a.v, a1_b.v] w2 fun e7 w7 =>
            ∃ s3 : Slc, e7 = .returned s3.v ∧
            (Calls Try.prog 48 #[s3.v] w7 fun e8 w8 =>
              ∃ s4 : Slc, ∃ x4 : Int, e8 = .returned (Value.tuple #[s4.v, Value.int .i64 x4]) ∧
              (R (.returned (Value.tuple #[s4.v, Value.int .i64 x4])) w8)))))
      (Calls Try.prog 42 #[a0_a.v, a1_b.v] w1 fun e9 w9 =>
        ∃ s5 : Slc, e9 = .returned s5.v ∧
        (Calls Try.prog 48 #[s5.v] w9 fun e10 w10 =>
          ∃ s6 : Slc, ∃ x5 : Int, e10 = .returned (Value.tuple #[s6.v, Value.int .i64 x5]) ∧
          (R (.returned (Value.tuple #[s6.v, Value.int .i64 x5])) w10))))) :
    Calls Try.prog 17 #[a0_a.v, a1_b.v] w R := by
  refine calls_of_vc (fun _ => none) (by kernel_rfl) Try.func17 rfl ?_ ?_
  · refine kcast h ?_; kernel_rfl
  · exact (obl_seq (obl_reg (obl_seq (obl_seq (obl_reg (obl_cond (obl_seq (obl_reg (obl_ret (obl_skip (obl_seq (obl_reg (obl_ret trivial)))))))))))))

set_option maxRecDepth 100000 in
/-- surd/surdref02.Told: function 48. -/
theorem surdref02_Told_vc (a0_a : Slc) (w : World) (R : Ending → World → Prop)
    
    (h : Calls Try.prog 44 #[a0_a.v] w fun e1 w1 =>
    ∃ x1 : Int, e1 = .returned (Value.int .i64 x1) ∧
    (br (decide (x1 > 67108864))
      (R (.returned (Value.tuple #[(⟨none, 0, 0⟩ : Slc).v, Value.int .i64 3])) w1)
      (R (.returned (Value.tuple #[a0_a.v, Value.int .i64 0])) w1))) :
    Calls Try.prog 48 #[a0_a.v] w R := by
  refine calls_of_vc (fun _ => none) (by kernel_rfl) Try.func48 rfl ?_ ?_
  · refine kcast h ?_; kernel_rfl
  · exact (obl_seq (obl_reg (obl_seq (obl_seq (obl_reg (obl_cond (obl_seq (obl_reg (obl_ret (obl_skip (obl_seq (obl_reg (obl_ret trivial)))))))))))))

end Go.Proofs.Ytindbeolpjkijaa
