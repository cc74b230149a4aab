/- What the law leans on, part 2. No condition. -/
import Derived.Test.YtflipimlpgbnmaaZFuelTexts1
namespace Go.Proofs.Ytflipimlpgbnmaa
open Go Go.RowKit Eng
set_option linter.unusedVariables false

set_option maxRecDepth 100000 in
/-- surd/mul.Mul: function 75. -/
theorem mul_Mul_vc (a0_a : Slc) (a1_b : Slc) (w : World) (R : Ending → World → Prop)
    
    (h : Calls Try.prog 78 #[a0_a.v, a1_b.v, Value.func (Fn.func 79) #[] #[]] w fun e1 w1 =>
    ∃ s1 : Slc, ∃ x1 : Int, e1 = .returned (Value.tuple #[s1.v, Value.int .i64 x1]) ∧
    (R (.returned (Value.tuple #[s1.v, Value.int .i64 x1])) w1)) :
    Calls Try.prog 75 #[a0_a.v, a1_b.v] w R := by
  refine calls_of_vc (fun _ => none) (by kernel_rfl) Try.func75 rfl ?_ ?_
  · refine kcast h ?_; kernel_rfl
  · exact (obl_seq rfl (obl_reg (obl_seq rfl (obl_reg (obl_ret trivial)))))

set_option maxRecDepth 100000 in
/-- surd/mul.product: function 78. -/
theorem mul_product__mul_Mul_1_vc (a0_a : Slc) (a1_b : Slc) (w : World) (R : Ending → World → Prop)
    
    (h : Calls Try.prog 52 #[a0_a.v] w fun e1 w1 =>
    ∃ s1 : Slc, e1 = .returned s1.v ∧
    (Calls Try.prog 52 #[a1_b.v] w1 fun e2 w2 =>
     ∃ s2 : Slc, e2 = .returned s2.v ∧
     (Calls Try.prog 81 #[s1.v, s2.v] w2 fun e3 w3 =>
      ∃ b1 : Bool, e3 = .returned (Value.bool b1) ∧
      (br b1
       (R (.returned (Value.tuple #[(⟨none, 0, 0⟩ : Slc).v, Value.int .i64 3])) w3)
       (Calls Try.prog 79 #[s1.v, s2.v] w3 fun e4 w4 =>
        ∃ s3 : Slc, e4 = .returned s3.v ∧
        (Calls Try.prog 82 #[s3.v] w4 fun e5 w5 =>
         ∃ s4 : Slc, ∃ x1 : Int, e5 = .returned (Value.tuple #[s4.v, Value.int .i64 x1]) ∧
         (R (.returned (Value.tuple #[s4.v, Value.int .i64 x1])) w5))))))) :
    Calls Try.prog 78 #[a0_a.v, a1_b.v, Value.func (Fn.func 79) #[] #[]] w R := by
  refine calls_of_vc (fun _ => none) (by kernel_rfl) Try.func78 rfl ?_ ?_
  · refine kcast h ?_; kernel_rfl
  · exact (obl_seq rfl (obl_reg (obl_seq rfl (obl_reg (obl_seq rfl (obl_seq rfl (obl_reg (obl_cond (obl_seq rfl (obl_reg (obl_ret (obl_skip (obl_seq rfl (obl_reg (obl_ret trivial)))))))))))))))

set_option maxRecDepth 100000 in
/-- surd/mul.Mul$1: function 79. -/
theorem mul_Mul_1_vc (a0_a : Slc) (a1_b : Slc) (w : World) (R : Ending → World → Prop)
    
    (h : Calls Try.prog 80 #[a0_a.v, a1_b.v, Value.int .i64 40] w fun e1 w1 =>
    ∃ s1 : Slc, e1 = .returned s1.v ∧
    (R (.returned s1.v) w1)) :
    Calls Try.prog 79 #[a0_a.v, a1_b.v] w R := by
  refine calls_of_vc (fun _ => none) (by kernel_rfl) Try.func79 rfl ?_ ?_
  · refine kcast h ?_; kernel_rfl
  · exact (obl_seq rfl (obl_reg (obl_seq rfl (obl_reg (obl_ret trivial)))))

set_option maxRecDepth 100000 in
/-- surd/mul.halved: function 80. -/
theorem mul_halved_vc (a0 : Slc) (a1 : Slc) (a2 : Int) (w : World) (R : Ending → World → Prop)
    
    (h : br (decide ((a0.n : Int) < (a1.n : Int)))
    (br (decide ((a0.n : Int) < a2))
     (Calls Try.prog 83 #[a1.v, a0.v] w fun e1 w1 =>
      ∃ s1 : Slc, e1 = .returned s1.v ∧
      (R (.returned s1.v) w1))
     (br (decide ((a0.n : Int) ≤ (IntKind.i64.wrap (Int.tdiv (IntKind.i64.wrap ((a1.n : Int) + 1)) 2))))
      (semS Try.prog (Instr.makeSlice 26 (Value.int .i64 (IntKind.i64.wrap ((IntKind.i64.wrap ((a1.n : Int) + (a0.n : Int))) + 1))) (Value.int .i64 (IntKind.i64.wrap ((IntKind.i64.wrap ((a1.n : Int) + (a0.n : Int))) + 1)))) w fun s2 w2 =>
       Calls Try.prog 85 #[a1.v, Value.int .i64 0, Value.int .i64 (IntKind.i64.wrap (Int.tdiv (IntKind.i64.wrap ((a1.n : Int) + 1)) 2))] w2 fun e2 w3 =>
       ∃ s3 : Slc, e2 = .returned s3.v ∧
       (Calls Try.prog 80 #[s3.v, a0.v, Value.int .i64 a2] w3 fun e3 w4 =>
        ∃ s4 : Slc, e3 = .returned s4.v ∧
        (Calls Try.prog 84 #[s2.v, s4.v, Value.int .i64 0] w4 fun e4 w5 =>
         e4 = .returned (Value.tuple #[]) ∧
         (Calls Try.prog 85 #[a1.v, Value.int .i64 (IntKind.i64.wrap (Int.tdiv (IntKind.i64.wrap ((a1.n : Int) + 1)) 2)), Value.int .i64 (a1.n : Int)] w5 fun e5 w6 =>
          ∃ s5 : Slc, e5 = .returned s5.v ∧
          (Calls Try.prog 80 #[s5.v, a0.v, Value.int .i64 a2] w6 fun e6 w7 =>
           ∃ s6 : Slc, e6 = .returned s6.v ∧
           (Calls Try.prog 84 #[s2.v, s6.v, Value.int .i64 (IntKind.i64.wrap (Int.tdiv (IntKind.i64.wrap ((a1.n : Int) + 1)) 2))] w7 fun e7 w8 =>
            e7 = .returned (Value.tuple #[]) ∧
            (R (.returned s2.v) w8)))))))
      (Calls Try.prog 85 #[a1.v, Value.int .i64 0, Value.int .i64 (IntKind.i64.wrap (Int.tdiv (IntKind.i64.wrap ((a1.n : Int) + 1)) 2))] w fun e8 w9 =>
       ∃ s7 : Slc, e8 = .returned s7.v ∧
       (Calls Try.prog 85 #[a1.v, Value.int .i64 (IntKind.i64.wrap (Int.tdiv (IntKind.i64.wrap ((a1.n : Int) + 1)) 2)), Value.int .i64 (a1.n : Int)] w9 fun e9 w10 =>
        ∃ s8 : Slc, e9 = .returned s8.v ∧
        (Calls Try.prog 85 #[a0.v, Value.int .i64 0, Value.int .i64 (IntKind.i64.wrap (Int.tdiv (IntKind.i64.wrap ((a1.n : Int) + 1)) 2))] w10 fun e10 w11 =>
         ∃ s9 : Slc, e10 = .returned s9.v ∧
         (Calls Try.prog 85 #[a0.v, Value.int .i64 (IntKind.i64.wrap (Int.tdiv (IntKind.i64.wrap ((a1.n : Int) + 1)) 2)), Value.int .i64 (a0.n : Int)] w11 fun e11 w12 =>
          ∃ s10 : Slc, e11 = .returned s10.v ∧
          (Calls Try.prog 80 #[s7.v, s9.v, Value.int .i64 a2] w12 fun e12 w13 =>
           ∃ s11 : Slc, e12 = .returned s11.v ∧
           (Calls Try.prog 80 #[s8.v, s10.v, Value.int .i64 a2] w13 fun e13 w14 =>
            ∃ s12 : Slc, e13 = .returned s12.v ∧
            (Calls Try.prog 87 #[s7.v, s8.v] w14 fun e14 w15 =>
             ∃ s13 : Slc, e14 = .returned s13.v ∧
             (Calls Try.prog 52 #[s13.v] w15 fun e15 w16 =>
              ∃ s14 : Slc, e15 = .returned s14.v ∧
              (Calls Try.prog 87 #[s9.v, s10.v] w16 fun e16 w17 =>
               ∃ s15 : Slc, e16 = .returned s15.v ∧
               (Calls Try.prog 52 #[s15.v] w17 fun e17 w18 =>
                ∃ s16 : Slc, e17 = .returned s16.v ∧
                (Calls Try.prog 80 #[s14.v, s16.v, Value.int .i64 a2] w18 fun e18 w19 =>
                 ∃ s17 : Slc, e18 = .returned s17.v ∧
                 (Calls Try.prog 86 #[s17.v, s11.v] w19 fun e19 w20 =>
                  ∃ s18 : Slc, e19 = .returned s18.v ∧
                  (Calls Try.prog 86 #[s18.v, s12.v] w20 fun e20 w21 =>
                   ∃ s19 : Slc, e20 = .returned s19.v ∧
                   (semS Try.prog (Instr.makeSlice 26 (Value.int .i64 (IntKind.i64.wrap ((IntKind.i64.wrap ((a1.n : Int) + (a0.n : Int))) + 1))) (Value.int .i64 (IntKind.i64.wrap ((IntKind.i64.wrap ((a1.n : Int) + (a0.n : Int))) + 1)))) w21 fun s20 w22 =>
                    Calls Try.prog 84 #[s20.v, s11.v, Value.int .i64 0] w22 fun e21 w23 =>
                    e21 = .returned (Value.tuple #[]) ∧
                    (Calls Try.prog 84 #[s20.v, s19.v, Value.int .i64 (IntKind.i64.wrap (Int.tdiv (IntKind.i64.wrap ((a1.n : Int) + 1)) 2))] w23 fun e22 w24 =>
                     e22 = .returned (Value.tuple #[]) ∧
                     (Calls Try.prog 84 #[s20.v, s12.v, Value.int .i64 (IntKind.i64.wrap (2 * (IntKind.i64.wrap (Int.tdiv (IntKind.i64.wrap ((a1.n : Int) + 1)) 2))))] w24 fun e23 w25 =>
                      e23 = .returned (Value.tuple #[]) ∧
                      (R (.returned s20.v) w25)))))))))))))))))))
    (br (decide ((a1.n : Int) < a2))
     (Calls Try.prog 83 #[a0.v, a1.v] w fun e24 w26 =>
      ∃ s21 : Slc, e24 = .returned s21.v ∧
      (R (.returned s21.v) w26))
     (br (decide ((a1.n : Int) ≤ (IntKind.i64.wrap (Int.tdiv (IntKind.i64.wrap ((a0.n : Int) + 1)) 2))))
      (semS Try.prog (Instr.makeSlice 26 (Value.int .i64 (IntKind.i64.wrap ((IntKind.i64.wrap ((a0.n : Int) + (a1.n : Int))) + 1))) (Value.int .i64 (IntKind.i64.wrap ((IntKind.i64.wrap ((a0.n : Int) + (a1.n : Int))) + 1)))) w fun s22 w27 =>
       Calls Try.prog 85 #[a0.v, Value.int .i64 0, Value.int .i64 (IntKind.i64.wrap (Int.tdiv (IntKind.i64.wrap ((a0.n : Int) + 1)) 2))] w27 fun e25 w28 =>
       ∃ s23 : Slc, e25 = .returned s23.v ∧
       (Calls Try.prog 80 #[s23.v, a1.v, Value.int .i64 a2] w28 fun e26 w29 =>
        ∃ s24 : Slc, e26 = .returned s24.v ∧
        (Calls Try.prog 84 #[s22.v, s24.v, Value.int .i64 0] w29 fun e27 w30 =>
         e27 = .returned (Value.tuple #[]) ∧
         (Calls Try.prog 85 #[a0.v, Value.int .i64 (IntKind.i64.wrap (Int.tdiv (IntKind.i64.wrap ((a0.n : Int) + 1)) 2)), Value.int .i64 (a0.n : Int)] w30 fun e28 w31 =>
          ∃ s25 : Slc, e28 = .returned s25.v ∧
          (Calls Try.prog 80 #[s25.v, a1.v, Value.int .i64 a2] w31 fun e29 w32 =>
           ∃ s26 : Slc, e29 = .returned s26.v ∧
           (Calls Try.prog 84 #[s22.v, s26.v, Value.int .i64 (IntKind.i64.wrap (Int.tdiv (IntKind.i64.wrap ((a0.n : Int) + 1)) 2))] w32 fun e30 w33 =>
            e30 = .returned (Value.tuple #[]) ∧
            (R (.returned s22.v) w33)))))))
      (Calls Try.prog 85 #[a0.v, Value.int .i64 0, Value.int .i64 (IntKind.i64.wrap (Int.tdiv (IntKind.i64.wrap ((a0.n : Int) + 1)) 2))] w fun e31 w34 =>
       ∃ s27 : Slc, e31 = .returned s27.v ∧
       (Calls Try.prog 85 #[a0.v, Value.int .i64 (IntKind.i64.wrap (Int.tdiv (IntKind.i64.wrap ((a0.n : Int) + 1)) 2)), Value.int .i64 (a0.n : Int)] w34 fun e32 w35 =>
        ∃ s28 : Slc, e32 = .returned s28.v ∧
        (Calls Try.prog 85 #[a1.v, Value.int .i64 0, Value.int .i64 (IntKind.i64.wrap (Int.tdiv (IntKind.i64.wrap ((a0.n : Int) + 1)) 2))] w35 fun e33 w36 =>
         ∃ s29 : Slc, e33 = .returned s29.v ∧
         (Calls Try.prog 85 #[a1.v, Value.int .i64 (IntKind.i64.wrap (Int.tdiv (IntKind.i64.wrap ((a0.n : Int) + 1)) 2)), Value.int .i64 (a1.n : Int)] w36 fun e34 w37 =>
          ∃ s30 : Slc, e34 = .returned s30.v ∧
          (Calls Try.prog 80 #[s27.v, s29.v, Value.int .i64 a2] w37 fun e35 w38 =>
           ∃ s31 : Slc, e35 = .returned s31.v ∧
           (Calls Try.prog 80 #[s28.v, s30.v, Value.int .i64 a2] w38 fun e36 w39 =>
            ∃ s32 : Slc, e36 = .returned s32.v ∧
            (Calls Try.prog 87 #[s27.v, s28.v] w39 fun e37 w40 =>
             ∃ s33 : Slc, e37 = .returned s33.v ∧
             (Calls Try.prog 52 #[s33.v] w40 fun e38 w41 =>
              ∃ s34 : Slc, e38 = .returned s34.v ∧
              (Calls Try.prog 87 #[s29.v, s30.v] w41 fun e39 w42 =>
               ∃ s35 : Slc, e39 = .returned s35.v ∧
               (Calls Try.prog 52 #[s35.v] w42 fun e40 w43 =>
                ∃ s36 : Slc, e40 = .returned s36.v ∧
                (Calls Try.prog 80 #[s34.v, s36.v, Value.int .i64 a2] w43 fun e41 w44 =>
                 ∃ s37 : Slc, e41 = .returned s37.v ∧
                 (Calls Try.prog 86 #[s37.v, s31.v] w44 fun e42 w45 =>
                  ∃ s38 : Slc, e42 = .returned s38.v ∧
                  (Calls Try.prog 86 #[s38.v, s32.v] w45 fun e43 w46 =>
                   ∃ s39 : Slc, e43 = .returned s39.v ∧
                   (semS Try.prog (Instr.makeSlice 26 (Value.int .i64 (IntKind.i64.wrap ((IntKind.i64.wrap ((a0.n : Int) + (a1.n : Int))) + 1))) (Value.int .i64 (IntKind.i64.wrap ((IntKind.i64.wrap ((a0.n : Int) + (a1.n : Int))) + 1)))) w46 fun s40 w47 =>
                    Calls Try.prog 84 #[s40.v, s31.v, Value.int .i64 0] w47 fun e44 w48 =>
                    e44 = .returned (Value.tuple #[]) ∧
                    (Calls Try.prog 84 #[s40.v, s39.v, Value.int .i64 (IntKind.i64.wrap (Int.tdiv (IntKind.i64.wrap ((a0.n : Int) + 1)) 2))] w48 fun e45 w49 =>
                     e45 = .returned (Value.tuple #[]) ∧
                     (Calls Try.prog 84 #[s40.v, s32.v, Value.int .i64 (IntKind.i64.wrap (2 * (IntKind.i64.wrap (Int.tdiv (IntKind.i64.wrap ((a0.n : Int) + 1)) 2))))] w49 fun e46 w50 =>
                      e46 = .returned (Value.tuple #[]) ∧
                      (R (.returned s40.v) w50)))))))))))))))))))) :
    Calls Try.prog 80 #[a0.v, a1.v, Value.int .i64 a2] w R := by
  refine calls_of_vc (fun _ => none) (by kernel_rfl) Try.func80 rfl ?_ ?_
  · refine kcast h ?_; kernel_rfl
  · exact (obl_seq rfl (obl_reg (obl_seq rfl (obl_seq rfl (obl_reg (obl_cond (obl_reg (obl_skip (obl_seq rfl (obl_seq rfl (obl_reg (obl_cond (obl_seq rfl (obl_reg (obl_ret (obl_skip (obl_seq rfl (obl_reg (obl_seq rfl (obl_seq rfl (obl_reg (obl_cond (obl_seq rfl (obl_reg (obl_seq rfl (obl_reg (obl_seq rfl (obl_reg (obl_seq rfl (obl_reg (obl_ret (obl_skip (obl_seq rfl (obl_reg (obl_seq rfl (obl_reg (obl_seq rfl (obl_reg (obl_seq rfl (obl_reg (obl_seq rfl (obl_reg (obl_seq rfl (obl_reg (obl_seq rfl (obl_reg (obl_seq rfl (obl_reg (obl_ret trivial)))))))))))))))))))))))))))))))))))))))))))))))))

set_option maxRecDepth 100000 in
/-- surd/mul.great: function 81. -/
theorem mul_great_vc (a0_a : Slc) (a1_b : Slc) (w : World) (R : Ending → World → Prop)
    
    (h : Calls Try.prog 71 #[a0_a.v] w fun e1 w1 =>
    ∃ x1 : Int, e1 = .returned (Value.int .i64 x1) ∧
    (Calls Try.prog 71 #[a1_b.v] w1 fun e2 w2 =>
     ∃ x2 : Int, e2 = .returned (Value.int .i64 x2) ∧
     (br (decide (x1 > 0))
      (br (decide (x2 > 0))
       (R (.returned (Value.bool (decide ((IntKind.i64.wrap ((IntKind.i64.wrap (x1 + x2)) - 1)) > 67108864)))) w2)
       (R (.returned (Value.bool false)) w2))
      (R (.returned (Value.bool false)) w2)))) :
    Calls Try.prog 81 #[a0_a.v, a1_b.v] w R := by
  refine calls_of_vc (fun _ => none) (by kernel_rfl) Try.func81 rfl ?_ ?_
  · refine kcast h ?_; kernel_rfl
  · exact (obl_seq rfl (obl_reg (obl_seq rfl (obl_reg (obl_seq rfl (obl_reg (obl_ret trivial)))))))

set_option maxRecDepth 100000 in
/-- surd/mul.fits: function 82. -/
theorem mul_fits_vc (a0_a : Slc) (w : World) (R : Ending → World → Prop)
    
    (h : Calls Try.prog 52 #[a0_a.v] w fun e1 w1 =>
    ∃ s1 : Slc, e1 = .returned s1.v ∧
    (Calls Try.prog 71 #[s1.v] w1 fun e2 w2 =>
     ∃ x1 : Int, e2 = .returned (Value.int .i64 x1) ∧
     (br (decide (x1 > 67108864))
      (R (.returned (Value.tuple #[(⟨none, 0, 0⟩ : Slc).v, Value.int .i64 3])) w2)
      (R (.returned (Value.tuple #[s1.v, Value.int .i64 0])) w2)))) :
    Calls Try.prog 82 #[a0_a.v] w R := by
  refine calls_of_vc (fun _ => none) (by kernel_rfl) Try.func82 rfl ?_ ?_
  · refine kcast h ?_; kernel_rfl
  · exact (obl_seq rfl (obl_reg (obl_seq rfl (obl_reg (obl_seq rfl (obl_seq rfl (obl_reg (obl_cond (obl_seq rfl (obl_reg (obl_ret (obl_skip (obl_seq rfl (obl_reg (obl_ret trivial)))))))))))))))

def mul_school_cut (J0 : Slc → Slc → Slc → Int → Int → World → Prop) (m0 : Slc → Slc → Slc → Int → Int → World → Nat) (J2 : Slc → Slc → Slc → Int → Int → World → Slc → Slc → Int → Int → Int → Slc → Int → Int → Slc → Int → Int → World → Prop) (m2 : Slc → Slc → Slc → Int → Int → World → Slc → Slc → Int → Int → Int → Slc → Int → Int → Slc → Int → Int → World → Nat) : Nat → Option ((Act → World → Prop) × (Act → World → Nat))
  | 0 => some (fun a_ w_ => atSz a_ 78 (atS a_ 1 fun t1 => atS a_ 5 fun t5 => atS a_ 20 fun t20 => atI .i64 a_ 21 fun t21 => atI .i64 a_ 22 fun t22 => J0 t1 t5 t20 t21 t22 w_), fun a_ w_ => mS a_ 1 fun t1 => mS a_ 5 fun t5 => mS a_ 20 fun t20 => mI a_ 21 fun t21 => mI a_ 22 fun t22 => m0 t1 t5 t20 t21 t22 w_)
  | _ => none

def mul_school_cut_0 (J0 : Slc → Slc → Slc → Int → Int → World → Prop) (m0 : Slc → Slc → Slc → Int → Int → World → Nat) (J2 : Slc → Slc → Slc → Int → Int → World → Slc → Slc → Int → Int → Int → Slc → Int → Int → Slc → Int → Int → World → Prop) (m2 : Slc → Slc → Slc → Int → Int → World → Slc → Slc → Int → Int → Int → Slc → Int → Int → Slc → Int → Int → World → Nat) (o_t1 : Slc) (o_t5 : Slc) (o_t20 : Slc) (o_t21 : Int) (o_t22 : Int) (o_w_ : World) : Nat → Option ((Act → World → Prop) × (Act → World → Nat))
  | 2 => some (fun a_ w_ => atSz a_ 78 (atS a_ 1 fun t1 => atS a_ 5 fun t5 => atI .i64 a_ 6 fun t6 => atI .u64 a_ 7 fun t7 => atI .u64 a_ 8 fun t8 => atS a_ 20 fun t20 => atI .i64 a_ 21 fun t21 => atI .i64 a_ 22 fun t22 => atS a_ 27 fun t27 => atI .i64 a_ 28 fun t28 => atI .i64 a_ 29 fun t29 => J2 o_t1 o_t5 o_t20 o_t21 o_t22 o_w_ t1 t5 t6 t7 t8 t20 t21 t22 t27 t28 t29 w_), fun a_ w_ => mS a_ 1 fun t1 => mS a_ 5 fun t5 => mI a_ 6 fun t6 => mI a_ 7 fun t7 => mI a_ 8 fun t8 => mS a_ 20 fun t20 => mI a_ 21 fun t21 => mI a_ 22 fun t22 => mS a_ 27 fun t27 => mI a_ 28 fun t28 => mI a_ 29 fun t29 => m2 o_t1 o_t5 o_t20 o_t21 o_t22 o_w_ t1 t5 t6 t7 t8 t20 t21 t22 t27 t28 t29 w_)
  | _ => none

set_option maxRecDepth 100000 in
/-- surd/mul.school: function 83. -/
theorem mul_school_vc (a0 : Slc) (a1 : Slc) (w : World) (R : Ending → World → Prop)
    (J0 : Slc → Slc → Slc → Int → Int → World → Prop) (m0 : Slc → Slc → Slc → Int → Int → World → Nat) (J2 : Slc → Slc → Slc → Int → Int → World → Slc → Slc → Int → Int → Int → Slc → Int → Int → Slc → Int → Int → World → Prop) (m2 : Slc → Slc → Slc → Int → Int → World → Slc → Slc → Int → Int → Int → Slc → Int → Int → Slc → Int → Int → World → Nat)
    (h : semS Try.prog (Instr.makeSlice 26 (Value.int .i64 (IntKind.i64.wrap ((a0.n : Int) + (a1.n : Int)))) (Value.int .i64 (IntKind.i64.wrap ((a0.n : Int) + (a1.n : Int))))) w fun s1 w1 =>
    J0 a1 s1 a0 (a0.n : Int) 0 w1)
    (h0 : ∀ (t1 : Slc) (t5 : Slc) (t20 : Slc) (t21 : Int) (t22 : Int) (w_ : World), J0 t1 t5 t20 t21 t22 w_ → 
    br (decide (t22 < t21))
    (semA Try.prog (Instr.indexAt 26 t20.v (Value.int .i64 t22)) w_ fun ad1 w2 =>
     ldI .u64 ad1 w2 fun x1 =>
     J2 t1 t5 t20 t21 t22 w_ t1 t5 t22 x1 0 t20 t21 t22 t1 (t1.n : Int) 0 w2)
    (R (.returned t5.v) w_))
    (h2 : ∀ (t1 : Slc) (t5 : Slc) (t20 : Slc) (t21 : Int) (t22 : Int) (w_ : World), J0 t1 t5 t20 t21 t22 w_ → ∀ (t1' : Slc) (t5' : Slc) (t6' : Int) (t7' : Int) (t8' : Int) (t20' : Slc) (t21' : Int) (t22' : Int) (t27' : Slc) (t28' : Int) (t29' : Int) (w__ : World), J2 t1 t5 t20 t21 t22 w_ t1' t5' t6' t7' t8' t20' t21' t22' t27' t28' t29' w__ → 
    br (decide (t29' < t28'))
    (semA Try.prog (Instr.indexAt 26 t27'.v (Value.int .i64 t29')) w__ fun ad2 w3 =>
     ldI .u64 ad2 w3 fun x2 =>
     Calls Try.prog 88 #[Value.int .u64 t7', Value.int .u64 x2] w3 fun e1 w4 =>
     ∃ x3 : Int, ∃ x4 : Int, e1 = .returned (Value.tuple #[Value.int .u64 x3, Value.int .u64 x4]) ∧
     (Sem.wp Try.prog (callFunc 64 #[Value.int .u64 x4, Value.int .u64 t8', Value.int .u64 0]) (fun n1 w5 =>
       ∃ x5 : Int, ∃ x6 : Int, n1 = .value (Value.tuple #[Value.int .u64 x5, Value.int .u64 x6]) ∧
       (semA Try.prog (Instr.indexAt 26 t5'.v (Value.int .i64 (IntKind.i64.wrap (t6' + t29')))) w5 fun ad3 w6 =>
        ldI .u64 ad3 w6 fun x7 =>
        Sem.wp Try.prog (callFunc 64 #[Value.int .u64 x7, Value.int .u64 x5, Value.int .u64 0]) (fun n2 w7 =>
         ∃ x8 : Int, ∃ x9 : Int, n2 = .value (Value.tuple #[Value.int .u64 x8, Value.int .u64 x9]) ∧
         (semA Try.prog (Instr.indexAt 26 t5'.v (Value.int .i64 (IntKind.i64.wrap (t6' + t29')))) w7 fun ad4 w8 =>
          stC ad4 (Value.int .u64 x8) w8 fun w9 =>
          J2 t1 t5 t20 t21 t22 w_ t1' t5' t6' t7' (IntKind.u64.wrap ((IntKind.u64.wrap (x3 + x6)) + x9)) t20' t21' t22' t27' t28' (IntKind.i64.wrap (t29' + 1)) w9 ∧
          m2 t1 t5 t20 t21 t22 w_ t1' t5' t6' t7' (IntKind.u64.wrap ((IntKind.u64.wrap (x3 + x6)) + x9)) t20' t21' t22' t27' t28' (IntKind.i64.wrap (t29' + 1)) w9 < m2 t1 t5 t20 t21 t22 w_ t1' t5' t6' t7' t8' t20' t21' t22' t27' t28' t29' w__)) (fun _ _ => False) w6)) (fun _ _ => False) w4))
    (semA Try.prog (Instr.indexAt 26 t5'.v (Value.int .i64 (IntKind.i64.wrap (t6' + (t1'.n : Int))))) w__ fun ad5 w10 =>
     stC ad5 (Value.int .u64 t8') w10 fun w11 =>
     J0 t1' t5' t20' t21' (IntKind.i64.wrap (t22' + 1)) w11 ∧
     m0 t1' t5' t20' t21' (IntKind.i64.wrap (t22' + 1)) w11 < m0 t1 t5 t20 t21 t22 w_)) :
    Calls Try.prog 83 #[a0.v, a1.v] w R := by
  refine calls_of_vc (mul_school_cut J0 m0 J2 m2) (by kernel_rfl) Try.func83 rfl ?_ ?_
  · refine kcast h ?_; kernel_rfl
  · exact (obl_seq rfl (obl_reg (obl_seq rfl (obl_reg (obl_seq rfl (obl_seq rfl (obl_reg (obl_loop _ rfl (fun a_ w_ hL_ => (by
    obtain ⟨hz_, hd_, hL_⟩ := atSz_out hL_
    obtain ⟨t1, h1_, hL_⟩ := atS_out hL_
    obtain ⟨t5, h5_, hL_⟩ := atS_out hL_
    obtain ⟨t20, h20_, hL_⟩ := atS_out hL_
    obtain ⟨t21, h21_, hL_⟩ := atI_out hL_
    obtain ⟨t22, h22_, hL_⟩ := atI_out hL_
    obtain ⟨g0, rfl⟩ : ∃ g, a_ = Fr 78 [(1, t1.v), (5, t5.v), (20, t20.v), (21, Value.int .i64 t21), (22, Value.int .i64 t22)] g := ⟨_, fr_of hz_ hd_ [(1, t1.v), (5, t5.v), (20, t20.v), (21, Value.int .i64 t21), (22, Value.int .i64 t22)] (sel_cons h1_ (sel_cons h5_ (sel_cons h20_ (sel_cons h21_ (sel_cons h22_ sel_nil)))))⟩
    clear hz_ hd_ h1_ h5_ h20_ h21_ h22_
    have hJ0_ := hL_
    refine ⟨(mul_school_cut_0 J0 m0 J2 m2 t1 t5 t20 t21 t22 w_), kcast (h0 t1 t5 t20 t21 t22 w_ hJ0_) ?_, ?_⟩
    · kernel_rfl
    · exact (obl_seq rfl (obl_reg (obl_seq rfl (obl_cond (obl_skip (obl_exit (obl_seq rfl (obl_blk rfl (obl_seq rfl (obl_reg (obl_seq rfl (obl_reg (obl_seq rfl (obl_seq rfl (obl_reg (obl_loop _ rfl (fun a_ w__ hL_ => (by
      obtain ⟨hz_, hd_, hL_⟩ := atSz_out hL_
      obtain ⟨t1', h1_, hL_⟩ := atS_out hL_
      obtain ⟨t5', h5_, hL_⟩ := atS_out hL_
      obtain ⟨t6', h6_, hL_⟩ := atI_out hL_
      obtain ⟨t7', h7_, hL_⟩ := atI_out hL_
      obtain ⟨t8', h8_, hL_⟩ := atI_out hL_
      obtain ⟨t20', h20_, hL_⟩ := atS_out hL_
      obtain ⟨t21', h21_, hL_⟩ := atI_out hL_
      obtain ⟨t22', h22_, hL_⟩ := atI_out hL_
      obtain ⟨t27', h27_, hL_⟩ := atS_out hL_
      obtain ⟨t28', h28_, hL_⟩ := atI_out hL_
      obtain ⟨t29', h29_, hL_⟩ := atI_out hL_
      obtain ⟨g2, rfl⟩ : ∃ g, a_ = Fr 78 [(1, t1'.v), (5, t5'.v), (6, Value.int .i64 t6'), (7, Value.int .u64 t7'), (8, Value.int .u64 t8'), (20, t20'.v), (21, Value.int .i64 t21'), (22, Value.int .i64 t22'), (27, t27'.v), (28, Value.int .i64 t28'), (29, Value.int .i64 t29')] g := ⟨_, fr_of hz_ hd_ [(1, t1'.v), (5, t5'.v), (6, Value.int .i64 t6'), (7, Value.int .u64 t7'), (8, Value.int .u64 t8'), (20, t20'.v), (21, Value.int .i64 t21'), (22, Value.int .i64 t22'), (27, t27'.v), (28, Value.int .i64 t28'), (29, Value.int .i64 t29')] (sel_cons h1_ (sel_cons h5_ (sel_cons h6_ (sel_cons h7_ (sel_cons h8_ (sel_cons h20_ (sel_cons h21_ (sel_cons h22_ (sel_cons h27_ (sel_cons h28_ (sel_cons h29_ sel_nil)))))))))))⟩
      clear hz_ hd_ h1_ h5_ h6_ h7_ h8_ h20_ h21_ h22_ h27_ h28_ h29_
      have hJ2_ := hL_
      refine ⟨(fun _ => none), kcast (h2 t1 t5 t20 t21 t22 w_ hJ0_ t1' t5' t6' t7' t8' t20' t21' t22' t27' t28' t29' w__ hJ2_) ?_, ?_⟩
      · kernel_rfl
      · exact (obl_seq rfl (obl_reg (obl_seq rfl (obl_cond (obl_skip (obl_exit (obl_seq rfl (obl_blk rfl (obl_seq rfl (obl_reg (obl_seq rfl (obl_reg (obl_seq rfl (obl_reg (obl_seq rfl (obl_reg (obl_seq rfl (obl_reg (obl_seq rfl (obl_reg (obl_reg (obl_reg trivial)))))))))))))))))))))))) (obl_reg (obl_reg trivial)))))))))))))))))))) (obl_seq rfl (obl_reg (obl_ret trivial)))))))))))

def mul_addAt_cut (J0 : Slc → Slc → Int → Int → Int → World → Prop) (m0 : Slc → Slc → Int → Int → Int → World → Nat) : Nat → Option ((Act → World → Prop) × (Act → World → Nat))
  | 0 => some (fun a_ w_ => atSz a_ 53 (atS a_ 0 fun t0_a => atS a_ 1 fun t1_b => atI .i64 a_ 2 fun t2_at => atI .u64 a_ 6 fun t6_carry => atI .i64 a_ 7 fun t7_i => J0 t0_a t1_b t2_at t6_carry t7_i w_), fun a_ w_ => mS a_ 0 fun t0_a => mS a_ 1 fun t1_b => mI a_ 2 fun t2_at => mI a_ 6 fun t6_carry => mI a_ 7 fun t7_i => m0 t0_a t1_b t2_at t6_carry t7_i w_)
  | _ => none

set_option maxRecDepth 100000 in
/-- surd/mul.addAt: function 84. -/
theorem mul_addAt_vc (a0_a : Slc) (a1_b : Slc) (a2_at : Int) (w : World) (R : Ending → World → Prop)
    (J0 : Slc → Slc → Int → Int → Int → World → Prop) (m0 : Slc → Slc → Int → Int → Int → World → Nat)
    (h : J0 a0_a a1_b a2_at 0 a2_at w)
    (h0 : ∀ (t0_a : Slc) (t1_b : Slc) (t2_at : Int) (t6_carry : Int) (t7_i : Int) (w_ : World), J0 t0_a t1_b t2_at t6_carry t7_i w_ → 
    br (decide (t7_i < (t0_a.n : Int)))
    (br (decide ((IntKind.i64.wrap (t7_i - t2_at)) < (t1_b.n : Int)))
     (br (decide ((IntKind.i64.wrap (t7_i - t2_at)) < (t1_b.n : Int)))
      (semA Try.prog (Instr.indexAt 26 t1_b.v (Value.int .i64 (IntKind.i64.wrap (t7_i - t2_at)))) w_ fun ad1 w1 =>
       ldI .u64 ad1 w1 fun x1 =>
       semA Try.prog (Instr.indexAt 26 t0_a.v (Value.int .i64 t7_i)) w1 fun ad2 w2 =>
       ldI .u64 ad2 w2 fun x2 =>
       Sem.wp Try.prog (callFunc 64 #[Value.int .u64 x2, Value.int .u64 x1, Value.int .u64 t6_carry]) (fun n1 w3 =>
        ∃ x3 : Int, ∃ x4 : Int, n1 = .value (Value.tuple #[Value.int .u64 x3, Value.int .u64 x4]) ∧
        (semA Try.prog (Instr.indexAt 26 t0_a.v (Value.int .i64 t7_i)) w3 fun ad3 w4 =>
         stC ad3 (Value.int .u64 x3) w4 fun w5 =>
         J0 t0_a t1_b t2_at x4 (IntKind.i64.wrap (t7_i + 1)) w5 ∧
         m0 t0_a t1_b t2_at x4 (IntKind.i64.wrap (t7_i + 1)) w5 < m0 t0_a t1_b t2_at t6_carry t7_i w_)) (fun _ _ => False) w2)
      (semA Try.prog (Instr.indexAt 26 t0_a.v (Value.int .i64 t7_i)) w_ fun ad4 w6 =>
       ldI .u64 ad4 w6 fun x5 =>
       Sem.wp Try.prog (callFunc 64 #[Value.int .u64 x5, Value.int .u64 0, Value.int .u64 t6_carry]) (fun n2 w7 =>
        ∃ x6 : Int, ∃ x7 : Int, n2 = .value (Value.tuple #[Value.int .u64 x6, Value.int .u64 x7]) ∧
        (semA Try.prog (Instr.indexAt 26 t0_a.v (Value.int .i64 t7_i)) w7 fun ad5 w8 =>
         stC ad5 (Value.int .u64 x6) w8 fun w9 =>
         J0 t0_a t1_b t2_at x7 (IntKind.i64.wrap (t7_i + 1)) w9 ∧
         m0 t0_a t1_b t2_at x7 (IntKind.i64.wrap (t7_i + 1)) w9 < m0 t0_a t1_b t2_at t6_carry t7_i w_)) (fun _ _ => False) w6))
     (br (decide (t6_carry > 0))
      (br (decide ((IntKind.i64.wrap (t7_i - t2_at)) < (t1_b.n : Int)))
       (semA Try.prog (Instr.indexAt 26 t1_b.v (Value.int .i64 (IntKind.i64.wrap (t7_i - t2_at)))) w_ fun ad6 w10 =>
        ldI .u64 ad6 w10 fun x8 =>
        semA Try.prog (Instr.indexAt 26 t0_a.v (Value.int .i64 t7_i)) w10 fun ad7 w11 =>
        ldI .u64 ad7 w11 fun x9 =>
        Sem.wp Try.prog (callFunc 64 #[Value.int .u64 x9, Value.int .u64 x8, Value.int .u64 t6_carry]) (fun n3 w12 =>
         ∃ x10 : Int, ∃ x11 : Int, n3 = .value (Value.tuple #[Value.int .u64 x10, Value.int .u64 x11]) ∧
         (semA Try.prog (Instr.indexAt 26 t0_a.v (Value.int .i64 t7_i)) w12 fun ad8 w13 =>
          stC ad8 (Value.int .u64 x10) w13 fun w14 =>
          J0 t0_a t1_b t2_at x11 (IntKind.i64.wrap (t7_i + 1)) w14 ∧
          m0 t0_a t1_b t2_at x11 (IntKind.i64.wrap (t7_i + 1)) w14 < m0 t0_a t1_b t2_at t6_carry t7_i w_)) (fun _ _ => False) w11)
       (semA Try.prog (Instr.indexAt 26 t0_a.v (Value.int .i64 t7_i)) w_ fun ad9 w15 =>
        ldI .u64 ad9 w15 fun x12 =>
        Sem.wp Try.prog (callFunc 64 #[Value.int .u64 x12, Value.int .u64 0, Value.int .u64 t6_carry]) (fun n4 w16 =>
         ∃ x13 : Int, ∃ x14 : Int, n4 = .value (Value.tuple #[Value.int .u64 x13, Value.int .u64 x14]) ∧
         (semA Try.prog (Instr.indexAt 26 t0_a.v (Value.int .i64 t7_i)) w16 fun ad10 w17 =>
          stC ad10 (Value.int .u64 x13) w17 fun w18 =>
          J0 t0_a t1_b t2_at x14 (IntKind.i64.wrap (t7_i + 1)) w18 ∧
          m0 t0_a t1_b t2_at x14 (IntKind.i64.wrap (t7_i + 1)) w18 < m0 t0_a t1_b t2_at t6_carry t7_i w_)) (fun _ _ => False) w15))
      (R (.returned (Value.tuple #[])) w_)))
    (R (.returned (Value.tuple #[])) w_)) :
    Calls Try.prog 84 #[a0_a.v, a1_b.v, Value.int .i64 a2_at] w R := by
  refine calls_of_vc (mul_addAt_cut J0 m0) (by kernel_rfl) Try.func84 rfl ?_ ?_
  · refine kcast h ?_; kernel_rfl
  · exact (obl_seq rfl (obl_reg (obl_seq rfl (obl_reg (obl_loop _ rfl (fun a_ w_ hL_ => (by
    obtain ⟨hz_, hd_, hL_⟩ := atSz_out hL_
    obtain ⟨t0_a, h0_, hL_⟩ := atS_out hL_
    obtain ⟨t1_b, h1_, hL_⟩ := atS_out hL_
    obtain ⟨t2_at, h2_, hL_⟩ := atI_out hL_
    obtain ⟨t6_carry, h6_, hL_⟩ := atI_out hL_
    obtain ⟨t7_i, h7_, hL_⟩ := atI_out hL_
    obtain ⟨g0, rfl⟩ : ∃ g, a_ = Fr 53 [(0, t0_a.v), (1, t1_b.v), (2, Value.int .i64 t2_at), (6, Value.int .u64 t6_carry), (7, Value.int .i64 t7_i)] g := ⟨_, fr_of hz_ hd_ [(0, t0_a.v), (1, t1_b.v), (2, Value.int .i64 t2_at), (6, Value.int .u64 t6_carry), (7, Value.int .i64 t7_i)] (sel_cons h0_ (sel_cons h1_ (sel_cons h2_ (sel_cons h6_ (sel_cons h7_ sel_nil)))))⟩
    clear hz_ hd_ h0_ h1_ h2_ h6_ h7_
    have hJ0_ := hL_
    refine ⟨(fun _ => none), kcast (h0 t0_a t1_b t2_at t6_carry t7_i w_ hJ0_) ?_, ?_⟩
    · kernel_rfl
    · exact (obl_seq rfl (obl_seq rfl (obl_reg (obl_cond (obl_skip (obl_exit (obl_seq rfl (obl_blk rfl (obl_seq rfl (obl_reg (obl_seq rfl (obl_seq rfl (obl_reg (obl_cond (obl_reg (obl_skip (obl_reg (obl_reg trivial)))))))))))))))))))) trivial)))))

def mul_part_cut (J0 : Slc → Int → Int → World → Prop) (m0 : Slc → Int → Int → World → Nat) : Nat → Option ((Act → World → Prop) × (Act → World → Nat))
  | 0 => some (fun a_ w_ => atSz a_ 32 (atS a_ 0 fun t0_a => atI .i64 a_ 1 fun t1_from => atI .i64 a_ 2 fun t2_to => J0 t0_a t1_from t2_to w_), fun a_ w_ => mS a_ 0 fun t0_a => mI a_ 1 fun t1_from => mI a_ 2 fun t2_to => m0 t0_a t1_from t2_to w_)
  | _ => none

set_option maxRecDepth 100000 in
/-- surd/mul.part: function 85. -/
theorem mul_part_vc (a0_a : Slc) (a1_from : Int) (a2_to : Int) (w : World) (R : Ending → World → Prop)
    (J0 : Slc → Int → Int → World → Prop) (m0 : Slc → Int → Int → World → Nat)
    (h : J0 a0_a (minI a1_from (a0_a.n : Int)) (minI a2_to (a0_a.n : Int)) w)
    (h0 : ∀ (t0_a : Slc) (t1_from : Int) (t2_to : Int) (w_ : World), J0 t0_a t1_from t2_to w_ → 
    br (decide (t2_to > t1_from))
    (semA Try.prog (Instr.indexAt 26 t0_a.v (Value.int .i64 (IntKind.i64.wrap (t2_to - 1)))) w_ fun ad1 w1 =>
     ldI .u64 ad1 w1 fun x1 =>
     br (x1 == 0)
     (J0 t0_a t1_from (IntKind.i64.wrap (t2_to - 1)) w1 ∧
      m0 t0_a t1_from (IntKind.i64.wrap (t2_to - 1)) w1 < m0 t0_a t1_from t2_to w_)
     (semS Try.prog (Instr.sliceAt 26 t0_a.v (some (Value.int .i64 t1_from)) (some (Value.int .i64 t2_to)) none) w1 fun s1 w2 =>
      R (.returned s1.v) w2))
    (semS Try.prog (Instr.sliceAt 26 t0_a.v (some (Value.int .i64 t1_from)) (some (Value.int .i64 t2_to)) none) w_ fun s2 w3 =>
     R (.returned s2.v) w3)) :
    Calls Try.prog 85 #[a0_a.v, Value.int .i64 a1_from, Value.int .i64 a2_to] w R := by
  refine calls_of_vc (mul_part_cut J0 m0) (by kernel_rfl) Try.func85 rfl ?_ ?_
  · refine kcast h ?_; kernel_rfl
  · exact (obl_seq rfl (obl_reg (obl_seq rfl (obl_reg (obl_seq rfl (obl_loop _ rfl (fun a_ w_ hL_ => (by
    obtain ⟨hz_, hd_, hL_⟩ := atSz_out hL_
    obtain ⟨t0_a, h0_, hL_⟩ := atS_out hL_
    obtain ⟨t1_from, h1_, hL_⟩ := atI_out hL_
    obtain ⟨t2_to, h2_, hL_⟩ := atI_out hL_
    obtain ⟨g0, rfl⟩ : ∃ g, a_ = Fr 32 [(0, t0_a.v), (1, Value.int .i64 t1_from), (2, Value.int .i64 t2_to)] g := ⟨_, fr_of hz_ hd_ [(0, t0_a.v), (1, Value.int .i64 t1_from), (2, Value.int .i64 t2_to)] (sel_cons h0_ (sel_cons h1_ (sel_cons h2_ sel_nil)))⟩
    clear hz_ hd_ h0_ h1_ h2_
    have hJ0_ := hL_
    refine ⟨(fun _ => none), kcast (h0 t0_a t1_from t2_to w_ hJ0_) ?_, ?_⟩
    · kernel_rfl
    · exact (obl_seq rfl (obl_seq rfl (obl_reg (obl_cond (obl_skip (obl_exit (obl_blk rfl (obl_reg trivial)))))))))) (obl_seq rfl (obl_reg (obl_ret trivial)))))))))

def mul_less_cut (J0 : Slc → Slc → Int → Int → Int → World → Prop) (m0 : Slc → Slc → Int → Int → Int → World → Nat) : Nat → Option ((Act → World → Prop) × (Act → World → Nat))
  | 0 => some (fun a_ w_ => atSz a_ 43 (atS a_ 1 fun t1_b => atS a_ 5 fun t5_out => atI .u64 a_ 6 fun t6_borrow => atI .i64 a_ 16 fun t16 => atI .i64 a_ 17 fun t17 => J0 t1_b t5_out t6_borrow t16 t17 w_), fun a_ w_ => mS a_ 1 fun t1_b => mS a_ 5 fun t5_out => mI a_ 6 fun t6_borrow => mI a_ 16 fun t16 => mI a_ 17 fun t17 => m0 t1_b t5_out t6_borrow t16 t17 w_)
  | _ => none

set_option maxRecDepth 100000 in
/-- surd/mul.less: function 86. -/
theorem mul_less_vc (a0_a : Slc) (a1_b : Slc) (w : World) (R : Ending → World → Prop)
    (J0 : Slc → Slc → Int → Int → Int → World → Prop) (m0 : Slc → Slc → Int → Int → Int → World → Nat)
    (h : semS Try.prog (Instr.makeSlice 26 (Value.int .i64 (a0_a.n : Int)) (Value.int .i64 (a0_a.n : Int))) w fun s1 w1 =>
    semI Try.prog .i64 (Builtin.copy_ #[26, 26] 3 #[s1.v, a0_a.v]) w1 fun x1 w2 =>
    J0 a1_b s1 0 (s1.n : Int) 0 w2)
    (h0 : ∀ (t1_b : Slc) (t5_out : Slc) (t6_borrow : Int) (t16 : Int) (t17 : Int) (w_ : World), J0 t1_b t5_out t6_borrow t16 t17 w_ → 
    br (decide (t17 < t16))
    (br (decide (t17 < (t1_b.n : Int)))
     (semA Try.prog (Instr.indexAt 26 t1_b.v (Value.int .i64 t17)) w_ fun ad1 w3 =>
      ldI .u64 ad1 w3 fun x2 =>
      semA Try.prog (Instr.indexAt 26 t5_out.v (Value.int .i64 t17)) w3 fun ad2 w4 =>
      ldI .u64 ad2 w4 fun x3 =>
      Sem.wp Try.prog (callFunc 89 #[Value.int .u64 x3, Value.int .u64 x2, Value.int .u64 t6_borrow]) (fun n1 w5 =>
       ∃ x4 : Int, ∃ x5 : Int, n1 = .value (Value.tuple #[Value.int .u64 x4, Value.int .u64 x5]) ∧
       (semA Try.prog (Instr.indexAt 26 t5_out.v (Value.int .i64 t17)) w5 fun ad3 w6 =>
        stC ad3 (Value.int .u64 x4) w6 fun w7 =>
        J0 t1_b t5_out x5 t16 (IntKind.i64.wrap (t17 + 1)) w7 ∧
        m0 t1_b t5_out x5 t16 (IntKind.i64.wrap (t17 + 1)) w7 < m0 t1_b t5_out t6_borrow t16 t17 w_)) (fun _ _ => False) w4)
     (semA Try.prog (Instr.indexAt 26 t5_out.v (Value.int .i64 t17)) w_ fun ad4 w8 =>
      ldI .u64 ad4 w8 fun x6 =>
      Sem.wp Try.prog (callFunc 89 #[Value.int .u64 x6, Value.int .u64 0, Value.int .u64 t6_borrow]) (fun n2 w9 =>
       ∃ x7 : Int, ∃ x8 : Int, n2 = .value (Value.tuple #[Value.int .u64 x7, Value.int .u64 x8]) ∧
       (semA Try.prog (Instr.indexAt 26 t5_out.v (Value.int .i64 t17)) w9 fun ad5 w10 =>
        stC ad5 (Value.int .u64 x7) w10 fun w11 =>
        J0 t1_b t5_out x8 t16 (IntKind.i64.wrap (t17 + 1)) w11 ∧
        m0 t1_b t5_out x8 t16 (IntKind.i64.wrap (t17 + 1)) w11 < m0 t1_b t5_out t6_borrow t16 t17 w_)) (fun _ _ => False) w8))
    (R (.returned t5_out.v) w_)) :
    Calls Try.prog 86 #[a0_a.v, a1_b.v] w R := by
  refine calls_of_vc (mul_less_cut J0 m0) (by kernel_rfl) Try.func86 rfl ?_ ?_
  · refine kcast h ?_; kernel_rfl
  · exact (obl_seq rfl (obl_reg (obl_seq rfl (obl_reg (obl_seq rfl (obl_reg (obl_seq rfl (obl_reg (obl_seq rfl (obl_seq rfl (obl_reg (obl_loop _ rfl (fun a_ w_ hL_ => (by
    obtain ⟨hz_, hd_, hL_⟩ := atSz_out hL_
    obtain ⟨t1_b, h1_, hL_⟩ := atS_out hL_
    obtain ⟨t5_out, h5_, hL_⟩ := atS_out hL_
    obtain ⟨t6_borrow, h6_, hL_⟩ := atI_out hL_
    obtain ⟨t16, h16_, hL_⟩ := atI_out hL_
    obtain ⟨t17, h17_, hL_⟩ := atI_out hL_
    obtain ⟨g0, rfl⟩ : ∃ g, a_ = Fr 43 [(1, t1_b.v), (5, t5_out.v), (6, Value.int .u64 t6_borrow), (16, Value.int .i64 t16), (17, Value.int .i64 t17)] g := ⟨_, fr_of hz_ hd_ [(1, t1_b.v), (5, t5_out.v), (6, Value.int .u64 t6_borrow), (16, Value.int .i64 t16), (17, Value.int .i64 t17)] (sel_cons h1_ (sel_cons h5_ (sel_cons h6_ (sel_cons h16_ (sel_cons h17_ sel_nil)))))⟩
    clear hz_ hd_ h1_ h5_ h6_ h16_ h17_
    have hJ0_ := hL_
    refine ⟨(fun _ => none), kcast (h0 t1_b t5_out t6_borrow t16 t17 w_ hJ0_) ?_, ?_⟩
    · kernel_rfl
    · exact (obl_seq rfl (obl_reg (obl_seq rfl (obl_cond (obl_skip (obl_exit (obl_seq rfl (obl_blk rfl (obl_seq rfl (obl_reg (obl_seq rfl (obl_reg (obl_seq rfl (obl_seq rfl (obl_reg (obl_cond (obl_reg (obl_skip (obl_reg (obl_reg trivial)))))))))))))))))))))) (obl_seq rfl (obl_reg (obl_ret trivial)))))))))))))))

set_option maxRecDepth 100000 in
/-- surd/mul.sum: function 87. -/
theorem mul_sum_vc (a0_a : Slc) (a1_b : Slc) (w : World) (R : Ending → World → Prop)
    
    (h : semS Try.prog (Instr.makeSlice 26 (Value.int .i64 (IntKind.i64.wrap ((maxI (a0_a.n : Int) (a1_b.n : Int)) + 1))) (Value.int .i64 (IntKind.i64.wrap ((maxI (a0_a.n : Int) (a1_b.n : Int)) + 1)))) w fun s1 w1 =>
    semI Try.prog .i64 (Builtin.copy_ #[26, 26] 3 #[s1.v, a0_a.v]) w1 fun x1 w2 =>
    Calls Try.prog 84 #[s1.v, a1_b.v, Value.int .i64 0] w2 fun e1 w3 =>
    e1 = .returned (Value.tuple #[]) ∧
    (R (.returned s1.v) w3)) :
    Calls Try.prog 87 #[a0_a.v, a1_b.v] w R := by
  refine calls_of_vc (fun _ => none) (by kernel_rfl) Try.func87 rfl ?_ ?_
  · refine kcast h ?_; kernel_rfl
  · exact (obl_seq rfl (obl_reg (obl_seq rfl (obl_reg (obl_seq rfl (obl_reg (obl_seq rfl (obl_reg (obl_seq rfl (obl_reg (obl_ret trivial)))))))))))

set_option maxRecDepth 100000 in
/-- surd/mul.Square: function 77. -/
theorem mul_Square_vc (a0_a : Slc) (w : World) (R : Ending → World → Prop)
    
    (h : Calls Try.prog 75 #[a0_a.v, a0_a.v] w fun e1 w1 =>
    ∃ s1 : Slc, ∃ x1 : Int, e1 = .returned (Value.tuple #[s1.v, Value.int .i64 x1]) ∧
    (R (.returned (Value.tuple #[s1.v, Value.int .i64 x1])) w1)) :
    Calls Try.prog 77 #[a0_a.v] w R := by
  refine calls_of_vc (fun _ => none) (by kernel_rfl) Try.func77 rfl ?_ ?_
  · refine kcast h ?_; kernel_rfl
  · exact (obl_seq rfl (obl_reg (obl_seq rfl (obl_reg (obl_ret trivial)))))

end Go.Proofs.Ytflipimlpgbnmaa
namespace Go.Proofs.Ytflipimlpgbnmaa
open Go Go.RowKit Eng Sp Dg
set_option linter.unusedVariables false
set_option linter.unusedSimpArgs false
set_option maxRecDepth 100000
namespace Mul
open _root_.Go.Proofs.Ytflipimlpgbnmaa.Nat (ldN ldNf stN mkN Fill mkF stF stFf Num OwnNil add64 sub64)

/-- No block but k has changed. -/
def Only (k : Nat) (w w' : World) : Prop := w'.os = w.os ∧ w'.tape = w.tape ∧ w'.output = w.output ∧ w'.heap.size = w.heap.size ∧ ∀ j, j ≠ k → w'.heap[j]? = w.heap[j]?
theorem Only.refl (k : Nat) (w : World) : Only k w w := ⟨rfl, rfl, rfl, rfl, fun _ _ => rfl⟩
theorem Only.trans {k : Nat} {a b c : World} (h : Only k a b) (h' : Only k b c) : Only k a c :=
  ⟨h'.1.trans h.1, h'.2.1.trans h.2.1, h'.2.2.1.trans h.2.2.1, h'.2.2.2.1.trans h.2.2.2.1, fun j hj => (h'.2.2.2.2 j hj).trans (h.2.2.2.2 j hj)⟩
theorem Only.setCell (k i : Nat) (w : World) (v : Value) : Only k w (w.setCell ⟨k, i, none⟩ v) :=
  ⟨rfl, rfl, rfl, by simp [World.setCell], fun j hj => Below.heap_setCell _ _ _ _ (by simpa using hj)⟩
theorem Only.setRow (k : Nat) (w : World) (c : Array Value) : Only k w (w.setRow k c) :=
  ⟨rfl, rfl, rfl, by simp [World.setRow], fun j hj => setRow_other w k j _ hj⟩
theorem Only.ahead {k : Nat} {w0 w w' : World} (h : Only k w w') (ha : Ahead w0 w) (hk : w0.heap.size ≤ k) : Ahead w0 w' :=
  Below.trans ha ⟨h.1, h.2.1, h.2.2.1, by rw [h.2.2.2.1]; exact Nat.le_refl _, fun j hj => h.2.2.2.2 j (by omega)⟩
/-- The slice's cells lie outside the block. -/
def Off (k : Nat) (s : Slc) : Prop := ∀ ad, s.A = some ad → 0 < s.n → ad.block ≠ k
theorem add_block (a : Addr) (i : Nat) : (a.add i).block = a.block := by unfold Addr.add; split <;> rfl
theorem Only.rd {k : Nat} {w w' : World} (h : Only k w w') {s : Slc} {l : List Int} {kd : IntKind} (hr : Rd kd w s l) (ho : Off k s) : Rd kd w' s l :=
  ⟨hr.n, hr.c, fun i hi => by
    obtain ⟨ad, e, hc⟩ := hr.get i hi
    refine ⟨ad, e, ?_⟩
    rw [World.cell?_of_block (w := w)]
    · exact hc
    · rw [add_block]; exact h.2.2.2.2 _ (ho ad e (by rw [hr.n]; omega))⟩
theorem Only.own {k : Nat} {w w' : World} (h : Only k w w') {s : Slc} {l : List Int} {kd : IntKind} {t : TypeId} {b : Nat} (hr : Owr kd t w s l b) (ho : b ≠ k) : Owr kd t w' s l b := by
  obtain ⟨sp, hc, hm⟩ := hr.mem
  exact ⟨hr.hd, sp, hc, by rw [h.2.2.2.2 b ho]; exact hm⟩
theorem Only.ownNil {k base : Nat} {w w' : World} (h : Only k w w') {s : Slc} {l : List Nat} (hr : OwnNil base w s l) (ho : k < base) : OwnNil base w' s l := by
  rcases hr with h1 | ⟨b, h1, h2, h3⟩
  · exact .inl h1
  · exact .inr ⟨b, h1, h2, h.own h3 (by omega)⟩
theorem off_new {k base : Nat} {w : World} {s : Slc} {l : List Nat} (hr : OwnNil base w s l) (ho : k < base) : Off k s := by
  intro ad e _
  rcases hr with ⟨rfl, _⟩ | ⟨b, h1, _, h3⟩
  · cases e
  · have := Option.some.inj (h3.A.symm.trans e)
    rw [← this]; simp only; omega

theorem stO {t : TypeId} {w : World} {s : Slc} {l : List Nat} {b : Nat} (h : Owr .u64 tU64 w s (nn l) b) {i : Int} (h0 : 0 ≤ i) (h1 : i < l.length) {x : Nat} {K : World → Prop}
    (hk : ∀ w', Owr .u64 tU64 w' s (nn (l.set i.toNat x)) b → Only b w w' → K w')
    (hT : isSl pr t .u64 = some tU64 := by kernel_rfl) : semA pr (Instr.indexAt t s.v (.int .i64 i)) w fun ad w1 => stC ad (.int .u64 (x : Int)) w1 fun w2 => K w2 := by
  have hi : i.toNat < (nn l).length := by rw [nn_length]; omega
  unfold semA
  rw [Sem.wp_iff_run, run_indexAt hT w s i _ h.A h0 (by rw [h.n, nn_length]; exact h1)]
  refine ⟨_, rfl, ?_⟩
  rw [add_off]
  have := h.set hi (x : Int)
  rw [nn_set] at this
  exact ⟨⟨_, h.cell hi⟩, h.frozen _, hk _ this (Only.setCell b _ w _)⟩

/-- What is read at a place: an addition with a carry stays within the limbs. -/
theorem addAt_spec {w : World} {c b : Slc} {l m : List Nat} {k at_ : Nat} (hc : Owr .u64 tU64 w c (nn l) k) (hb : Rd .u64 w b (nn m)) (ho : Off k b) (ol : ok B64 l) (om : ok B64 m) (ll : l.length ≤ 2 ^ 46) (lm : m.length ≤ 2 ^ 46)
    (hat : at_ ≤ l.length) (hfit : val B64 l + val B64 m * B64 ^ at_ < B64 ^ l.length) :
    Calls pr mul_addAt_id #[c.v, b.v, .int .i64 (at_ : Int)] w fun e w' => e = .returned (.tuple #[]) ∧ Only k w w' ∧ ∃ l', Owr .u64 tU64 w' c (nn l') k ∧ l'.length = l.length ∧ ok B64 l' ∧ val B64 l' = val B64 l + val B64 m * B64 ^ at_ := by
  have hB := B64v
  have hcn : c.n = l.length := by rw [hc.n, nn_length]
  have hbn : b.n = m.length := by rw [hb.n, nn_length]
  refine mul_addAt_vc c b at_ w _ (fun t0 t1 t2 t6 t7 w' => t0 = c ∧ t1 = b ∧ t2 = (at_ : Int) ∧ ∃ (j cr : Nat) (l' : List Nat), t7 = ((at_ + j : Nat) : Int) ∧ at_ + j ≤ l.length ∧ t6 = (cr : Int) ∧ cr ≤ 1 ∧ Only k w w' ∧ Owr .u64 tU64 w' c (nn l') k ∧ l'.length = l.length ∧ ok B64 l' ∧
    val B64 l' + cr * B64 ^ (at_ + j) = val B64 l + val B64 (m.take j) * B64 ^ at_) (fun t0 _ _ _ i _ => ((t0.n : Int) - i).toNat)
    ⟨rfl, rfl, rfl, 0, 0, l, rfl, hat, rfl, by omega, Only.refl _ _, hc, rfl, ol, by simp [val]⟩ ?_
  rintro t0 t1 t2 t6 t7 w1 ⟨rfl, rfl, rfl, j, cr, l', rfl, hj, rfl, hcr, hon, hc1, hl', ol', hv⟩
  have hb1 := hon.rd hb ho
  have ei : IntKind.i64.wrap (((at_ + j : Nat) : Int) - (at_ : Int)) = (j : Int) := by rw [wrap_i64 (by omega) (by omega)]; omega
  have e8 : IntKind.i64.wrap (((at_ + j : Nat) : Int) + 1) = ((at_ + (j + 1) : Nat) : Int) := by rw [wrap_i64 (by omega) (by omega)]; omega
  rw [ei, e8]
  -- a round
  have round : ∀ y : Nat, y < B64 → y = m.getD j 0 → at_ + j < l.length → ∀ w2, w2 = w1 → semA pr (Instr.indexAt 26 t0.v (.int .i64 ((at_ + j : Nat) : Int))) w2 fun ad2 w2 => ldI .u64 ad2 w2 fun x2 =>
      Sem.wp pr (callFunc bits_Add64_id #[.int .u64 x2, .int .u64 (y : Int), .int .u64 (cr : Int)]) (fun n1 w3 => ∃ x3 : Int, ∃ x4 : Int, n1 = .value (.tuple #[.int .u64 x3, .int .u64 x4]) ∧
        (semA pr (Instr.indexAt 26 t0.v (.int .i64 ((at_ + j : Nat) : Int))) w3 fun ad3 w4 => stC ad3 (.int .u64 x3) w4 fun w5 =>
          (t0 = t0 ∧ t1 = t1 ∧ (at_ : Int) = (at_ : Int) ∧ ∃ (j' cr : Nat) (l' : List Nat), ((at_ + (j + 1) : Nat) : Int) = ((at_ + j' : Nat) : Int) ∧ at_ + j' ≤ l.length ∧ x4 = (cr : Int) ∧ cr ≤ 1 ∧ Only k w w5 ∧ Owr .u64 tU64 w5 t0 (nn l') k ∧ l'.length = l.length ∧ ok B64 l' ∧
    val B64 l' + cr * B64 ^ (at_ + j') = val B64 l + val B64 (m.take j') * B64 ^ at_) ∧ ((t0.n : Int) - ((at_ + (j + 1) : Nat) : Int)).toNat < ((t0.n : Int) - ((at_ + j : Nat) : Int)).toNat)) (fun _ _ => False) w2 := by
    rintro y hy hym hlt w2 rfl
    refine ldN hc1.rd (by omega) (by omega) ?_
    rw [Int.toNat_natCast]
    have hx := ok_getD ol' (by omega : 0 < B64) (at_ + j)
    refine add64 hcr ?_
    refine stO hc1 (by omega) (by omega) ?_
    intro w5 ho5 hon5
    rw [Int.toNat_natCast] at ho5
    have hq1 : (l'.getD (at_ + j) 0 + y + cr) / B64 ≤ 1 := by
      have : l'.getD (at_ + j) 0 + y + cr < 2 * B64 := by omega
      have := (Nat.div_lt_iff_lt_mul (by omega : 0 < B64)).2 this
      omega
    refine ⟨⟨rfl, rfl, rfl, j + 1, _, _, rfl, by omega, rfl, hq1, hon.trans hon5, ho5, by simpa using hl', ok_set ol' (Nat.mod_lt _ (by omega)), ?_⟩, by omega⟩
    have vs := val_set (B := B64) l' (at_ + j) ((l'.getD (at_ + j) 0 + y + cr) % B64) (by omega)
    have dm := Nat.mod_add_div (l'.getD (at_ + j) 0 + y + cr) B64
    rw [val_take_succ', ← hym, Nat.add_mul, show at_ + (j + 1) = at_ + j + 1 by omega, Nat.pow_succ, show B64 ^ j * y * B64 ^ at_ = B64 ^ (at_ + j) * y by rw [Nat.pow_add]; ac_rfl]
    generalize (l'.getD (at_ + j) 0 + y + cr) % B64 = s at *
    generalize (l'.getD (at_ + j) 0 + y + cr) / B64 = q at *
    generalize l'.getD (at_ + j) 0 = x at *
    generalize B64 ^ (at_ + j) = P at *
    have e : P * s + q * (P * B64) = P * x + P * y + cr * P := by
      have : P * (s + B64 * q) = P * (x + y + cr) := by rw [dm]
      rw [Nat.mul_add, Nat.mul_add, Nat.mul_add] at this
      rw [Nat.mul_comm cr P, ← this]
      ac_rfl
    omega
  -- at the end nothing is left
  have fin : (¬ (at_ + j < l.length)) ∨ (m.length ≤ j ∧ cr = 0) → (Ending.returned (Value.tuple #[]) = .returned (.tuple #[]) ∧ Only k w w1 ∧ ∃ l'', Owr .u64 tU64 w1 t0 (nn l'') k ∧ l''.length = l.length ∧ ok B64 l'' ∧ val B64 l'' = val B64 l + val B64 m * B64 ^ at_) := by
    intro h
    refine ⟨rfl, hon, l', hc1, hl', ol', ?_⟩
    have hle : val B64 (m.take j) ≤ val B64 m := by rw [val_take_drop m (min j m.length) (Nat.min_le_right _ _)]; rw [show m.take (min j m.length) = m.take j by rw [Nat.min_def]; split; rfl; rw [List.take_of_length_le (Nat.le_refl _), List.take_of_length_le (by omega)]]; omega
    rcases h with h | ⟨h, rfl⟩
    · have he : at_ + j = l.length := by omega
      rw [he] at hv
      have h2 : val B64 (m.take j) * B64 ^ at_ ≤ val B64 m * B64 ^ at_ := Nat.mul_le_mul_right _ hle
      have h3 : cr = 0 := by
        rcases Nat.lt_or_ge cr 1 with h4 | h4
        · omega
        · have : cr = 1 := by omega
          subst this
          omega
      subst h3
      have h5 : val B64 m = val B64 (m.take j) := by
        rcases Nat.lt_or_ge j m.length with hjm | hjm
        · -- the limbs behind j are worth at least B^(at+j)
          rw [val_take_drop m j (by omega)] at hfit ⊢
          rcases Nat.eq_zero_or_pos (val B64 (m.drop j)) with hz | hp
          · rw [hz]; simp
          · exfalso
            have : B64 ^ l.length ≤ B64 ^ j * val B64 (m.drop j) * B64 ^ at_ := by
              rw [← he, Nat.pow_add, Nat.mul_comm (B64 ^ at_)]
              exact Nat.mul_le_mul_right _ (Nat.le_mul_of_pos_right _ hp)
            rw [Nat.add_mul] at hfit
            omega
        · rw [List.take_of_length_le hjm]
      rw [h5]; omega
    · rw [List.take_of_length_le h] at hv
      omega
  refine br_intro (fun hlt => ?_) (fun hge => ?_)
  · have hlt' : at_ + j < l.length := by simp at hlt; omega
    refine br_intro (fun hin => ?_) (fun hin => ?_)
    · have hin' : j < m.length := by simp at hin; omega
      refine br_true hin ?_
      refine ldN hb1 (by omega) (by omega) ?_
      rw [Int.toNat_natCast]
      exact round _ (ok_getD om (by omega) j) rfl hlt' _ rfl
    · have hin' : m.length ≤ j := by simp at hin; omega
      refine br_intro (fun hp => ?_) (fun hp => ?_)
      · exact br_false hin (round 0 (by omega) (getD_ge _ _ hin').symm hlt' _ rfl)
      · exact fin (.inr ⟨hin', by simp at hp; omega⟩)
  · exact fin (.inl (by simp at hge; omega))

end Mul
end Go.Proofs.Ytflipimlpgbnmaa
namespace Go.Proofs.Ytflipimlpgbnmaa
open Go Go.RowKit Eng Sp Dg
set_option linter.unusedVariables false
set_option linter.unusedSimpArgs false
set_option maxRecDepth 100000
namespace Mul
open _root_.Go.Proofs.Ytflipimlpgbnmaa.Nat (ldN ldNf stN mkN Fill mkF stF stFf Num OwnNil add64 sub64)

theorem rd_off {w : World} {s : Slc} {l : List Int} {kd : IntKind} (hr : Rd kd w s l) {k : Nat} (hk : w.heap.size ≤ k) : Off k s := by
  intro ad e hp
  obtain ⟨ad', e', hc⟩ := hr.get 0 (by have := hr.n; omega)
  rw [e] at e'
  obtain rfl := Option.some.inj e'
  intro hb
  have hnone : w.heap[k]? = none := by simp [hk]
  have : (ad.add 0).block = k := by rw [add_block]; exact hb
  simp [World.cell?, this, hnone] at hc

/-- copy, onto a row of the call's own, of what is no longer. -/
theorem cpO {t : TypeId} {w : World} {s x : Slc} {l ys : List Nat} {b : Nat} {ty : TypeId} (h : Owr .u64 tU64 w s (nn l) b) (hx : Rd .u64 w x (nn ys)) (hle : ys.length ≤ l.length) {K : Int → World → Prop}
    (hk : ∀ n w', Owr .u64 tU64 w' s (nn (ys ++ l.drop ys.length)) b → Only b w w' → K n w')
    (hT : isSl pr t .u64 = some tU64 := by kernel_rfl) : semI pr .i64 (Builtin.copy_ #[t, t] ty #[s.v, x.v]) w K := by
  obtain ⟨hu, he, inf, hi, hs1, hb8, hz⟩ := isSl_out hT
  obtain ⟨sp, hc, hh⟩ := h.mem
  have hsv : s.v = .slice (some ⟨b, 0, none⟩) l.length s.c := by rw [Slc.v, h.A, h.n, nn_length]
  have hxn : x.n = ys.length := by rw [hx.n, nn_length]
  unfold semI
  rw [Sem.wp_iff_run, hsv]
  obtain ⟨A, n, c⟩ := x
  simp only at hxn
  subst hxn
  cases A with
  | none =>
    have hnil : ys = [] := by
      cases ys with
      | nil => rfl
      | cons y ys =>
        obtain ⟨ad, e, _⟩ := hx.get 0 (by simp)
        cases e
    subst hnil
    have hr : (Builtin.copy_ #[t, t] ty #[.slice (some ⟨b, 0, none⟩) l.length s.c, Slc.v ⟨none, 0, c⟩]).run pr w = .ok (goInt 0) w := by
      simp [Builtin.copy_, Slc.v, run_underlying hu, Builtin.lenOf, Builtin.firstCells, sizeOf, typeInfo, hi, storeCells]
    simp only [List.length_nil]
    rw [hr]
    exact ⟨_, rfl, hk _ _ (by simpa using h) (Only.refl _ _)⟩
  | some ad =>
    have hr := run_copy_row (P := pr) w t t ty tU64 b 0 l.length s.c ad ys.length c (ints .u64 (nn l) ++ sp).toArray tU64 (ints .u64 (nn ys)) hu (by rw [hi]; simp [hs1]) hh (by simp [ints, Nat.min_eq_left hle])
      (fun j v hj => by
        have hj' : j < (nn ys).length := by
          have := (List.getElem?_eq_some_iff.1 hj).1
          simpa [ints] using this
        obtain ⟨ad', e', hcc⟩ := hx.get j hj'
        obtain rfl := Option.some.inj e'
        rw [ints_get hj'] at hj
        obtain rfl := Option.some.inj hj
        exact hcc) (by simp [ints]; omega) (by simp [ints, Value.oneCell'])
    have hxv : Slc.v ⟨some ad, ys.length, c⟩ = .slice (some ad) ys.length c := rfl
    rw [hxv, hr]
    refine ⟨_, rfl, hk _ _ ⟨?_, sp, ?_, ?_⟩ (Only.setRow _ _ _)⟩
    · rw [h.hd]; simp; omega
    · rw [hc]; simp; omega
    · rw [setRow_heap w b _ _ tU64 (0, 0) hh]
      congr 2
      simp [ints, nn, List.drop_append, show ys.length - l.length = 0 by omega]

theorem part_spec {w : World} {a : Slc} {l : List Nat} (h : Rd .u64 w a (nn l)) (ol : ok B64 l) (ll : l.length ≤ 2 ^ 46) {f t : Int} (hf : 0 ≤ f) (h0 : min f.toNat l.length ≤ min t.toNat l.length) (ht : 0 ≤ t) :
    Calls pr mul_part_id #[a.v, .int .i64 f, .int .i64 t] w fun e w' => w' = w ∧ ∃ s, e = .returned (Slc.v s) ∧
      Rd .u64 w s (nn (digs B64 (val B64 ((l.drop (min f.toNat l.length)).take (min t.toNat l.length - min f.toNat l.length))))) := by
  have hn : a.n = l.length := by rw [h.n, nn_length]
  have hc := h.c
  generalize hF : min f.toNat l.length = F at *
  generalize hT : min t.toNat l.length = T at *
  have hTl : T ≤ l.length := by omega
  have eF : minI f (a.n : Int) = (F : Int) := by unfold minI; split <;> omega
  have eT : minI t (a.n : Int) = (T : Int) := by unfold minI; split <;> omega
  refine mul_part_vc a f t w _ (fun t0 t1 t2 w' => t0 = a ∧ w' = w ∧ t1 = (F : Int) ∧ ∃ j : Nat, t2 = (j : Int) ∧ F ≤ j ∧ j ≤ T ∧ ∀ i, j ≤ i → i < T → l.getD i 0 = 0) (fun _ _ t2 _ => t2.toNat)
    ⟨rfl, rfl, eF, T, eT, h0, Nat.le_refl _, fun i h1 h2 => by omega⟩ ?_
  rintro t0 t1 t2 w1 ⟨rfl, rfl, rfl, j, rfl, hj1, hj2, hz⟩
  have fin : (j = F ∨ l.getD (j - 1) 0 ≠ 0) → semS pr (Instr.sliceAt 26 t0.v (some (.int .i64 (F : Int))) (some (.int .i64 (j : Int))) none) w1 fun s1 w2 =>
      w2 = w1 ∧ ∃ s, Ending.returned s1.v = .returned (Slc.v s) ∧ Rd .u64 w1 s (nn (digs B64 (val B64 ((l.drop F).take (T - F))))) := by
    intro hlast
    have e := run_slice_both (t := 26) (e := tU64) (k := .u64) (P := pr) (by kernel_rfl) w1 t0 (l := (F : Int)) (h := (j : Int)) (by omega) (by omega) (by omega)
    unfold semS
    rw [Sem.wp_iff_run, e]
    refine ⟨_, rfl, rfl, _, rfl, ?_⟩
    have hd : digs B64 (val B64 ((l.drop F).take (T - F))) = ((l.drop F).take (T - F)).take (j - F) := by
      refine digs_take two64 (ok_take (ok_drop ol F) _) (by simp; omega) (fun i h1 h2 => ?_) ?_
      · have h3 : i < T - F := by simp at h2; omega
        rw [getD_take _ h3, getD_drop]
        exact hz (F + i) (by omega) (by omega)
      · rcases hlast with h1 | h1
        · left; omega
        · by_cases hjF : j = F
          · left; omega
          · right
            rw [getD_take _ (by omega), getD_drop, show F + (j - F - 1) = j - 1 by omega]
            exact h1
    rw [hd, List.take_take, Nat.min_eq_left (by omega), ← nn_take, ← nn_drop]
    have h2 := (Rd.drop h (m := F) (by rw [nn_length]; omega)).take (m := j - F) (c := t0.c - F) (by simp; omega) (by omega)
    simp only [Int.toNat_natCast]
    exact h2
  refine br_intro (fun hp => ?_) (fun hp => ?_)
  · have hp' : F < j := by simp at hp; omega
    rw [wrap_i64 (x := (j : Int) - 1) (by omega) (by omega)]
    refine ldN h (by omega) (by omega) ?_
    rw [show ((j : Int) - 1).toNat = j - 1 by omega]
    refine br_intro (fun hx => ?_) (fun hx => ?_)
    · refine ⟨⟨rfl, rfl, rfl, j - 1, by omega, by omega, by omega, fun i h1 h2 => ?_⟩, by omega⟩
      by_cases hi : i = j - 1
      · subst hi; simpa using hx
      · exact hz i (by omega) h2
    · exact fin (.inr (by simpa using hx))
  · exact fin (.inl (by simp at hp; omega))

theorem val_append_zeros (l : List Nat) (n : Nat) : val B64 (l ++ List.replicate n 0) = val B64 l := by rw [val_append, val_replicate, Nat.mul_zero, Nat.add_zero]

theorem sum_spec {w : World} {a b : Slc} {la lb : List Nat} (ha : Rd .u64 w a (nn la)) (hb : Rd .u64 w b (nn lb)) (oa : ok B64 la) (ob : ok B64 lb) (na : la.length + 1 ≤ 2 ^ 45) (nb : lb.length + 1 ≤ 2 ^ 45) :
    Calls pr mul_sum_id #[a.v, b.v] w fun e w' => Ahead w w' ∧ ∃ s l, e = .returned (Slc.v s) ∧ OwnNil w.heap.size w' s l ∧ l.length = max la.length lb.length + 1 ∧ ok B64 l ∧ val B64 l = val B64 la + val B64 lb := by
  have hB := B64v
  have hna : a.n = la.length := by rw [ha.n, nn_length]
  have hnb : b.n = lb.length := by rw [hb.n, nn_length]
  have em : maxI (a.n : Int) (b.n : Int) = ((max la.length lb.length : Nat) : Int) := by unfold maxI; split <;> omega
  refine mul_sum_vc a b w _ ?_
  rw [em, wrap_i64 (x := ((max la.length lb.length : Nat) : Int) + 1) (by omega) (by omega)]
  refine mkN (by omega) (by omega) ?_
  intro c w1 hc ho h1 hs1
  have hr := ha.ahead h1
  refine cpO ho hr (by simp; omega) ?_
  intro n w2 ho2 hon2
  have hlen : (la ++ (List.replicate ((max la.length lb.length : Nat) + 1 : Int).toNat 0).drop la.length).length = max la.length lb.length + 1 := by simp; omega
  have hval : val B64 (la ++ (List.replicate ((max la.length lb.length : Nat) + 1 : Int).toNat 0).drop la.length) = val B64 la := by rw [List.drop_replicate]; exact val_append_zeros _ _
  have hok : ok B64 (la ++ (List.replicate ((max la.length lb.length : Nat) + 1 : Int).toNat 0).drop la.length) := ok_append.2 ⟨oa, ok_drop (ok_replicate (by omega) _) _⟩
  generalize la ++ (List.replicate ((max la.length lb.length : Nat) + 1 : Int).toNat 0).drop la.length = L at *
  have hfit : val B64 L + val B64 lb * B64 ^ 0 < B64 ^ L.length := by
    rw [hval, hlen, Nat.pow_zero, Nat.mul_one, Nat.pow_succ]
    have h2 := Nat.lt_of_lt_of_le (val_lt oa) (Nat.pow_le_pow_right (by omega) (Nat.le_max_left la.length lb.length))
    have h3 := Nat.lt_of_lt_of_le (val_lt ob) (Nat.pow_le_pow_right (by omega) (Nat.le_max_right la.length lb.length))
    have := Nat.mul_le_mul_left (B64 ^ max la.length lb.length) two64
    omega
  refine Calls.mono (addAt_spec (at_ := 0) ho2 (hon2.rd (hb.ahead h1) (rd_off hb (Nat.le_refl _))) (rd_off hb (Nat.le_refl _)) hok ob (by omega) (by omega) (Nat.zero_le _) hfit) ?_
  rintro e w3 ⟨rfl, hon3, l', ho3, hl', ol', hv'⟩
  refine ⟨rfl, (hon2.trans hon3).ahead h1 (Nat.le_refl _), c, l', rfl, .inr ⟨_, Nat.le_refl _, by rw [hc]; unfold maxLen; omega, ho3⟩, by rw [hl', hlen], ol', by rw [hv', hval, Nat.pow_zero, Nat.mul_one]⟩

theorem less_spec {w : World} {a b : Slc} {la lb : List Nat} (ha : Rd .u64 w a (nn la)) (hb : Rd .u64 w b (nn lb)) (oa : ok B64 la) (ob : ok B64 lb) (na : la.length + 1 ≤ 2 ^ 45) (nb : lb.length ≤ 2 ^ 46) (hle : val B64 lb ≤ val B64 la) :
    Calls pr mul_less_id #[a.v, b.v] w fun e w' => Ahead w w' ∧ ∃ s l, e = .returned (Slc.v s) ∧ OwnNil w.heap.size w' s l ∧ l.length = la.length ∧ ok B64 l ∧ val B64 l = val B64 la - val B64 lb := by
  have hB := B64v
  have hna : a.n = la.length := by rw [ha.n, nn_length]
  have hnb : b.n = lb.length := by rw [hb.n, nn_length]
  refine mul_less_vc a b w _ (fun t1 out t6 t16 t17 w' => t1 = b ∧ t16 = (la.length : Int) ∧ Ahead w w' ∧ ∃ (j cr : Nat) (l : List Nat), t17 = (j : Int) ∧ j ≤ la.length ∧ t6 = (cr : Int) ∧ cr ≤ 1 ∧ Owr .u64 tU64 w' out (nn l) w.heap.size ∧ out.c ≤ maxLen ∧
    l.length = la.length ∧ ok B64 l ∧ l.drop j = la.drop j ∧ val B64 (l.take j) + val B64 (lb.take j) = val B64 (la.take j) + cr * B64 ^ j) (fun _ _ _ n i _ => (n - i).toNat) ?_ ?_
  · rw [hna]
    refine mkN (by omega) (by omega) ?_
    intro c w1 hc ho h1 hs1
    refine cpO ho (ha.ahead h1) (by simp) ?_
    intro n w2 ho2 hon2
    have e : la ++ (List.replicate ((la.length : Nat) : Int).toNat 0).drop la.length = la := by simp
    rw [e] at ho2
    exact ⟨rfl, by rw [ho2.n, nn_length], hon2.ahead h1 (Nat.le_refl _), 0, 0, la, rfl, Nat.zero_le _, rfl, by omega, ho2, by rw [hc]; unfold maxLen; omega, rfl, oa, rfl, by simp [val]⟩
  · rintro t1 out t6 t16 t17 w1 ⟨rfl, rfl, h1, j, cr, l, rfl, hj, rfl, hcr, ho, hoc, hl, ol, hdr, hv⟩
    have e8 : IntKind.i64.wrap ((j : Int) + 1) = ((j + 1 : Nat) : Int) := by rw [wrap_i64 (by omega) (by omega)]; omega
    rw [e8]
    have round : ∀ y : Nat, y < B64 → y = lb.getD j 0 → j < la.length → semA pr (Instr.indexAt 26 out.v (.int .i64 (j : Int))) w1 fun ad2 w4 => ldI .u64 ad2 w4 fun x3 =>
        Sem.wp pr (callFunc bits_Sub64_id #[.int .u64 x3, .int .u64 (y : Int), .int .u64 (cr : Int)]) (fun n1 w5 => ∃ x4 : Int, ∃ x5 : Int, n1 = .value (.tuple #[.int .u64 x4, .int .u64 x5]) ∧
          (semA pr (Instr.indexAt 26 out.v (.int .i64 (j : Int))) w5 fun ad3 w6 => stC ad3 (.int .u64 x4) w6 fun w7 =>
            (t1 = t1 ∧ (la.length : Int) = (la.length : Int) ∧ Ahead w w7 ∧ ∃ (j' cr : Nat) (l : List Nat), ((j + 1 : Nat) : Int) = (j' : Int) ∧ j' ≤ la.length ∧ x5 = (cr : Int) ∧ cr ≤ 1 ∧ Owr .u64 tU64 w7 out (nn l) w.heap.size ∧ out.c ≤ maxLen ∧
    l.length = la.length ∧ ok B64 l ∧ l.drop j' = la.drop j' ∧ val B64 (l.take j') + val B64 (lb.take j') = val B64 (la.take j') + cr * B64 ^ j') ∧ ((la.length : Int) - ((j + 1 : Nat) : Int)).toNat < ((la.length : Int) - (j : Int)).toNat)) (fun _ _ => False) w4 := by
      intro y hy hyb hjl
      refine ldN ho.rd (by omega) (by omega) ?_
      rw [Int.toNat_natCast]
      have hx : l.getD j 0 = la.getD j 0 := by
        have e1 := getD_drop l 0 j
        have e2 := getD_drop la 0 j
        rw [Nat.add_zero] at e1 e2
        rw [← e1, hdr, e2]
      have hxB := ok_getD oa (by omega : 0 < B64) j
      rw [hx]
      refine sub64 hcr ?_
      refine stO ho (by omega) (by omega) ?_
      intro w7 ho7 hon7
      rw [Int.toNat_natCast] at ho7
      have hst : (la.getD j 0 + B64 - y - cr) % B64 + y + cr = la.getD j 0 + B64 * (if la.getD j 0 < y + cr then 1 else 0) := by
        generalize la.getD j 0 = x at *
        split
        · rename_i h
          rw [Nat.mod_eq_of_lt (by omega)]; omega
        · rename_i h
          have : x + B64 - y - cr = (x - y - cr) + B64 := by omega
          rw [this, Nat.add_mod_right, Nat.mod_eq_of_lt (by omega)]; omega
      refine ⟨⟨rfl, rfl, hon7.ahead h1 (Nat.le_refl _), j + 1, _, _, rfl, hjl, rfl, by split <;> omega, ho7, hoc, by simpa using hl, ok_set ol (Nat.mod_lt _ (by omega)), ?_, ?_⟩, by omega⟩
      · rw [List.drop_set_of_lt (by omega), ← List.drop_drop, ← List.drop_drop, hdr]
      · rw [val_take_set _ _ _ (by omega), val_take_succ', val_take_succ', Nat.pow_succ, ← hyb]
        exact sub_step hst hv
    refine br_intro (fun hlt => ?_) (fun hge => ?_)
    · have hjl : j < la.length := by simp at hlt; omega
      refine br_intro (fun hin => ?_) (fun hin => ?_)
      · have hin' : j < lb.length := by simp at hin; omega
        refine ldN (hb.ahead h1) (by omega) (by omega) ?_
        rw [Int.toNat_natCast]
        exact round _ (ok_getD ob (by omega) j) rfl hjl
      · have hin' : lb.length ≤ j := by simp at hin; omega
        exact round 0 (by omega) (getD_ge _ _ hin').symm hjl
    · have hjl : j = la.length := by simp at hge; omega
      subst hjl
      refine ⟨h1, out, l, rfl, .inr ⟨_, Nat.le_refl _, hoc, ho⟩, hl, ol, ?_⟩
      have hlt := val_lt ol
      rw [hl] at hlt
      rw [val_take_all l (by omega), val_take_all la (Nat.le_refl _)] at hv
      have hlb : val B64 (lb.take la.length) = val B64 lb := by
        rw [take_val (by omega) ob, Nat.mod_eq_of_lt (Nat.lt_of_le_of_lt hle (val_lt oa))]
      rw [hlb] at hv
      have h3 : cr = 0 := by
        rcases Nat.lt_or_ge cr 1 with h4 | h4
        · omega
        · have : cr = 1 := by omega
          subst this
          omega
      subst h3
      omega

end Mul
end Go.Proofs.Ytflipimlpgbnmaa
namespace Go.Proofs.Ytflipimlpgbnmaa
open Go Go.RowKit Eng Sp Dg
set_option linter.unusedVariables false
set_option linter.unusedSimpArgs false
set_option maxRecDepth 100000
namespace Mul
open _root_.Go.Proofs.Ytflipimlpgbnmaa.Nat (ldN ldNf stN mkN Fill mkF stF stFf Num OwnNil add64 sub64)

theorem row_step (x y o cr : Nat) (hx : x < B64) (hy : y < B64) (ho : o < B64) (hc : cr < B64) :
    (o + (x * y % B64 + cr) % B64) % B64 + B64 * (x * y / B64 + (x * y % B64 + cr) / B64 + (o + (x * y % B64 + cr) % B64) / B64) = o + x * y + cr ∧
      x * y / B64 + (x * y % B64 + cr) / B64 + (o + (x * y % B64 + cr) % B64) / B64 < B64 := by
  have hB := B64v
  have h1 := Nat.mod_add_div (x * y) B64
  have h2 := Nat.mod_add_div (x * y % B64 + cr) B64
  have h3 := Nat.mod_add_div (o + (x * y % B64 + cr) % B64) B64
  have hxy : x * y ≤ (B64 - 1) * (B64 - 1) := Nat.mul_le_mul (by omega) (by omega)
  generalize (o + (x * y % B64 + cr) % B64) % B64 = s at *
  generalize (o + (x * y % B64 + cr) % B64) / B64 = c2 at *
  generalize (x * y % B64 + cr) % B64 = lo2 at *
  generalize (x * y % B64 + cr) / B64 = c1 at *
  generalize x * y % B64 = lo at *
  generalize x * y / B64 = hi at *
  generalize x * y = p at *
  have e : s + B64 * (hi + c1 + c2) = o + p + cr := by rw [Nat.mul_add, Nat.mul_add]; omega
  refine ⟨e, ?_⟩
  rcases Nat.lt_or_ge (hi + c1 + c2) B64 with h | h
  · exact h
  · exfalso
    have h5 := Nat.mul_le_mul_left B64 h
    have h6 : (B64 - 1) * (B64 - 1) + 2 * B64 = B64 * B64 + 1 := by decide
    clear h1 h2 h3
    generalize (B64 - 1) * (B64 - 1) = Q at *
    generalize B64 * B64 = BB at *
    generalize B64 * (hi + c1 + c2) = T at *
    omega

theorem school_spec {w : World} {a b : Slc} {la lb : List Nat} (ha : Rd .u64 w a (nn la)) (hb : Rd .u64 w b (nn lb)) (oa : ok B64 la) (ob : ok B64 lb) (nab : la.length + lb.length ≤ 2 ^ 45) :
    Calls pr mul_school_id #[a.v, b.v] w fun e w' => Ahead w w' ∧ ∃ s l, e = .returned (Slc.v s) ∧ OwnNil w.heap.size w' s l ∧ l.length = la.length + lb.length ∧ ok B64 l ∧ val B64 l = val B64 la * val B64 lb := by
  have hB := B64v
  have hna : a.n = la.length := by rw [ha.n, nn_length]
  have hnb : b.n = lb.length := by rw [hb.n, nn_length]
  refine mul_school_vc a b w _
    (fun t1 out t20 t21 t22 w' => t1 = b ∧ t20 = a ∧ t21 = (la.length : Int) ∧ Ahead w w' ∧ ∃ (i : Nat) (l : List Nat), t22 = (i : Int) ∧ i ≤ la.length ∧ Owr .u64 tU64 w' out (nn l) w.heap.size ∧ out.c ≤ maxLen ∧ l.length = la.length + lb.length ∧ ok B64 l ∧
      (∀ j, i + lb.length ≤ j → j < l.length → l.getD j 0 = 0) ∧ val B64 l = val B64 (la.take i) * val B64 lb)
    (fun _ _ _ n i _ => (n - i).toNat)
    (fun o1 o5 o20 o21 o22 ow t1 out t6 t7 t8 t20 t21 t22 t27 t28 t29 w' => o21 = t21 ∧ o22 = t22 ∧ t1 = b ∧ t20 = a ∧ t21 = (la.length : Int) ∧ t27 = b ∧ t28 = (lb.length : Int) ∧ Ahead w w' ∧ ∃ (i k cr : Nat) (l : List Nat), t6 = (i : Int) ∧ t22 = (i : Int) ∧ i < la.length ∧ t7 = ((la.getD i 0 : Nat) : Int) ∧
      t8 = (cr : Int) ∧ cr < B64 ∧ t29 = (k : Int) ∧ k ≤ lb.length ∧ Owr .u64 tU64 w' out (nn l) w.heap.size ∧ out.c ≤ maxLen ∧ l.length = la.length + lb.length ∧ ok B64 l ∧
      (∀ j, i + lb.length ≤ j → j < l.length → l.getD j 0 = 0) ∧ val B64 l + cr * B64 ^ (i + k) = val B64 (la.take i) * val B64 lb + la.getD i 0 * val B64 (lb.take k) * B64 ^ i)
    (fun _ _ _ _ _ _ _ _ _ _ _ _ _ _ _ n k _ => (n - k).toNat) ?_ ?_ ?_
  · rw [hna, hnb, wrap_i64 (by omega) (by omega)]
    refine mkN (by omega) (by omega) ?_
    intro c w1 hc ho h1 hs1
    refine ⟨rfl, rfl, rfl, h1, 0, _, rfl, Nat.zero_le _, ho, by rw [hc]; unfold maxLen; omega, by rw [List.length_replicate]; omega, ok_replicate (by omega) _, fun j h2 h3 => ?_, by rw [val_replicate]; simp [val]⟩
    rw [List.length_replicate] at h3
    simp [List.getD_eq_getElem?_getD, List.getElem?_replicate, h3]
  · rintro t1 out t20 t21 t22 w1 ⟨rfl, rfl, rfl, h1, i, l, rfl, hi, ho, hoc, hl, ol, hz, hv⟩
    refine br_intro (fun hlt => ?_) (fun hge => ?_)
    · have hi' : i < la.length := by simp at hlt; omega
      refine ldN (ha.ahead h1) (by omega) (by omega) ?_
      rw [Int.toNat_natCast]
      exact ⟨rfl, rfl, rfl, rfl, rfl, rfl, by rw [hnb], h1, i, 0, 0, l, rfl, rfl, hi', rfl, rfl, by omega, rfl, Nat.zero_le _, ho, hoc, hl, ol, hz, by simp [val, hv]⟩
    · have hi' : i = la.length := by simp at hge; omega
      subst hi'
      exact ⟨h1, out, l, rfl, .inr ⟨_, Nat.le_refl _, hoc, ho⟩, hl, ol, by rw [hv, List.take_length]⟩
  · rintro o1 o5 o20 o21 o22 ow _ t1 out t6 t7 t8 t20 t21 t22 t27 t28 t29 w1 ⟨rfl, rfl, rfl, rfl, rfl, rfl, rfl, h1, i, k, cr, l, rfl, rfl, hi, rfl, rfl, hcr, rfl, hk, ho, hoc, hl, ol, hz, hv⟩
    have hx := ok_getD oa (by omega : 0 < B64) i
    refine br_intro (fun hlt => ?_) (fun hge => ?_)
    · have hk' : k < lb.length := by simp at hlt; omega
      have e8 : IntKind.i64.wrap ((k : Int) + 1) = ((k + 1 : Nat) : Int) := by rw [wrap_i64 (by omega) (by omega)]; omega
      have hy := ok_getD ob (by omega : 0 < B64) k
      have hoo := ok_getD ol (by omega : 0 < B64) (i + k)
      refine ldN (hb.ahead h1) (by omega) (by omega) ?_
      rw [Int.toNat_natCast]
      refine Calls.mono (Try.bits_Mul64 _ _ (by omega) (by omega) _) ?_
      rintro e w4 ⟨rfl, rfl⟩
      refine ⟨_, _, rfl, ?_⟩
      rw [← B64v]
      refine add64 (c := 0) (by omega) ?_
      rw [wrap_i64 (x := (i : Int) + (k : Int)) (by omega) (by omega), show (i : Int) + (k : Int) = ((i + k : Nat) : Int) by omega]
      refine ldN ho.rd (by omega) (by omega) ?_
      rw [Int.toNat_natCast]
      refine add64 (c := 0) (by omega) ?_
      refine stO ho (by omega) (by omega) ?_
      intro w9 ho9 hon9
      rw [Int.toNat_natCast] at ho9
      obtain ⟨r1, r2⟩ := row_step (la.getD i 0) (lb.getD k 0) (l.getD (i + k) 0) cr hx hy hoo hcr
      simp only [Nat.add_zero] at ho9 ⊢
      have vs := val_set (B := B64) l (i + k) ((l.getD (i + k) 0 + (la.getD i 0 * lb.getD k 0 % B64 + cr) % B64) % B64) (by omega)
      have tk := val_take_succ' lb k (B := B64)
      have hsB : (l.getD (i + k) 0 + (la.getD i 0 * lb.getD k 0 % B64 + cr) % B64) % B64 < B64 := Nat.mod_lt _ (by omega)
      generalize (l.getD (i + k) 0 + (la.getD i 0 * lb.getD k 0 % B64 + cr) % B64) % B64 = s at *
      generalize la.getD i 0 * lb.getD k 0 / B64 = hi' at *
      generalize (la.getD i 0 * lb.getD k 0 % B64 + cr) / B64 = c1 at *
      generalize (l.getD (i + k) 0 + (la.getD i 0 * lb.getD k 0 % B64 + cr) % B64) / B64 = c2 at *
      have ec : IntKind.u64.wrap (IntKind.u64.wrap ((hi' : Int) + (c1 : Int)) + (c2 : Int)) = ((hi' + c1 + c2 : Nat) : Int) := by
        rw [wrap_u64' (x := (hi' : Int) + c1) (by omega) (by omega), wrap_u64' (by omega) (by omega)]; omega
      rw [ec, e8]
      refine ⟨⟨by trivial, by trivial, by trivial, by trivial, by trivial, by trivial, by trivial, hon9.ahead h1 (Nat.le_refl _), i, k + 1, _, _, rfl, rfl, hi, rfl, rfl, r2, rfl, hk', ho9, hoc, by simpa using hl, ok_set ol hsB, fun j h2 h3 => ?_, ?_⟩, by omega⟩
      · rw [List.length_set] at h3
        rw [getD_set _ _ _ _ (by omega), if_neg (by omega)]
        exact hz j h2 h3
      · rw [tk, show i + (k + 1) = i + k + 1 by omega, Nat.pow_succ]
        have e1 : la.getD i 0 * (val B64 (lb.take k) + B64 ^ k * lb.getD k 0) * B64 ^ i = la.getD i 0 * val B64 (lb.take k) * B64 ^ i + B64 ^ (i + k) * (la.getD i 0 * lb.getD k 0) := by
          rw [Nat.mul_add, Nat.add_mul, Nat.pow_add]; congr 1; ac_rfl
        rw [e1, ← Nat.add_assoc, ← hv]
        generalize la.getD i 0 * lb.getD k 0 = xy at *
        generalize l.getD (i + k) 0 = o at *
        generalize B64 ^ (i + k) = P at *
        have e2 : P * s + (hi' + c1 + c2) * (P * B64) = P * o + P * xy + cr * P := by
          have f1 : P * (s + B64 * (hi' + c1 + c2)) = P * s + (hi' + c1 + c2) * (P * B64) := by rw [Nat.mul_add]; congr 1; ac_rfl
          have f2 : P * (o + xy + cr) = P * o + P * xy + cr * P := by rw [Nat.mul_add, Nat.mul_add, Nat.mul_comm P cr]
          rw [← f1, r1, f2]
        omega
    · have hk' : k = lb.length := by simp at hge; omega
      subst hk'
      have e8 : IntKind.i64.wrap ((i : Int) + 1) = ((i + 1 : Nat) : Int) := by rw [wrap_i64 (by omega) (by omega)]; omega
      rw [hnb, wrap_i64 (x := (i : Int) + ((lb.length : Nat) : Int)) (by omega) (by omega), show (i : Int) + ((lb.length : Nat) : Int) = ((i + lb.length : Nat) : Int) by omega]
      refine stO ho (by omega) (by omega) ?_
      intro w9 ho9 hon9
      rw [Int.toNat_natCast] at ho9
      have hzero := hz (i + lb.length) (Nat.le_refl _) (by omega)
      refine ⟨⟨rfl, rfl, rfl, hon9.ahead h1 (Nat.le_refl _), i + 1, _, e8, hi, ho9, hoc, by simpa using hl, ok_set ol hcr, fun j h2 h3 => ?_, ?_⟩, by rw [e8]; omega⟩
      · rw [List.length_set] at h3
        rw [getD_set _ _ _ _ (by omega), if_neg (by omega)]
        exact hz j (by omega) h3
      · have vs := val_set (B := B64) l (i + lb.length) cr (by omega)
        rw [hzero, Nat.mul_zero, Nat.add_zero] at vs
        rw [vs, Nat.mul_comm (B64 ^ (i + lb.length)), hv, List.take_length, val_take_succ', Nat.add_mul]
        congr 1
        ac_rfl

end Mul
end Go.Proofs.Ytflipimlpgbnmaa
namespace Go.Proofs.Ytflipimlpgbnmaa
open Go Go.RowKit Eng Sp Dg
set_option linter.unusedVariables false
set_option linter.unusedSimpArgs false
set_option maxRecDepth 100000
namespace Mul
open _root_.Go.Proofs.Ytflipimlpgbnmaa.Nat (ldN ldNf stN mkN Fill mkF stF stFf Num OwnNil add64 sub64 len_le Norm_spec)

theorem part_lo {w : World} {a : Slc} {l : List Nat} (h : Rd .u64 w a (nn l)) (ol : ok B64 l) (ll : l.length ≤ 2 ^ 46) (k : Nat) :
    Calls pr mul_part_id #[a.v, .int .i64 0, .int .i64 (k : Int)] w fun e w' => w' = w ∧ ∃ s, e = .returned (Slc.v s) ∧ Rd .u64 w s (nn (digs B64 (val B64 (l.take k)))) ∧ (digs B64 (val B64 (l.take k))).length ≤ k := by
  refine Calls.mono (part_spec h ol ll (f := 0) (t := (k : Int)) (by omega) (by simp) (by omega)) ?_
  rintro e w' ⟨rfl, s, rfl, hr⟩
  have e1 : (l.drop (min (0 : Int).toNat l.length)).take (min ((k : Int)).toNat l.length - min (0 : Int).toNat l.length) = l.take k := by
    simp
  rw [e1] at hr
  exact ⟨rfl, s, rfl, hr, Nat.le_trans (len_le (ok_take ol k)) (by simp; omega)⟩
theorem part_hi {w : World} {a : Slc} {l : List Nat} (h : Rd .u64 w a (nn l)) (ol : ok B64 l) (ll : l.length ≤ 2 ^ 46) (k : Nat) (n : Nat) (hn : n = l.length) :
    Calls pr mul_part_id #[a.v, .int .i64 (k : Int), .int .i64 (n : Int)] w fun e w' => w' = w ∧ ∃ s, e = .returned (Slc.v s) ∧ Rd .u64 w s (nn (digs B64 (val B64 (l.drop k)))) ∧ (digs B64 (val B64 (l.drop k))).length ≤ l.length - k := by
  refine Calls.mono (part_spec h ol ll (f := (k : Int)) (t := (n : Int)) (by omega) (by simp; omega) (by omega)) ?_
  rintro e w' ⟨rfl, s, rfl, hr⟩
  have e1 : (l.drop (min ((k : Int)).toNat l.length)).take (min ((n : Int)).toNat l.length - min ((k : Int)).toNat l.length) = l.drop k := by
    rw [hn]
    simp
    rw [Nat.min_def]; split
    · rw [List.take_of_length_le (by simp)]
    · rw [List.drop_of_length_le (Nat.le_refl _), List.drop_of_length_le (by omega)]; simp
  rw [e1] at hr
  exact ⟨rfl, s, rfl, hr, Nat.le_trans (len_le (ok_drop ol k)) (by simp)⟩

/-- An answer that is a row of the call's own with limbs of the number. -/
def Res (w : World) (N m : Nat) (e : Ending) (w' : World) : Prop := Ahead w w' ∧ ∃ s l, e = .returned (Slc.v s) ∧ OwnNil w.heap.size w' s l ∧ l.length ≤ m ∧ ok B64 l ∧ val B64 l = N

theorem kara (A B C D P : Nat) : A * C + ((A + B) * (C + D) - A * C - B * D) * P + B * D * (P * P) = (A + P * B) * (C + P * D) := by
  have h1 : (A + B) * (C + D) = A * C + A * D + B * C + B * D := by rw [Nat.add_mul, Nat.mul_add, Nat.mul_add]; omega
  have h2 : (A + B) * (C + D) - A * C - B * D = A * D + B * C := by rw [h1]; omega
  rw [h2, Nat.add_mul (A * D), Nat.mul_add (A + P * B), Nat.add_mul A, Nat.add_mul A]
  have e1 : A * (P * D) = A * D * P := by ac_rfl
  have e2 : P * B * C = B * C * P := by ac_rfl
  have e3 : P * B * (P * D) = B * D * (P * P) := by ac_rfl
  rw [e1, e2, e3]
  omega

set_option maxHeartbeats 2000000 in
theorem halved_spec : ∀ (n : Nat) (w : World) (a : Slc) (la : List Nat) (ha : Rd .u64 w a (nn la)) (oa : ok B64 la) (b : Slc) (lb : List Nat) (hb : Rd .u64 w b (nn lb)) (ob : ok B64 lb) (cut : Int) (hc0 : 4 ≤ cut) (hc1 : cut ≤ 9223372036854775807)
    (hsz : la.length + lb.length + 4 ≤ 2 ^ 44) (hn : la.length + lb.length ≤ n), Calls pr mul_halved_id #[a.v, b.v, .int .i64 cut] w (Res w (val B64 la * val B64 lb) (la.length + lb.length + 1)) := by
  have hB := B64v
  intro n
  induction n using Nat.strongRecOn with
  | ind n ih =>
  intro w a la ha oa b lb hb ob cut hc0 hc1 hsz hn
  have hna : a.n = la.length := by rw [ha.n, nn_length]
  have hnb : b.n = lb.length := by rw [hb.n, nn_length]
  refine mul_halved_vc a b cut w _ ?_
  have key : ∀ m, m < la.length + lb.length → ∀ (w : World) (a : Slc) (la : List Nat) (ha : Rd .u64 w a (nn la)) (oa : ok B64 la) (b : Slc) (lb : List Nat) (hb : Rd .u64 w b (nn lb)) (ob : ok B64 lb),
      la.length + lb.length + 4 ≤ 2 ^ 44 → la.length + lb.length ≤ m → Calls pr mul_halved_id #[a.v, b.v, .int .i64 cut] w (Res w (val B64 la * val B64 lb) (la.length + lb.length + 1)) :=
    fun m hm w a la ha oa b lb hb ob h1 h2 => ih m (by omega) w a la ha oa b lb hb ob cut hc0 hc1 h1 h2
  clear ih hn
  refine br_intro (fun hlt => ?_) (fun hge => ?_)
  have hle : la.length ≤ lb.length := by simp at hlt; omega
  clear hlt
  obtain ⟨p, e⟩ : ∃ p, p = b := ⟨_, rfl⟩
  subst e
  obtain ⟨q, e⟩ : ∃ q, q = a := ⟨_, rfl⟩
  subst e
  obtain ⟨lp, e⟩ : ∃ lp, lp = lb := ⟨_, rfl⟩
  subst e
  obtain ⟨lq, e⟩ : ∃ lq, lq = la := ⟨_, rfl⟩
  subst e
  rw [Nat.mul_comm, Nat.add_comm lq.length lp.length]
  rw [Nat.add_comm lq.length lp.length] at hsz key
  have hp := hb
  have hq := ha
  have op := ob
  have oq := oa
  have hnp := hnb
  have hnq := hna
  clear ha hb oa ob hna hnb
  rotate_left 1
  have hle : lb.length ≤ la.length := by simp at hge; omega
  clear hge
  obtain ⟨p, e⟩ : ∃ p, p = a := ⟨_, rfl⟩
  subst e
  obtain ⟨q, e⟩ : ∃ q, q = b := ⟨_, rfl⟩
  subst e
  obtain ⟨lp, e⟩ : ∃ lp, lp = la := ⟨_, rfl⟩
  subst e
  obtain ⟨lq, e⟩ : ∃ lq, lq = lb := ⟨_, rfl⟩
  subst e
  have hp := ha
  have hq := hb
  have op := oa
  have oq := ob
  have hnp := hna
  have hnq := hnb
  clear ha hb oa ob hna hnb
  rotate_left 1
  all_goals
    have hXY : val B64 lp * val B64 lq < B64 ^ (lp.length + lq.length + 1) := by
      have h1 := val_lt op
      have h2 := val_lt oq
      have h3 : val B64 lp * val B64 lq < B64 ^ (lp.length + lq.length) := by
        rw [Nat.pow_add]; exact Nat.mul_lt_mul_of_lt_of_lt h1 h2
      exact Nat.lt_of_lt_of_le h3 (Nat.pow_le_pow_right (by omega) (by omega))
    refine br_intro (fun hs => ?_) (fun hs => ?_)
    · refine Calls.mono (school_spec hp hq op oq (by omega)) ?_
      rintro e w1 ⟨h1, s, l, rfl, ho, hl, ol, hv⟩
      exact ⟨_, rfl, h1, s, l, rfl, ho, by omega, ol, hv⟩
    · have hq4 : 4 ≤ lq.length := by simp at hs; omega
      have ek : IntKind.i64.wrap (Int.tdiv (IntKind.i64.wrap ((p.n : Int) + 1)) 2) = (((lp.length + 1) / 2 : Nat) : Int) := by
        rw [wrap_i64 (x := (p.n : Int) + 1) (by omega) (by omega), Int.tdiv_eq_ediv_of_nonneg (by omega), wrap_i64 (by omega) (by omega)]; omega
      have em : IntKind.i64.wrap (IntKind.i64.wrap ((p.n : Int) + (q.n : Int)) + 1) = ((lp.length + lq.length + 1 : Nat) : Int) := by
        rw [wrap_i64 (x := (p.n : Int) + (q.n : Int)) (by omega) (by omega), wrap_i64 (by omega) (by omega)]; omega
      rw [ek, em]
      generalize hk : (lp.length + 1) / 2 = k at *
      have hX : val B64 lp = val B64 (lp.take k) + B64 ^ k * val B64 (lp.drop k) := val_take_drop lp k (by omega)
      refine br_intro (fun hu => ?_) (fun hu => ?_)
      · -- the shorter one is not parted
        refine mkN (by omega) (by omega) ?_
        intro c w2 hcc ho2 h2 hs2
        have hlc : (List.replicate ((lp.length + lq.length + 1 : Nat) : Int).toNat 0).length = lp.length + lq.length + 1 := by rw [List.length_replicate]; omega
        have hvc : val B64 (List.replicate ((lp.length + lq.length + 1 : Nat) : Int).toNat 0) = 0 := val_replicate _
        have olc : ok B64 (List.replicate ((lp.length + lq.length + 1 : Nat) : Int).toNat 0) := ok_replicate (by omega) _
        generalize List.replicate ((lp.length + lq.length + 1 : Nat) : Int).toNat 0 = C0 at *
        refine Calls.mono (part_lo (hp.ahead h2) op (by omega) k) ?_
        rintro e w3 ⟨rfl, s3, rfl, r3, l3⟩
        refine ⟨_, rfl, Calls.mono (key (k + lq.length) (by omega) _ _ _ r3 (ok_digs two64 _) _ _ (hq.ahead h2) oq (by omega) (by omega)) ?_⟩
        rintro e w4 ⟨h4, s4, L4, rfl, o4, n4, k4, v4⟩
        rw [val_digs two64] at v4
        have hpos : 0 < B64 ^ k := Nat.pow_pos (by omega)
        have hsum : val B64 lp * val B64 lq = val B64 (lp.take k) * val B64 lq + val B64 (lp.drop k) * val B64 lq * B64 ^ k := by
          rw [hX, Nat.add_mul]; congr 1; ac_rfl
        refine ⟨_, rfl, Calls.mono (addAt_spec (at_ := 0) (ho2.ahead h4) o4.rd (off_new o4 (by omega)) olc k4 (by omega) (by omega) (Nat.zero_le _) ?_) ?_⟩
        · rw [hvc, v4, hlc, Nat.pow_zero, Nat.mul_one, Nat.zero_add]
          exact Nat.lt_of_le_of_lt (by rw [hsum]; exact Nat.le_add_right _ _) hXY
        rintro e w5 ⟨rfl, hon5, l5, o5, n5, k5, v5⟩
        have h5 : Ahead w w5 := hon5.ahead (h2.trans h4) (Nat.le_refl _)
        refine ⟨rfl, ?_⟩
        rw [hnp]
        refine Calls.mono (part_hi (hp.ahead h5) op (by omega) k _ rfl) ?_
        rintro e w6 ⟨rfl, s5, rfl, r5, l5'⟩
        refine ⟨_, rfl, Calls.mono (key (lp.length - k + lq.length) (by omega) _ _ _ r5 (ok_digs two64 _) _ _ (hq.ahead h5) oq (by omega) (by omega)) ?_⟩
        rintro e w7 ⟨h7, s6, L6, rfl, o6, n6, k6, v6⟩
        rw [val_digs two64] at v6
        have hlt5 := o5.lt
        refine ⟨_, rfl, Calls.mono (addAt_spec (at_ := k) (o5.ahead h7) o6.rd (off_new o6 (by omega)) k5 k6 (by omega) (by omega) (by omega) ?_) ?_⟩
        · rw [v5, v6, n5, hlc, hvc, v4, Nat.pow_zero, Nat.mul_one, Nat.zero_add, ← hsum]
          exact hXY
        rintro e w8 ⟨rfl, hon8, l8, o8, n8, k8, v8⟩
        refine ⟨rfl, hon8.ahead (h5.trans h7) (Nat.le_refl _), c, l8, rfl, .inr ⟨_, Nat.le_refl _, by rw [hcc]; unfold maxLen; omega, o8⟩, by omega, k8, ?_⟩
        rw [v8, v5, v6, hvc, v4, Nat.pow_zero, Nat.mul_one, Nat.zero_add, hsum]
      · have hu' : k < lq.length := by simp at hu; omega
        have hY : val B64 lq = val B64 (lq.take k) + B64 ^ k * val B64 (lq.drop k) := val_take_drop lq k (by omega)
        refine Calls.mono (part_lo hp op (by omega) k) ?_
        rintro e w9 ⟨rfl, al, rfl, ral, nal⟩
        refine ⟨_, rfl, ?_⟩
        rw [hnp]
        refine Calls.mono (part_hi hp op (by omega) k _ rfl) ?_
        rintro e w10 ⟨rfl, ah, rfl, rah, nah⟩
        refine ⟨_, rfl, Calls.mono (part_lo hq oq (by omega) k) ?_⟩
        rintro e w11 ⟨rfl, bl', rfl, rbl, nbl⟩
        refine ⟨_, rfl, ?_⟩
        rw [hnq]
        refine Calls.mono (part_hi hq oq (by omega) k _ rfl) ?_
        rintro e w12 ⟨rfl, bh, rfl, rbh, nbh⟩
        have kal := ok_digs two64 (val B64 (lp.take k))
        have kah := ok_digs two64 (val B64 (lp.drop k))
        have kbl := ok_digs two64 (val B64 (lq.take k))
        have kbh := ok_digs two64 (val B64 (lq.drop k))
        have val1 := val_digs two64 (val B64 (lp.take k))
        have val2 := val_digs two64 (val B64 (lp.drop k))
        have val3 := val_digs two64 (val B64 (lq.take k))
        have val4 := val_digs two64 (val B64 (lq.drop k))
        generalize val B64 (lp.take k) = A at *
        generalize val B64 (lp.drop k) = B at *
        generalize val B64 (lq.take k) = C at *
        generalize val B64 (lq.drop k) = D at *
        refine ⟨_, rfl, Calls.mono (key (k + k) (by omega) _ _ _ ral kal _ _ rbl kbl (by omega) (by omega)) ?_⟩
        rintro e w13 ⟨h13, s11, L11, rfl, o11, n11, k11, v11⟩
        refine ⟨_, rfl, Calls.mono (key (lp.length - k + (lq.length - k)) (by omega) _ _ _ (rah.ahead h13) kah _ _ (rbh.ahead h13) kbh (by omega) (by omega)) ?_⟩
        rintro e w14 ⟨h14, s12, L12, rfl, o12, n12, k12, v12⟩
        have h014 := h13.trans h14
        refine ⟨_, rfl, Calls.mono (sum_spec (ral.ahead h014) (rah.ahead h014) kal kah (by omega) (by omega)) ?_⟩
        rintro e w15 ⟨h15, s13, L13, rfl, o13, n13, k13, v13⟩
        refine ⟨_, rfl, Calls.mono (Norm_spec o13.rd (by omega) k13) ?_⟩
        rintro e w16 ⟨h16, s14, rfl, o14⟩
        have h016 := (h014.trans h15).trans h16
        refine ⟨_, rfl, Calls.mono (sum_spec (rbl.ahead h016) (rbh.ahead h016) kbl kbh (by omega) (by omega)) ?_⟩
        rintro e w17 ⟨h17, s15, L15, rfl, o15, n15, k15, v15⟩
        refine ⟨_, rfl, Calls.mono (Norm_spec o15.rd (by omega) k15) ?_⟩
        rintro e w18 ⟨h18, s16, rfl, o16⟩
        have h018 := (h016.trans h17).trans h18
        have d13 := len_le k13
        have d15 := len_le k15
        refine ⟨_, rfl, Calls.mono (key (k + 1 + (k + 1)) (by omega) _ _ _ ((o14.ahead h17).ahead h18).rd (ok_digs two64 _) _ _ o16.rd (ok_digs two64 _) (by omega) (by omega)) ?_⟩
        rintro e w19 ⟨h19, s17, L17, rfl, o17, n17, k17, v17⟩
        rw [val_digs two64, val_digs two64, v13, v15, val1, val2, val3, val4] at v17
        rw [val1, val3] at v11
        rw [val2, val4] at v12
        have h019 := h018.trans h19
        have hAC : A * C + B * D ≤ (A + B) * (C + D) := by
          rw [Nat.add_mul, Nat.mul_add, Nat.mul_add]; omega
        have h1419 := ((((h15.trans h16).trans h17).trans h18).trans h19)
        have o11' := (o11.ahead h14).ahead h1419
        have o12' := o12.ahead h1419
        refine ⟨_, rfl, Calls.mono (less_spec o17.rd o11'.rd k17 k11 (by omega) (by omega) (by rw [v17, v11]; omega)) ?_⟩
        rintro e w20 ⟨h20, s18, L18, rfl, o18, n18, k18, v18⟩
        refine ⟨_, rfl, Calls.mono (less_spec o18.rd (o12'.ahead h20).rd k18 k12 (by omega) (by omega) (by rw [v18, v17, v11, v12]; omega)) ?_⟩
        rintro e w21 ⟨h21, s19, L19, rfl, o19, n19, k19, v19⟩
        rw [v18, v17, v11, v12] at v19
        have h021 := (h019.trans h20).trans h21
        have hsz21 := h021.size
        refine ⟨_, rfl, mkN (by omega) (by omega) ?_⟩
        intro c w22 hcc ho22 h22 hs22
        have hlc : (List.replicate ((lp.length + lq.length + 1 : Nat) : Int).toNat 0).length = lp.length + lq.length + 1 := by rw [List.length_replicate]; omega
        have hvc : val B64 (List.replicate ((lp.length + lq.length + 1 : Nat) : Int).toNat 0) = 0 := val_replicate _
        have olc : ok B64 (List.replicate ((lp.length + lq.length + 1 : Nat) : Int).toNat 0) := ok_replicate (by omega) _
        generalize List.replicate ((lp.length + lq.length + 1 : Nat) : Int).toNat 0 = C0 at *
        have r11 := ((o11'.ahead h20).ahead h21).rd
        have r12 := ((o12'.ahead h20).ahead h21).rd
        have r19 := o19.rd
        have hsum := kara A B C D (B64 ^ k)
        rw [← hX, ← hY] at hsum
        have f11 := rd_off r11 (Nat.le_refl w21.heap.size)
        have f12 := rd_off r12 (Nat.le_refl w21.heap.size)
        have f19 := rd_off r19 (Nat.le_refl w21.heap.size)
        have hpw : B64 ^ (2 * k) = B64 ^ k * B64 ^ k := by rw [Nat.two_mul, Nat.pow_add]
        refine Calls.mono (addAt_spec (at_ := 0) ho22 (r11.ahead h22) f11 olc k11 (by omega) (by omega) (Nat.zero_le _) ?_) ?_
        · rw [hvc, v11, hlc, Nat.pow_zero, Nat.mul_one, Nat.zero_add]
          exact Nat.lt_of_le_of_lt (by rw [← hsum]; omega) hXY
        rintro e w23 ⟨rfl, hon23, l23, o23, n23, k23, v23⟩
        rw [hvc, v11, Nat.pow_zero, Nat.mul_one, Nat.zero_add] at v23
        refine ⟨rfl, Calls.mono (addAt_spec (at_ := k) o23 (hon23.rd (r19.ahead h22) f19) f19 k23 k19 (by omega) (by omega) (by omega) ?_) ?_⟩
        · rw [v23, v19, n23, hlc]
          exact Nat.lt_of_le_of_lt (by rw [← hsum]; omega) hXY
        rintro e w24 ⟨rfl, hon24, l24, o24, n24, k24, v24⟩
        rw [v23, v19] at v24
        have hon := hon23.trans hon24
        have e2k : IntKind.i64.wrap (2 * ((k : Nat) : Int)) = ((2 * k : Nat) : Int) := by rw [wrap_i64 (by omega) (by omega)]; omega
        rw [e2k]
        refine ⟨rfl, Calls.mono (addAt_spec (at_ := 2 * k) o24 (hon.rd (r12.ahead h22) f12) f12 k24 k12 (by omega) (by omega) (by omega) ?_) ?_⟩
        · rw [v24, v12, n24, n23, hlc, hpw, hsum]
          exact hXY
        rintro e w25 ⟨rfl, hon25, l25, o25, n25, k25, v25⟩
        rw [v24, v12, hpw, hsum] at v25
        exact ⟨rfl, (hon.trans hon25).ahead (h021.trans h22) hsz21, c, l25, rfl, .inr ⟨_, hsz21, by rw [hcc]; unfold maxLen; omega, o25⟩, by omega, k25, v25⟩

end Mul
end Go.Proofs.Ytflipimlpgbnmaa
namespace Go.Proofs.Ytflipimlpgbnmaa
open Go Go.RowKit Eng
set_option linter.unusedVariables false

def surdref01_norm_cut (J0 : Slc → Int → World → Prop) (m0 : Slc → Int → World → Nat) : Nat → Option ((Act → World → Prop) × (Act → World → Nat))
  | 0 => some (fun a_ w_ => atSz a_ 22 (atS a_ 0 fun t0_a => atI .i64 a_ 3 fun t3_n => J0 t0_a t3_n w_), fun a_ w_ => mS a_ 0 fun t0_a => mI a_ 3 fun t3_n => m0 t0_a t3_n w_)
  | _ => none

set_option maxRecDepth 100000 in
/-- surd/surdref01.norm: function 48. -/
theorem surdref01_norm_vc (a0_a : Slc) (w : World) (R : Ending → World → Prop)
    (J0 : Slc → Int → World → Prop) (m0 : Slc → Int → World → Nat)
    (h : J0 a0_a (a0_a.n : Int) w)
    (h0 : ∀ (t0_a : Slc) (t3_n : Int) (w_ : World), J0 t0_a t3_n w_ → 
    br (decide (t3_n > 0))
    (semA Try.prog (Instr.indexAt 29 t0_a.v (Value.int .i64 (IntKind.i64.wrap (t3_n - 1)))) w_ fun ad1 w1 =>
     ldI .u64 ad1 w1 fun x1 =>
     br (x1 == 0)
     (J0 t0_a (IntKind.i64.wrap (t3_n - 1)) w1 ∧
      m0 t0_a (IntKind.i64.wrap (t3_n - 1)) w1 < m0 t0_a t3_n w_)
     (semS Try.prog (Instr.sliceAt 29 t0_a.v none (some (Value.int .i64 t3_n)) (some (Value.int .i64 t3_n))) w1 fun s1 w2 =>
      R (.returned s1.v) w2))
    (semS Try.prog (Instr.sliceAt 29 t0_a.v none (some (Value.int .i64 t3_n)) (some (Value.int .i64 t3_n))) w_ fun s2 w3 =>
     R (.returned s2.v) w3)) :
    Calls Try.prog 48 #[a0_a.v] w R := by
  refine calls_of_vc (surdref01_norm_cut J0 m0) (by kernel_rfl) Try.func48 rfl ?_ ?_
  · refine kcast h ?_; kernel_rfl
  · exact (obl_seq rfl (obl_reg (obl_seq rfl (obl_reg (obl_seq rfl (obl_loop _ rfl (fun a_ w_ hL_ => (by
    obtain ⟨hz_, hd_, hL_⟩ := atSz_out hL_
    obtain ⟨t0_a, h0_, hL_⟩ := atS_out hL_
    obtain ⟨t3_n, h3_, hL_⟩ := atI_out hL_
    obtain ⟨g0, rfl⟩ : ∃ g, a_ = Fr 22 [(0, t0_a.v), (3, Value.int .i64 t3_n)] g := ⟨_, fr_of hz_ hd_ [(0, t0_a.v), (3, Value.int .i64 t3_n)] (sel_cons h0_ (sel_cons h3_ sel_nil))⟩
    clear hz_ hd_ h0_ h3_
    have hJ0_ := hL_
    refine ⟨(fun _ => none), kcast (h0 t0_a t3_n w_ hJ0_) ?_, ?_⟩
    · kernel_rfl
    · exact (obl_seq rfl (obl_seq rfl (obl_reg (obl_cond (obl_skip (obl_exit (obl_blk rfl (obl_reg trivial)))))))))) (obl_seq rfl (obl_reg (obl_ret trivial)))))))))

def surdref01_Of_cut (J0 : Slc → Slc → Int → Int → World → Prop) (m0 : Slc → Slc → Int → Int → World → Nat) : Nat → Option ((Act → World → Prop) × (Act → World → Nat))
  | 0 => some (fun a_ w_ => atSz a_ 26 (atS a_ 3 fun t3_out => atS a_ 10 fun t10 => atI .i64 a_ 11 fun t11 => atI .i64 a_ 12 fun t12 => J0 t3_out t10 t11 t12 w_), fun a_ w_ => mS a_ 3 fun t3_out => mS a_ 10 fun t10 => mI a_ 11 fun t11 => mI a_ 12 fun t12 => m0 t3_out t10 t11 t12 w_)
  | _ => none

set_option maxRecDepth 100000 in
/-- surd/surdref01.Of: function 18. -/
theorem surdref01_Of_vc (a0_limbs : Slc) (w : World) (R : Ending → World → Prop)
    (J0 : Slc → Slc → Int → Int → World → Prop) (m0 : Slc → Slc → Int → Int → World → Nat)
    (h : semS Try.prog (Instr.makeSlice 29 (Value.int .i64 0) (Value.int .i64 (IntKind.i64.wrap (2 * (a0_limbs.n : Int))))) w fun s1 w1 =>
    J0 s1 a0_limbs (a0_limbs.n : Int) 0 w1)
    (h0 : ∀ (t3_out : Slc) (t10 : Slc) (t11 : Int) (t12 : Int) (w_ : World), J0 t3_out t10 t11 t12 w_ → 
    br (decide (t12 < t11))
    (semA Try.prog (Instr.indexAt 25 t10.v (Value.int .i64 t12)) w_ fun ad1 w2 =>
     ldI .u64 ad1 w2 fun x1 =>
     newC w2 #[Value.int .u64 (Int.tmod x1 4294967296), Value.int .u64 (IntKind.u64.wrap (Int.tdiv x1 4294967296))] 49 fun ad2 w3 =>
     semS Try.prog (Builtin.append_ #[29, 29] 29 #[t3_out.v, (⟨some ad2, 2, 2⟩ : Slc).v]) w3 fun s2 w4 =>
     J0 s2 t10 t11 (IntKind.i64.wrap (t12 + 1)) w4 ∧
     m0 s2 t10 t11 (IntKind.i64.wrap (t12 + 1)) w4 < m0 t3_out t10 t11 t12 w_)
    (Calls Try.prog 48 #[t3_out.v] w_ fun e1 w5 =>
     ∃ s3 : Slc, e1 = .returned s3.v ∧
     (R (.returned s3.v) w5))) :
    Calls Try.prog 18 #[a0_limbs.v] w R := by
  refine calls_of_vc (surdref01_Of_cut J0 m0) (by kernel_rfl) Try.func18 rfl ?_ ?_
  · refine kcast h ?_; kernel_rfl
  · exact (obl_seq rfl (obl_reg (obl_seq rfl (obl_reg (obl_seq rfl (obl_seq rfl (obl_reg (obl_loop _ rfl (fun a_ w_ hL_ => (by
    obtain ⟨hz_, hd_, hL_⟩ := atSz_out hL_
    obtain ⟨t3_out, h3_, hL_⟩ := atS_out hL_
    obtain ⟨t10, h10_, hL_⟩ := atS_out hL_
    obtain ⟨t11, h11_, hL_⟩ := atI_out hL_
    obtain ⟨t12, h12_, hL_⟩ := atI_out hL_
    obtain ⟨g0, rfl⟩ : ∃ g, a_ = Fr 26 [(3, t3_out.v), (10, t10.v), (11, Value.int .i64 t11), (12, Value.int .i64 t12)] g := ⟨_, fr_of hz_ hd_ [(3, t3_out.v), (10, t10.v), (11, Value.int .i64 t11), (12, Value.int .i64 t12)] (sel_cons h3_ (sel_cons h10_ (sel_cons h11_ (sel_cons h12_ sel_nil))))⟩
    clear hz_ hd_ h3_ h10_ h11_ h12_
    have hJ0_ := hL_
    refine ⟨(fun _ => none), kcast (h0 t3_out t10 t11 t12 w_ hJ0_) ?_, ?_⟩
    · kernel_rfl
    · exact (obl_seq rfl (obl_reg (obl_seq rfl (obl_cond (obl_skip (obl_exit (obl_seq rfl (obl_blk rfl (obl_seq rfl (obl_reg (obl_reg (obl_reg trivial)))))))))))))) (obl_seq rfl (obl_reg (obl_ret trivial)))))))))))

def surdref01_Num_Limbs_cut (J0 : Slc → Slc → Int → World → Prop) (m0 : Slc → Slc → Int → World → Nat) : Nat → Option ((Act → World → Prop) × (Act → World → Nat))
  | 0 => some (fun a_ w_ => atSz a_ 34 (atS a_ 0 fun t0_a => atS a_ 3 fun t3_out => atI .i64 a_ 4 fun t4_i => J0 t0_a t3_out t4_i w_), fun a_ w_ => mS a_ 0 fun t0_a => mS a_ 3 fun t3_out => mI a_ 4 fun t4_i => m0 t0_a t3_out t4_i w_)
  | _ => none

set_option maxRecDepth 100000 in
/-- (surd/surdref01.Num).Limbs: function 32. -/
theorem surdref01_Num_Limbs_vc (a0_a : Slc) (w : World) (R : Ending → World → Prop)
    (J0 : Slc → Slc → Int → World → Prop) (m0 : Slc → Slc → Int → World → Nat)
    (h : J0 a0_a (⟨none, 0, 0⟩ : Slc) 0 w)
    (h0 : ∀ (t0_a : Slc) (t3_out : Slc) (t4_i : Int) (w_ : World), J0 t0_a t3_out t4_i w_ → 
    br (decide (t4_i < (t0_a.n : Int)))
    (semA Try.prog (Instr.indexAt 29 t0_a.v (Value.int .i64 t4_i)) w_ fun ad1 w1 =>
     ldI .u64 ad1 w1 fun x1 =>
     br (decide ((IntKind.i64.wrap (t4_i + 1)) < (t0_a.n : Int)))
     (semA Try.prog (Instr.indexAt 29 t0_a.v (Value.int .i64 (IntKind.i64.wrap (t4_i + 1)))) w1 fun ad2 w2 =>
      ldI .u64 ad2 w2 fun x2 =>
      newC w2 #[Value.int .u64 (IntKind.u64.wrap (x1 + (IntKind.u64.wrap (x2 * 4294967296))))] 49 fun ad3 w3 =>
      semS Try.prog (Builtin.append_ #[25, 25] 25 #[t3_out.v, (⟨some ad3, 1, 1⟩ : Slc).v]) w3 fun s1 w4 =>
      J0 t0_a s1 (IntKind.i64.wrap (t4_i + 2)) w4 ∧
      m0 t0_a s1 (IntKind.i64.wrap (t4_i + 2)) w4 < m0 t0_a t3_out t4_i w_)
     (newC w1 #[Value.int .u64 x1] 49 fun ad4 w5 =>
      semS Try.prog (Builtin.append_ #[25, 25] 25 #[t3_out.v, (⟨some ad4, 1, 1⟩ : Slc).v]) w5 fun s2 w6 =>
      J0 t0_a s2 (IntKind.i64.wrap (t4_i + 2)) w6 ∧
      m0 t0_a s2 (IntKind.i64.wrap (t4_i + 2)) w6 < m0 t0_a t3_out t4_i w_))
    (R (.returned t3_out.v) w_)) :
    Calls Try.prog 32 #[a0_a.v] w R := by
  refine calls_of_vc (surdref01_Num_Limbs_cut J0 m0) (by kernel_rfl) Try.func32 rfl ?_ ?_
  · refine kcast h ?_; kernel_rfl
  · exact (obl_seq rfl (obl_reg (obl_seq rfl (obl_reg (obl_seq rfl (obl_seq rfl (obl_reg (obl_loop _ rfl (fun a_ w_ hL_ => (by
    obtain ⟨hz_, hd_, hL_⟩ := atSz_out hL_
    obtain ⟨t0_a, h0_, hL_⟩ := atS_out hL_
    obtain ⟨t3_out, h3_, hL_⟩ := atS_out hL_
    obtain ⟨t4_i, h4_, hL_⟩ := atI_out hL_
    obtain ⟨g0, rfl⟩ : ∃ g, a_ = Fr 34 [(0, t0_a.v), (3, t3_out.v), (4, Value.int .i64 t4_i)] g := ⟨_, fr_of hz_ hd_ [(0, t0_a.v), (3, t3_out.v), (4, Value.int .i64 t4_i)] (sel_cons h0_ (sel_cons h3_ (sel_cons h4_ sel_nil)))⟩
    clear hz_ hd_ h0_ h3_ h4_
    have hJ0_ := hL_
    refine ⟨(fun _ => none), kcast (h0 t0_a t3_out t4_i w_ hJ0_) ?_, ?_⟩
    · kernel_rfl
    · exact (obl_seq rfl (obl_seq rfl (obl_reg (obl_cond (obl_skip (obl_exit (obl_seq rfl (obl_blk rfl (obl_seq rfl (obl_reg (obl_seq rfl (obl_seq rfl (obl_reg (obl_cond (obl_reg (obl_skip (obl_reg (obl_reg trivial)))))))))))))))))))) (obl_seq rfl (obl_reg (obl_ret trivial)))))))))))

def surdref01_Num_Is_cut (J0 : Slc → Slc → Int → Int → World → Prop) (m0 : Slc → Slc → Int → Int → World → Nat) : Nat → Option ((Act → World → Prop) × (Act → World → Nat))
  | 0 => some (fun a_ w_ => atSz a_ 29 (atS a_ 1 fun t1_limbs => atS a_ 5 fun t5_want => atI .i64 a_ 15 fun t15 => atI .i64 a_ 16 fun t16 => J0 t1_limbs t5_want t15 t16 w_), fun a_ w_ => mS a_ 1 fun t1_limbs => mS a_ 5 fun t5_want => mI a_ 15 fun t15 => mI a_ 16 fun t16 => m0 t1_limbs t5_want t15 t16 w_)
  | _ => none

set_option maxRecDepth 100000 in
/-- (surd/surdref01.Num).Is: function 15. -/
theorem surdref01_Num_Is_vc (a0_a : Slc) (a1_limbs : Slc) (w : World) (R : Ending → World → Prop)
    (J0 : Slc → Slc → Int → Int → World → Prop) (m0 : Slc → Slc → Int → Int → World → Nat)
    (h : Calls Try.prog 32 #[a0_a.v] w fun e1 w1 =>
    ∃ s1 : Slc, e1 = .returned s1.v ∧
    (br ((s1.n : Int) != (a1_limbs.n : Int))
     (R (.returned (Value.bool false)) w1)
     (J0 a1_limbs s1 (s1.n : Int) 0 w1)))
    (h0 : ∀ (t1_limbs : Slc) (t5_want : Slc) (t15 : Int) (t16 : Int) (w_ : World), J0 t1_limbs t5_want t15 t16 w_ → 
    br (decide (t16 < t15))
    (fixA Try.prog (Instr.indexAt 25 t5_want.v (Value.int .i64 t16)) w_ fun ad1 =>
     ldI .u64 ad1 w_ fun x1 =>
     fixA Try.prog (Instr.indexAt 25 t1_limbs.v (Value.int .i64 t16)) w_ fun ad2 =>
     ldI .u64 ad2 w_ fun x2 =>
     ∀ w2, Ahead w_ w2 →
     (br (x1 != x2)
      (R (.returned (Value.bool false)) w2)
      (J0 t1_limbs t5_want t15 (IntKind.i64.wrap (t16 + 1)) w2 ∧
       m0 t1_limbs t5_want t15 (IntKind.i64.wrap (t16 + 1)) w2 < m0 t1_limbs t5_want t15 t16 w_)))
    (R (.returned (Value.bool true)) w_)) :
    Calls Try.prog 15 #[a0_a.v, a1_limbs.v] w R := by
  refine calls_of_vc (surdref01_Num_Is_cut J0 m0) (by kernel_rfl) Try.func15 rfl ?_ ?_
  · refine kcast h ?_; kernel_rfl
  · exact (obl_seq rfl (obl_reg (obl_seq rfl (obl_reg (obl_seq rfl (obl_seq rfl (obl_reg (obl_cond (obl_seq rfl (obl_reg (obl_ret (obl_skip (obl_seq rfl (obl_seq rfl (obl_reg (obl_loop _ rfl (fun a_ w_ hL_ => (by
    obtain ⟨hz_, hd_, hL_⟩ := atSz_out hL_
    obtain ⟨t1_limbs, h1_, hL_⟩ := atS_out hL_
    obtain ⟨t5_want, h5_, hL_⟩ := atS_out hL_
    obtain ⟨t15, h15_, hL_⟩ := atI_out hL_
    obtain ⟨t16, h16_, hL_⟩ := atI_out hL_
    obtain ⟨g0, rfl⟩ : ∃ g, a_ = Fr 29 [(1, t1_limbs.v), (5, t5_want.v), (15, Value.int .i64 t15), (16, Value.int .i64 t16)] g := ⟨_, fr_of hz_ hd_ [(1, t1_limbs.v), (5, t5_want.v), (15, Value.int .i64 t15), (16, Value.int .i64 t16)] (sel_cons h1_ (sel_cons h5_ (sel_cons h15_ (sel_cons h16_ sel_nil))))⟩
    clear hz_ hd_ h1_ h5_ h15_ h16_
    have hJ0_ := hL_
    refine ⟨(fun _ => none), kcast (h0 t1_limbs t5_want t15 t16 w_ hJ0_) ?_, ?_⟩
    · kernel_rfl
    · exact (obl_seq rfl (obl_reg (obl_seq rfl (obl_cond (obl_skip (obl_exit (obl_seq rfl (obl_blk rfl (obl_seq rfl (obl_reg (obl_seq rfl (obl_quiet (by kernel_rfl) (by kernel_rfl) (by kernel_rfl) (by kernel_rfl) (obl_cond (obl_seq rfl (obl_reg (obl_ret (obl_skip (obl_reg trivial)))))))))))))))))))) (obl_seq rfl (obl_reg (obl_ret trivial)))))))))))))))))))

set_option maxRecDepth 100000 in
/-- (surd/surdref01.Num).Zero: function 29. -/
theorem surdref01_Num_Zero_vc (a0_a : Slc) (w : World) (R : Ending → World → Prop)
    
    (h : R (.returned (Value.bool ((a0_a.n : Int) == 0))) w) :
    Calls Try.prog 29 #[a0_a.v] w R := by
  refine calls_of_vc (fun _ => none) (by kernel_rfl) Try.func29 rfl ?_ ?_
  · refine kcast h ?_; kernel_rfl
  · exact (obl_seq rfl (obl_reg (obl_seq rfl (obl_reg (obl_ret trivial)))))

def surdref01_Cmp_cut (J0 : Slc → Slc → Int → World → Prop) (m0 : Slc → Slc → Int → World → Nat) : Nat → Option ((Act → World → Prop) × (Act → World → Nat))
  | 0 => some (fun a_ w_ => atSz a_ 41 (atS a_ 0 fun t0_a => atS a_ 1 fun t1_b => atI .i64 a_ 5 fun t5_i => J0 t0_a t1_b t5_i w_), fun a_ w_ => mS a_ 0 fun t0_a => mS a_ 1 fun t1_b => mI a_ 5 fun t5_i => m0 t0_a t1_b t5_i w_)
  | _ => none

set_option maxRecDepth 100000 in
/-- surd/surdref01.Cmp: function 28. -/
theorem surdref01_Cmp_vc (a0_a : Slc) (a1_b : Slc) (w : World) (R : Ending → World → Prop)
    (J0 : Slc → Slc → Int → World → Prop) (m0 : Slc → Slc → Int → World → Nat)
    (h : br ((a0_a.n : Int) != (a1_b.n : Int))
    (br (decide ((a0_a.n : Int) < (a1_b.n : Int)))
     (R (.returned (Value.int .i64 (-1))) w)
     (R (.returned (Value.int .i64 1)) w))
    (J0 a0_a a1_b (IntKind.i64.wrap ((a0_a.n : Int) - 1)) w))
    (h0 : ∀ (t0_a : Slc) (t1_b : Slc) (t5_i : Int) (w_ : World), J0 t0_a t1_b t5_i w_ → 
    br (decide (t5_i ≥ 0))
    (fixA Try.prog (Instr.indexAt 29 t0_a.v (Value.int .i64 t5_i)) w_ fun ad1 =>
     ldI .u64 ad1 w_ fun x1 =>
     fixA Try.prog (Instr.indexAt 29 t1_b.v (Value.int .i64 t5_i)) w_ fun ad2 =>
     ldI .u64 ad2 w_ fun x2 =>
     ∀ w1, Ahead w_ w1 →
     (br (decide (x1 < x2))
      (R (.returned (Value.int .i64 (-1))) w1)
      (fixA Try.prog (Instr.indexAt 29 t0_a.v (Value.int .i64 t5_i)) w1 fun ad3 =>
       ldI .u64 ad3 w1 fun x3 =>
       fixA Try.prog (Instr.indexAt 29 t1_b.v (Value.int .i64 t5_i)) w1 fun ad4 =>
       ldI .u64 ad4 w1 fun x4 =>
       ∀ w2, Ahead w1 w2 →
       (br (decide (x3 > x4))
        (R (.returned (Value.int .i64 1)) w2)
        (J0 t0_a t1_b (IntKind.i64.wrap (t5_i - 1)) w2 ∧
         m0 t0_a t1_b (IntKind.i64.wrap (t5_i - 1)) w2 < m0 t0_a t1_b t5_i w_)))))
    (R (.returned (Value.int .i64 0)) w_)) :
    Calls Try.prog 28 #[a0_a.v, a1_b.v] w R := by
  refine calls_of_vc (surdref01_Cmp_cut J0 m0) (by kernel_rfl) Try.func28 rfl ?_ ?_
  · refine kcast h ?_; kernel_rfl
  · exact (obl_seq rfl (obl_reg (obl_seq rfl (obl_seq rfl (obl_reg (obl_cond (obl_seq rfl (obl_seq rfl (obl_reg (obl_cond (obl_seq rfl (obl_reg (obl_ret (obl_skip (obl_seq rfl (obl_reg (obl_ret (obl_skip (obl_seq rfl (obl_seq rfl (obl_reg (obl_loop _ rfl (fun a_ w_ hL_ => (by
    obtain ⟨hz_, hd_, hL_⟩ := atSz_out hL_
    obtain ⟨t0_a, h0_, hL_⟩ := atS_out hL_
    obtain ⟨t1_b, h1_, hL_⟩ := atS_out hL_
    obtain ⟨t5_i, h5_, hL_⟩ := atI_out hL_
    obtain ⟨g0, rfl⟩ : ∃ g, a_ = Fr 41 [(0, t0_a.v), (1, t1_b.v), (5, Value.int .i64 t5_i)] g := ⟨_, fr_of hz_ hd_ [(0, t0_a.v), (1, t1_b.v), (5, Value.int .i64 t5_i)] (sel_cons h0_ (sel_cons h1_ (sel_cons h5_ sel_nil)))⟩
    clear hz_ hd_ h0_ h1_ h5_
    have hJ0_ := hL_
    refine ⟨(fun _ => none), kcast (h0 t0_a t1_b t5_i w_ hJ0_) ?_, ?_⟩
    · kernel_rfl
    · exact (obl_seq rfl (obl_seq rfl (obl_reg (obl_cond (obl_skip (obl_exit (obl_seq rfl (obl_blk rfl (obl_seq rfl (obl_seq rfl (obl_quiet (by kernel_rfl) (by kernel_rfl) (by kernel_rfl) (by kernel_rfl) (obl_cond (obl_seq rfl (obl_reg (obl_ret (obl_skip (obl_seq rfl (obl_quiet (by kernel_rfl) (by kernel_rfl) (by kernel_rfl) (by kernel_rfl) (obl_cond (obl_seq rfl (obl_reg (obl_ret (obl_skip (obl_reg trivial)))))))))))))))))))))))))) (obl_seq rfl (obl_reg (obl_ret trivial)))))))))))))))))))))))))

set_option maxRecDepth 100000 in
/-- (surd/surdref01.Num).at: function 51. -/
theorem surdref01_Num_at_vc (a0_a : Slc) (a1_i : Int) (w : World) (R : Ending → World → Prop)
    
    (h : br (decide (a1_i < (a0_a.n : Int)))
    (semA Try.prog (Instr.indexAt 29 a0_a.v (Value.int .i64 a1_i)) w fun ad1 w1 =>
     ldI .u64 ad1 w1 fun x1 =>
     R (.returned (Value.int .u64 x1)) w1)
    (R (.returned (Value.int .u64 0)) w)) :
    Calls Try.prog 51 #[a0_a.v, Value.int .i64 a1_i] w R := by
  refine calls_of_vc (fun _ => none) (by kernel_rfl) Try.func51 rfl ?_ ?_
  · refine kcast h ?_; kernel_rfl
  · exact (obl_seq rfl (obl_reg (obl_seq rfl (obl_seq rfl (obl_reg (obl_cond (obl_seq rfl (obl_reg (obl_ret (obl_skip (obl_seq rfl (obl_reg (obl_ret trivial)))))))))))))

def surdref01_Add_cut (J0 : Slc → Slc → Int → Slc → Int → Int → World → Prop) (m0 : Slc → Slc → Int → Slc → Int → Int → World → Nat) : Nat → Option ((Act → World → Prop) × (Act → World → Nat))
  | 0 => some (fun a_ w_ => atSz a_ 44 (atS a_ 0 fun t0_a => atS a_ 1 fun t1_b => atI .i64 a_ 5 fun t5_n => atS a_ 6 fun t6_out => atI .u64 a_ 7 fun t7_carry => atI .i64 a_ 8 fun t8_i => J0 t0_a t1_b t5_n t6_out t7_carry t8_i w_), fun a_ w_ => mS a_ 0 fun t0_a => mS a_ 1 fun t1_b => mI a_ 5 fun t5_n => mS a_ 6 fun t6_out => mI a_ 7 fun t7_carry => mI a_ 8 fun t8_i => m0 t0_a t1_b t5_n t6_out t7_carry t8_i w_)
  | _ => none

set_option maxRecDepth 100000 in
/-- surd/surdref01.Add: function 36. -/
theorem surdref01_Add_vc (a0_a : Slc) (a1_b : Slc) (w : World) (R : Ending → World → Prop)
    (J0 : Slc → Slc → Int → Slc → Int → Int → World → Prop) (m0 : Slc → Slc → Int → Slc → Int → Int → World → Nat)
    (h : br (decide ((a1_b.n : Int) > (a0_a.n : Int)))
    (semS Try.prog (Instr.makeSlice 29 (Value.int .i64 (IntKind.i64.wrap ((a1_b.n : Int) + 1))) (Value.int .i64 (IntKind.i64.wrap ((a1_b.n : Int) + 1)))) w fun s1 w1 =>
     J0 a0_a a1_b (a1_b.n : Int) s1 0 0 w1)
    (semS Try.prog (Instr.makeSlice 29 (Value.int .i64 (IntKind.i64.wrap ((a0_a.n : Int) + 1))) (Value.int .i64 (IntKind.i64.wrap ((a0_a.n : Int) + 1)))) w fun s3 w7 =>
     J0 a0_a a1_b (a0_a.n : Int) s3 0 0 w7))
    (h0 : ∀ (t0_a : Slc) (t1_b : Slc) (t5_n : Int) (t6_out : Slc) (t7_carry : Int) (t8_i : Int) (w_ : World), J0 t0_a t1_b t5_n t6_out t7_carry t8_i w_ → 
    br (decide (t8_i ≤ t5_n))
    (Calls Try.prog 51 #[t0_a.v, Value.int .i64 t8_i] w_ fun e1 w2 =>
     ∃ x1 : Int, e1 = .returned (Value.int .u64 x1) ∧
     (Calls Try.prog 51 #[t1_b.v, Value.int .i64 t8_i] w2 fun e2 w3 =>
      ∃ x2 : Int, e2 = .returned (Value.int .u64 x2) ∧
      (semA Try.prog (Instr.indexAt 29 t6_out.v (Value.int .i64 t8_i)) w3 fun ad1 w4 =>
       stC ad1 (Value.int .u64 (Int.tmod (IntKind.u64.wrap ((IntKind.u64.wrap (x1 + x2)) + t7_carry)) 4294967296)) w4 fun w5 =>
       J0 t0_a t1_b t5_n t6_out (IntKind.u64.wrap (Int.tdiv (IntKind.u64.wrap ((IntKind.u64.wrap (x1 + x2)) + t7_carry)) 4294967296)) (IntKind.i64.wrap (t8_i + 1)) w5 ∧
       m0 t0_a t1_b t5_n t6_out (IntKind.u64.wrap (Int.tdiv (IntKind.u64.wrap ((IntKind.u64.wrap (x1 + x2)) + t7_carry)) 4294967296)) (IntKind.i64.wrap (t8_i + 1)) w5 < m0 t0_a t1_b t5_n t6_out t7_carry t8_i w_)))
    (Calls Try.prog 48 #[t6_out.v] w_ fun e3 w6 =>
     ∃ s2 : Slc, e3 = .returned s2.v ∧
     (R (.returned s2.v) w6))) :
    Calls Try.prog 36 #[a0_a.v, a1_b.v] w R := by
  refine calls_of_vc (surdref01_Add_cut J0 m0) (by kernel_rfl) Try.func36 rfl ?_ ?_
  · refine kcast h ?_; kernel_rfl
  · exact (obl_seq rfl (obl_reg (obl_seq rfl (obl_reg (obl_seq rfl (obl_seq rfl (obl_reg (obl_cond (obl_reg (obl_skip (obl_seq rfl (obl_reg (obl_seq rfl (obl_reg (obl_seq rfl (obl_seq rfl (obl_reg (obl_loop _ rfl (fun a_ w_ hL_ => (by
    obtain ⟨hz_, hd_, hL_⟩ := atSz_out hL_
    obtain ⟨t0_a, h0_, hL_⟩ := atS_out hL_
    obtain ⟨t1_b, h1_, hL_⟩ := atS_out hL_
    obtain ⟨t5_n, h5_, hL_⟩ := atI_out hL_
    obtain ⟨t6_out, h6_, hL_⟩ := atS_out hL_
    obtain ⟨t7_carry, h7_, hL_⟩ := atI_out hL_
    obtain ⟨t8_i, h8_, hL_⟩ := atI_out hL_
    obtain ⟨g0, rfl⟩ : ∃ g, a_ = Fr 44 [(0, t0_a.v), (1, t1_b.v), (5, Value.int .i64 t5_n), (6, t6_out.v), (7, Value.int .u64 t7_carry), (8, Value.int .i64 t8_i)] g := ⟨_, fr_of hz_ hd_ [(0, t0_a.v), (1, t1_b.v), (5, Value.int .i64 t5_n), (6, t6_out.v), (7, Value.int .u64 t7_carry), (8, Value.int .i64 t8_i)] (sel_cons h0_ (sel_cons h1_ (sel_cons h5_ (sel_cons h6_ (sel_cons h7_ (sel_cons h8_ sel_nil))))))⟩
    clear hz_ hd_ h0_ h1_ h5_ h6_ h7_ h8_
    have hJ0_ := hL_
    refine ⟨(fun _ => none), kcast (h0 t0_a t1_b t5_n t6_out t7_carry t8_i w_ hJ0_) ?_, ?_⟩
    · kernel_rfl
    · exact (obl_seq rfl (obl_seq rfl (obl_reg (obl_cond (obl_skip (obl_exit (obl_seq rfl (obl_blk rfl (obl_seq rfl (obl_reg (obl_seq rfl (obl_reg (obl_reg (obl_reg trivial)))))))))))))))) (obl_seq rfl (obl_reg (obl_ret trivial)))))))))))))))))))))

def surdref01_Sub_cut (J0 : Slc → Slc → Slc → Int → Int → Int → World → Prop) (m0 : Slc → Slc → Slc → Int → Int → Int → World → Nat) : Nat → Option ((Act → World → Prop) × (Act → World → Nat))
  | 0 => some (fun a_ w_ => atSz a_ 39 (atS a_ 0 fun t0_a => atS a_ 1 fun t1_b => atS a_ 5 fun t5_out => atI .u64 a_ 6 fun t6_borrow => atI .i64 a_ 13 fun t13 => atI .i64 a_ 14 fun t14 => J0 t0_a t1_b t5_out t6_borrow t13 t14 w_), fun a_ w_ => mS a_ 0 fun t0_a => mS a_ 1 fun t1_b => mS a_ 5 fun t5_out => mI a_ 6 fun t6_borrow => mI a_ 13 fun t13 => mI a_ 14 fun t14 => m0 t0_a t1_b t5_out t6_borrow t13 t14 w_)
  | _ => none

set_option maxRecDepth 100000 in
/-- surd/surdref01.Sub: function 30. -/
theorem surdref01_Sub_vc (a0_a : Slc) (a1_b : Slc) (w : World) (R : Ending → World → Prop)
    (J0 : Slc → Slc → Slc → Int → Int → Int → World → Prop) (m0 : Slc → Slc → Slc → Int → Int → Int → World → Nat)
    (h : semS Try.prog (Instr.makeSlice 29 (Value.int .i64 (a0_a.n : Int)) (Value.int .i64 (a0_a.n : Int))) w fun s1 w1 =>
    J0 a0_a a1_b s1 0 (a0_a.n : Int) 0 w1)
    (h0 : ∀ (t0_a : Slc) (t1_b : Slc) (t5_out : Slc) (t6_borrow : Int) (t13 : Int) (t14 : Int) (w_ : World), J0 t0_a t1_b t5_out t6_borrow t13 t14 w_ → 
    br (decide (t14 < t13))
    (fixA Try.prog (Instr.indexAt 29 t0_a.v (Value.int .i64 t14)) w_.drew fun ad1 =>
     ldI .u64 ad1 w_.drew fun x1 =>
     Calls Try.prog 51 #[t1_b.v, Value.int .i64 t14] w_.drew fun e1 w2 =>
     ∃ x2 : Int, e1 = .returned (Value.int .u64 x2) ∧
     (Ahead w_.drew w2 ∧
      (semA Try.prog (Instr.indexAt 29 t5_out.v (Value.int .i64 t14)) w2 fun ad2 w3 =>
       stC ad2 (Value.int .u64 (Int.tmod (IntKind.u64.wrap ((IntKind.u64.wrap ((IntKind.u64.wrap (x1 + 4294967296)) - x2)) - t6_borrow)) 4294967296)) w3 fun w4 =>
       J0 t0_a t1_b t5_out (IntKind.u64.wrap (1 - (IntKind.u64.wrap (Int.tdiv (IntKind.u64.wrap ((IntKind.u64.wrap ((IntKind.u64.wrap (x1 + 4294967296)) - x2)) - t6_borrow)) 4294967296)))) t13 (IntKind.i64.wrap (t14 + 1)) w4 ∧
       m0 t0_a t1_b t5_out (IntKind.u64.wrap (1 - (IntKind.u64.wrap (Int.tdiv (IntKind.u64.wrap ((IntKind.u64.wrap ((IntKind.u64.wrap (x1 + 4294967296)) - x2)) - t6_borrow)) 4294967296)))) t13 (IntKind.i64.wrap (t14 + 1)) w4 < m0 t0_a t1_b t5_out t6_borrow t13 t14 w_)))
    (Calls Try.prog 48 #[t5_out.v] w_ fun e2 w5 =>
     ∃ s2 : Slc, e2 = .returned s2.v ∧
     (R (.returned s2.v) w5))) :
    Calls Try.prog 30 #[a0_a.v, a1_b.v] w R := by
  refine calls_of_vc (surdref01_Sub_cut J0 m0) (by kernel_rfl) Try.func30 rfl ?_ ?_
  · refine kcast h ?_; kernel_rfl
  · exact (obl_seq rfl (obl_reg (obl_seq rfl (obl_reg (obl_seq rfl (obl_reg (obl_seq rfl (obl_seq rfl (obl_reg (obl_loop _ rfl (fun a_ w_ hL_ => (by
    obtain ⟨hz_, hd_, hL_⟩ := atSz_out hL_
    obtain ⟨t0_a, h0_, hL_⟩ := atS_out hL_
    obtain ⟨t1_b, h1_, hL_⟩ := atS_out hL_
    obtain ⟨t5_out, h5_, hL_⟩ := atS_out hL_
    obtain ⟨t6_borrow, h6_, hL_⟩ := atI_out hL_
    obtain ⟨t13, h13_, hL_⟩ := atI_out hL_
    obtain ⟨t14, h14_, hL_⟩ := atI_out hL_
    obtain ⟨g0, rfl⟩ : ∃ g, a_ = Fr 39 [(0, t0_a.v), (1, t1_b.v), (5, t5_out.v), (6, Value.int .u64 t6_borrow), (13, Value.int .i64 t13), (14, Value.int .i64 t14)] g := ⟨_, fr_of hz_ hd_ [(0, t0_a.v), (1, t1_b.v), (5, t5_out.v), (6, Value.int .u64 t6_borrow), (13, Value.int .i64 t13), (14, Value.int .i64 t14)] (sel_cons h0_ (sel_cons h1_ (sel_cons h5_ (sel_cons h6_ (sel_cons h13_ (sel_cons h14_ sel_nil))))))⟩
    clear hz_ hd_ h0_ h1_ h5_ h6_ h13_ h14_
    have hJ0_ := hL_
    refine ⟨(fun _ => none), kcast (h0 t0_a t1_b t5_out t6_borrow t13 t14 w_ hJ0_) ?_, ?_⟩
    · kernel_rfl
    · exact (obl_seq rfl (obl_reg (obl_seq rfl (obl_cond (obl_skip (obl_exit (obl_seq rfl (obl_blk rfl (obl_seq rfl (obl_reg (obl_seq rfl (obl_held (by kernel_rfl) (by kernel_rfl) (by kernel_rfl) (obl_seq rfl (obl_reg (obl_reg (obl_reg trivial)))))))))))))))))) (obl_seq rfl (obl_reg (obl_ret trivial)))))))))))))

def surdref01_Shl_cut (J0 : Int → Slc → Int → Slc → Int → Int → World → Prop) (m0 : Int → Slc → Int → Slc → Int → Int → World → Nat) : Nat → Option ((Act → World → Prop) × (Act → World → Nat))
  | 0 => some (fun a_ w_ => atSz a_ 55 (atI .i64 a_ 1 fun t1_n => atS a_ 5 fun t5_out => atI .i64 a_ 6 fun t6_s => atS a_ 21 fun t21 => atI .i64 a_ 22 fun t22 => atI .i64 a_ 23 fun t23 => J0 t1_n t5_out t6_s t21 t22 t23 w_), fun a_ w_ => mI a_ 1 fun t1_n => mS a_ 5 fun t5_out => mI a_ 6 fun t6_s => mS a_ 21 fun t21 => mI a_ 22 fun t22 => mI a_ 23 fun t23 => m0 t1_n t5_out t6_s t21 t22 t23 w_)
  | _ => none

set_option maxRecDepth 100000 in
/-- surd/surdref01.Shl: function 70. -/
theorem surdref01_Shl_vc (a0_a : Slc) (a1_n : Int) (w : World) (R : Ending → World → Prop)
    (J0 : Int → Slc → Int → Slc → Int → Int → World → Prop) (m0 : Int → Slc → Int → Slc → Int → Int → World → Nat)
    (h : br ((a0_a.n : Int) == 0)
    (R (.returned ((⟨none, 0, 0⟩ : Slc).v)) w)
    (semS Try.prog (Instr.makeSlice 29 (Value.int .i64 (IntKind.i64.wrap ((IntKind.i64.wrap ((a0_a.n : Int) + (IntKind.i64.wrap (Int.tdiv a1_n 32)))) + 1))) (Value.int .i64 (IntKind.i64.wrap ((IntKind.i64.wrap ((a0_a.n : Int) + (IntKind.i64.wrap (Int.tdiv a1_n 32)))) + 1)))) w fun s1 w1 =>
     J0 a1_n s1 (Int.tmod a1_n 32) a0_a (a0_a.n : Int) 0 w1))
    (h0 : ∀ (t1_n : Int) (t5_out : Slc) (t6_s : Int) (t21 : Slc) (t22 : Int) (t23 : Int) (w_ : World), J0 t1_n t5_out t6_s t21 t22 t23 w_ → 
    br (decide (t23 < t22))
    (semA Try.prog (Instr.indexAt 29 t21.v (Value.int .i64 t23)) w_ fun ad1 w2 =>
     ldI .u64 ad1 w2 fun x1 =>
     fixA Try.prog (Instr.indexAt 29 t5_out.v (Value.int .i64 (IntKind.i64.wrap (t23 + (IntKind.i64.wrap (Int.tdiv t1_n 32)))))) w2 fun ad2 =>
     ldI .u64 ad2 w2 fun x2 =>
     fixI Try.prog .u64 (binOp .shl 49 (Value.int .u64 x1) (Value.int .i64 t6_s)) w2 fun x3 =>
     fixA Try.prog (Instr.indexAt 29 t5_out.v (Value.int .i64 (IntKind.i64.wrap (t23 + (IntKind.i64.wrap (Int.tdiv t1_n 32)))))) w2 fun ad3 =>
     stC ad3 (Value.int .u64 (IntKind.u64.wrap (x2 + (Int.tmod x3 4294967296)))) w2.drew fun w3 =>
     semI Try.prog .u64 (binOp .shl 49 (Value.int .u64 x1) (Value.int .i64 t6_s)) w3 fun x4 w4 =>
     semA Try.prog (Instr.indexAt 29 t5_out.v (Value.int .i64 (IntKind.i64.wrap ((IntKind.i64.wrap (t23 + (IntKind.i64.wrap (Int.tdiv t1_n 32)))) + 1)))) w4 fun ad4 w5 =>
     stC ad4 (Value.int .u64 (IntKind.u64.wrap (Int.tdiv x4 4294967296))) w5 fun w6 =>
     J0 t1_n t5_out t6_s t21 t22 (IntKind.i64.wrap (t23 + 1)) w6 ∧
     m0 t1_n t5_out t6_s t21 t22 (IntKind.i64.wrap (t23 + 1)) w6 < m0 t1_n t5_out t6_s t21 t22 t23 w_)
    (Calls Try.prog 48 #[t5_out.v] w_ fun e1 w7 =>
     ∃ s2 : Slc, e1 = .returned s2.v ∧
     (R (.returned s2.v) w7))) :
    Calls Try.prog 70 #[a0_a.v, Value.int .i64 a1_n] w R := by
  refine calls_of_vc (surdref01_Shl_cut J0 m0) (by kernel_rfl) Try.func70 rfl ?_ ?_
  · refine kcast h ?_; kernel_rfl
  · exact (obl_seq rfl (obl_reg (obl_seq rfl (obl_seq rfl (obl_reg (obl_cond (obl_seq rfl (obl_reg (obl_ret (obl_skip (obl_seq rfl (obl_reg (obl_seq rfl (obl_reg (obl_seq rfl (obl_seq rfl (obl_reg (obl_loop _ rfl (fun a_ w_ hL_ => (by
    obtain ⟨hz_, hd_, hL_⟩ := atSz_out hL_
    obtain ⟨t1_n, h1_, hL_⟩ := atI_out hL_
    obtain ⟨t5_out, h5_, hL_⟩ := atS_out hL_
    obtain ⟨t6_s, h6_, hL_⟩ := atI_out hL_
    obtain ⟨t21, h21_, hL_⟩ := atS_out hL_
    obtain ⟨t22, h22_, hL_⟩ := atI_out hL_
    obtain ⟨t23, h23_, hL_⟩ := atI_out hL_
    obtain ⟨g0, rfl⟩ : ∃ g, a_ = Fr 55 [(1, Value.int .i64 t1_n), (5, t5_out.v), (6, Value.int .i64 t6_s), (21, t21.v), (22, Value.int .i64 t22), (23, Value.int .i64 t23)] g := ⟨_, fr_of hz_ hd_ [(1, Value.int .i64 t1_n), (5, t5_out.v), (6, Value.int .i64 t6_s), (21, t21.v), (22, Value.int .i64 t22), (23, Value.int .i64 t23)] (sel_cons h1_ (sel_cons h5_ (sel_cons h6_ (sel_cons h21_ (sel_cons h22_ (sel_cons h23_ sel_nil))))))⟩
    clear hz_ hd_ h1_ h5_ h6_ h21_ h22_ h23_
    have hJ0_ := hL_
    refine ⟨(fun _ => none), kcast (h0 t1_n t5_out t6_s t21 t22 t23 w_ hJ0_) ?_, ?_⟩
    · kernel_rfl
    · exact (obl_seq rfl (obl_reg (obl_seq rfl (obl_cond (obl_skip (obl_exit (obl_seq rfl (obl_blk rfl (obl_seq rfl (obl_reg (obl_seq rfl (obl_tail 13 (by kernel_rfl) (by kernel_rfl) (by kernel_rfl) (by kernel_rfl) (by kernel_rfl) (obl_reg (obl_reg trivial)))))))))))))))) (obl_seq rfl (obl_reg (obl_ret trivial)))))))))))))))))))))

end Go.Proofs.Ytflipimlpgbnmaa
namespace Go.Proofs.Ytflipimlpgbnmaa
open Go Go.RowKit Eng Sp Dg
set_option linter.unusedVariables false
set_option linter.unusedSimpArgs false
set_option maxRecDepth 100000
namespace Sp
section
variable {P : Program} {t e : TypeId} {k : IntKind}
/-- append of what reads as ys, onto a row of the call's own that has room for it. -/
theorem appRoom (hT : isSl P t k = some e) {w : World} {s x : Slc} {l ys : List Int} {ty : TypeId} {b : Nat} (hx : Rd k w x ys) (hy : 0 < ys.length)
    (hs : Owr k e w s l b) (hroom : l.length + ys.length ≤ s.c) {K : Slc → World → Prop}
    (hk : ∀ s' w', s'.c = s.c → Owr k e w' s' (l ++ ys) b → (∀ w0, Ahead w0 w → w0.heap.size ≤ b → Ahead w0 w') → K s' w') :
    semS P (Builtin.append_ #[t, t] ty #[s.v, x.v]) w fun s' w' => K s' w' := by
  obtain ⟨hu, he, inf, hi, hs1, hb8, hz⟩ := isSl_out hT
  obtain ⟨ad, hA, _⟩ := hx.get 0 hy
  obtain ⟨sp, hc, hh⟩ := hs.mem
  have hr := run_append_room (P := P) w t ty e inf hu hi b l.length s.c (ints k l ++ sp).toArray hh ad ys.length x.c (ints k ys) (by simp [ints, hs1])
    (fun j u hj => by
      have hj' : j < ys.length := by
        have := (List.getElem?_eq_some_iff.1 hj).1
        simpa [ints] using this
      obtain ⟨ad', e', hcc⟩ := hx.get j hj'
      rw [hA] at e'
      obtain rfl := Option.some.inj e'
      rw [ints_get hj'] at hj
      obtain rfl := Option.some.inj hj
      exact hcc) (by simp [ints, Value.oneCell']) hroom (by simp [ints, hs1]; omega)
  have hxv : x.v = .slice (some ad) ys.length x.c := by rw [Slc.v, hA, hx.n]
  have hsv : s.v = .slice (some ⟨b, 0, none⟩) l.length s.c := by rw [Slc.v, hs.A, hs.n]
  unfold semS
  rw [Sem.wp_iff_run, hxv, hsv, hr]
  refine ⟨⟨some ⟨b, 0, none⟩, l.length + ys.length, s.c⟩, rfl, hk _ _ rfl ⟨by simp, sp.drop ys.length, by simp; omega, ?_⟩ fun w0 ha hb => Below.trans ha ⟨rfl, rfl, rfl, by simp [World.setRow], fun k hk => setRow_other w b k _ (by omega)⟩⟩
  rw [setRow_heap w b _ _ e (0, 0) hh]
  simp [hs1, ints]
  rw [List.drop_append]
  simp
end
end Sp
namespace Ref
open _root_.Go.Proofs.Ytflipimlpgbnmaa.Nat (ldN ldNf stN mkN cutHi cutCap Fill mkF stF stFf Num)

/-- The slice reads as the number's digits of 32 bits. -/
def RN (w : World) (s : Slc) (n : Nat) : Prop := Rd .u64 w s (nn (digs B32 n))
theorem RN.ahead {w w' : World} {s : Slc} {n : Nat} (h : RN w s n) (ha : Ahead w w') : RN w' s n := Rd.ahead h ha
theorem RN.n {w : World} {s : Slc} {n : Nat} (h : RN w s n) : s.n = (digs B32 n).length := by rw [Rd.n h, nn_length]
theorem RN.nil {w : World} {A : Option Addr} {c : Nat} : RN w ⟨A, 0, c⟩ 0 := by unfold RN; rw [digs_zero]; exact Rd.nil

theorem norm_specA {w : World} {s : Slc} {l : List Nat} (h : Rd .u64 w s (nn l)) (hl : l.length ≤ 2 ^ 46) (hok : ok B32 l) :
    Calls pr surdref01_norm_id #[s.v] w fun e w' => w' = w ∧ ∃ s', e = .returned (Slc.v s') ∧ RN w s' (val B32 l) ∧ s'.A = s.A := by
  have hn : s.n = l.length := by rw [h.n, nn_length]
  have hc := h.c
  refine surdref01_norm_vc s w _ (fun t n w' => w' = w ∧ t = s ∧ ∃ m : Nat, n = (m : Int) ∧ m ≤ l.length ∧ ∀ i, m ≤ i → i < l.length → l.getD i 0 = 0) (fun _ n _ => n.toNat)
    ⟨rfl, rfl, s.n, rfl, by omega, fun i h1 h2 => by omega⟩ ?_
  rintro t n w' ⟨rfl, rfl, m, rfl, hm, hz⟩
  have fin : (m = 0 ∨ l.getD (m - 1) 0 ≠ 0) → semS pr (Instr.sliceAt 29 t.v none (some (Value.int .i64 (m : Int))) (some (Value.int .i64 (m : Int)))) w' fun s2 w3 =>
      w3 = w' ∧ ∃ s', Ending.returned s2.v = .returned (Slc.v s') ∧ RN w' s' (val B32 l) ∧ s'.A = t.A := by
    intro hlast
    refine cutCap (by omega) (by omega) ?_
    refine ⟨rfl, _, rfl, ?_, rfl⟩
    unfold RN
    rw [digs_take two32 hok hm hz hlast, ← nn_take]
    simp only [Int.toNat_natCast]
    exact h.take (by simpa using hm) (Nat.le_refl _)
  refine br_intro (fun hp => ?_) (fun hp => ?_)
  · have hp' : 0 < m := by simp at hp; omega
    rw [wrap_i64 (x := (m : Int) - 1) (by omega) (by omega)]
    refine ldN h (by omega) (by omega) ?_
    have e2 : ((m : Int) - 1).toNat = m - 1 := by omega
    rw [e2]
    refine br_intro (fun hx => ?_) (fun hx => ?_)
    · refine ⟨⟨rfl, rfl, m - 1, by omega, by omega, fun i h1 h2 => ?_⟩, by omega⟩
      by_cases hi : i = m - 1
      · subst hi; simpa using hx
      · exact hz i (by omega) h2
    · exact fin (.inr (by simpa using hx))
  · exact fin (.inl (by simp at hp; omega))
theorem norm_spec {w : World} {s : Slc} {l : List Nat} (h : Rd .u64 w s (nn l)) (hl : l.length ≤ 2 ^ 46) (hok : ok B32 l) :
    Calls pr surdref01_norm_id #[s.v] w fun e w' => w' = w ∧ ∃ s', e = .returned (Slc.v s') ∧ RN w s' (val B32 l) :=
  Calls.mono (norm_specA h hl hok) fun e w' ⟨h1, s', h2, h3, _⟩ => ⟨h1, s', h2, h3⟩

theorem at_spec {w : World} {s : Slc} {l : List Nat} (h : Rd .u64 w s (nn l)) {i : Int} (h0 : 0 ≤ i) :
    Calls pr surdref01_Num_at_id #[s.v, .int .i64 i] w fun e w' => w' = w ∧ e = .returned (.int .u64 (l.getD i.toNat 0 : Nat)) := by
  have hn : s.n = l.length := by rw [h.n, nn_length]
  refine surdref01_Num_at_vc s i w _ (br_intro (fun hlt => ?_) (fun hge => ?_))
  · have hlt' : i < l.length := by simp at hlt; omega
    exact ldN h h0 hlt' ⟨rfl, rfl⟩
  · refine ⟨rfl, ?_⟩
    rw [getD_ge l 0 (by simp at hge; omega)]; rfl

theorem zero_spec {w : World} {s : Slc} {n : Nat} (h : RN w s n) :
    Calls pr surdref01_Num_Zero_id #[s.v] w fun e w' => w' = w ∧ e = .returned (.bool (decide (n = 0))) := by
  refine surdref01_Num_Zero_vc s w _ ⟨rfl, ?_⟩
  have := h.n
  congr 2
  by_cases hn : n = 0
  · subst hn; rw [digs_zero] at this; simp [this]
  · have h2 := List.length_pos_iff.2 (digs_ne_nil two32 hn)
    have : s.n ≠ 0 := by omega
    simp [hn, this]

/-- A base 2^32: the limbs' list as digits. -/
def split32 : List Nat → List Nat
  | [] => []
  | x :: l => x % B32 :: x / B32 :: split32 l
theorem split32_append (l m : List Nat) : split32 (l ++ m) = split32 l ++ split32 m := by
  induction l with
  | nil => rfl
  | cons x l ih => simp [split32, ih]
theorem split32_length (l : List Nat) : (split32 l).length = 2 * l.length := by
  induction l with
  | nil => rfl
  | cons x l ih => simp [split32, ih]; omega
theorem split32_ok {l : List Nat} (h : ok B64 l) : ok B32 (split32 l) := by
  have hB := B64v
  induction l with
  | nil => exact ok_nil
  | cons x l ih =>
    obtain ⟨h1, h2⟩ := ok_cons.1 h
    exact ok_cons.2 ⟨by simp only [B32v]; omega, ok_cons.2 ⟨by simp only [B32v]; omega, ih h2⟩⟩
theorem split32_val (l : List Nat) : val B32 (split32 l) = val B64 l := by
  have h64 : B64 = B32 * B32 := by decide
  induction l with
  | nil => rfl
  | cons x l ih =>
    show x % B32 + B32 * (x / B32 + B32 * val B32 (split32 l)) = x + B64 * val B64 l
    rw [ih, Nat.mul_add, ← Nat.mul_assoc, ← h64, ← Nat.add_assoc, Nat.mod_add_div]

theorem Of_specT {w : World} {s : Slc} {l : List Nat} (h : Rd .u64 w s (nn l)) (hl : l.length * 8 ≤ 140737488351232) (hok : ok B64 l) :
    Calls pr surdref01_Of_id #[s.v] w fun e w' => Ahead w w' ∧ ∃ s', e = .returned (Slc.v s') ∧ RN w' s' (val B64 l) ∧ ∀ ad, s'.A = some ad → w.heap.size ≤ ad.block ∧ ∃ cs m, w'.heap[ad.block]? = some (.cells cs tU64 m) := by
  have hB := B64v
  have hB32 := B32v
  have hn : s.n = l.length := by rw [h.n, nn_length]
  refine surdref01_Of_vc s w _ (fun out t10 n i w' => t10 = s ∧ n = (l.length : Int) ∧ Ahead w w' ∧ ∃ (j b : Nat), i = (j : Int) ∧ j ≤ l.length ∧ w.heap.size ≤ b ∧ out.c = 2 * l.length ∧
    Owr .u64 tU64 w' out (nn (split32 (l.take j))) b) (fun _ _ n i _ => (n - i).toNat) ?_ ?_
  · rw [hn, wrap_i64 (by omega) (by omega)]
    refine mk (e := tU64) (k := .u64) (by kernel_rfl) (Int.le_refl 0) (by omega) (by omega) ?_
    intro s' w' hc ho ha hs
    exact ⟨rfl, rfl, ha, 0, w.heap.size, rfl, Nat.zero_le _, Nat.le_refl _, by rw [hc]; omega, ho⟩
  · rintro out t10 n i w1 ⟨rfl, rfl, ha, j, b, rfl, hj, hb, hoc, ho⟩
    refine br_intro (fun hlt => ?_) (fun hge => ?_)
    · have hj' : j < l.length := by simpa using hlt
      refine ldN (h.ahead ha) (by omega) (by omega) ?_
      have hx := ok_getD hok (by omega : 0 < B64) j
      simp only [Int.toNat_natCast]
      generalize hxe : l.getD j 0 = x at *
      have e1 : Int.tmod (x : Int) 4294967296 = ((x % B32 : Nat) : Int) := by rw [B32v, Int.tmod_eq_emod_of_nonneg (by omega)]; omega
      have e2 : IntKind.u64.wrap (Int.tdiv (x : Int) 4294967296) = ((x / B32 : Nat) : Int) := by
        have : Int.tdiv (x : Int) 4294967296 = ((x / 4294967296 : Nat) : Int) := by rw [Int.tdiv_eq_ediv_of_nonneg (by omega)]; omega
        rw [B32v, this, wrap_u64' (by omega) (by omega)]
      rw [e1, e2]
      have hal := Ahead.alloc w1 (.cells #[Value.int .u64 ((x % B32 : Nat) : Int), Value.int .u64 ((x / B32 : Nat) : Int)] tU64 (0, 0))
      have hlit : Rd .u64 (w1.alloc (.cells #[Value.int .u64 ((x % B32 : Nat) : Int), Value.int .u64 ((x / B32 : Nat) : Int)] tU64 (0, 0))) ⟨some ⟨w1.heap.size, 0, none⟩, 2, 2⟩ (nn [x % B32, x / B32]) :=
        Owr.rd (t := tU64) (b := w1.heap.size) ⟨rfl, [], rfl, by rw [get_alloc]; rfl⟩
      refine appRoom (t := _) (e := tU64) (k := .u64) (by kernel_rfl) hlit (by simp) (ho.ahead hal) (by rw [hoc, nn_length, split32_length, nn_length]; simp; omega) ?_
      intro s' w4 hc' ho' hah
      have e8 : IntKind.i64.wrap ((j : Int) + 1) = ((j + 1 : Nat) : Int) := by rw [wrap_i64 (by omega) (by omega)]; omega
      refine ⟨⟨by trivial, by trivial, hah w (ha.trans hal) hb, j + 1, b, e8, hj', hb, by rw [hc', hoc], ?_⟩, by rw [e8]; omega⟩
      rw [List.take_succ_eq_append_getElem hj', split32_append, nn_append]
      have : l[j] = x := by rw [← hxe]; exact (getD_lt l 0 hj').symm
      rw [this]
      exact ho'
    · have hj' : j = l.length := by simp at hge; omega
      subst hj'
      rw [List.take_length] at ho
      refine Calls.mono (norm_specA ho.rd (by rw [split32_length]; omega) (split32_ok hok)) ?_
      rintro e w5 ⟨rfl, s', rfl, hr, hA⟩
      rw [split32_val] at hr
      refine ⟨_, rfl, ha, _, rfl, hr, fun ad e => ?_⟩
      rw [hA, ho.A] at e
      have := Option.some.inj e
      subst this
      obtain ⟨sp, _, hh⟩ := ho.mem
      exact ⟨hb, _, _, hh⟩
theorem Of_specN {w : World} {s : Slc} {l : List Nat} (h : Rd .u64 w s (nn l)) (hl : l.length * 8 ≤ 140737488351232) (hok : ok B64 l) :
    Calls pr surdref01_Of_id #[s.v] w fun e w' => Ahead w w' ∧ ∃ s', e = .returned (Slc.v s') ∧ RN w' s' (val B64 l) ∧ ∀ ad, s'.A = some ad → w.heap.size ≤ ad.block :=
  Calls.mono (Of_specT h hl hok) fun e w' ⟨h1, s', h2, h3, h4⟩ => ⟨h1, s', h2, h3, fun ad e => (h4 ad e).1⟩
theorem Of_spec {w : World} {s : Slc} {l : List Nat} (h : Rd .u64 w s (nn l)) (hl : l.length * 8 ≤ 140737488351232) (hok : ok B64 l) :
    Calls pr surdref01_Of_id #[s.v] w fun e w' => Ahead w w' ∧ ∃ s', e = .returned (Slc.v s') ∧ RN w' s' (val B64 l) :=
  Calls.mono (Of_specN h hl hok) fun e w' ⟨h1, s', h2, h3, _⟩ => ⟨h1, s', h2, h3⟩

end Ref
end Go.Proofs.Ytflipimlpgbnmaa
namespace Go.Proofs.Ytflipimlpgbnmaa
open Go Go.RowKit Eng Sp Dg
set_option linter.unusedVariables false
set_option linter.unusedSimpArgs false
set_option maxRecDepth 100000
namespace Ref
open _root_.Go.Proofs.Ytflipimlpgbnmaa.Nat (ldN ldNf stN mkN cutHi cutCap Fill mkF stF stFf Num OwnNil)

theorem Cmp_spec {w : World} {p q : Slc} {x y : Nat} (hp : RN w p x) (hq : RN w q y) (la : (digs B32 x).length ≤ 2 ^ 46) (lb : (digs B32 y).length ≤ 2 ^ 46) :
    Calls pr surdref01_Cmp_id #[p.v, q.v] w fun e w' => Ahead w w' ∧ e = .returned (.int .i64 (cmpI x y)) := by
  have hna := hp.n
  have hnb := hq.n
  refine surdref01_Cmp_vc p q w _ (fun s t i w' => Ahead w w' ∧ s = p ∧ t = q ∧ (digs B32 x).length = (digs B32 y).length ∧ ∃ m : Nat, i = (m : Int) - 1 ∧ m ≤ (digs B32 x).length ∧ (digs B32 x).drop m = (digs B32 y).drop m) (fun _ _ i _ => (i + 1).toNat) ?_ ?_
  · refine br_intro (fun hne => ?_) (fun heq => ?_)
    · refine br_intro (fun hlt => ?_) (fun hlt => ?_)
      · refine ⟨Ahead.refl _, ?_⟩
        have := digs_len_lt two32 (m := x) (n := y) (by simp at hlt; omega)
        rw [cmpI, if_pos this]
      · refine ⟨Ahead.refl _, ?_⟩
        have := digs_len_lt two32 (m := y) (n := x) (by simp at hlt hne; omega)
        rw [cmpI, if_neg (by omega), if_pos this]
    · have heq' : p.n = q.n := by simp at heq; omega
      refine ⟨Ahead.refl _, rfl, rfl, by omega, p.n, wrap_i64 (by omega) (by omega), by omega, ?_⟩
      rw [List.drop_eq_nil_of_le (by omega), List.drop_eq_nil_of_le (by omega)]
  · rintro s t i w' ⟨ha, rfl, rfl, hl, m, rfl, hm, hdr⟩
    have hs := hp.ahead ha
    have ht := hq.ahead ha
    refine br_intro (fun h0 => ?_) (fun h0 => ?_)
    · have hm1 : 1 ≤ m := by simp at h0; omega
      have e2 : ((m : Int) - 1).toNat = m - 1 := by omega
      refine ldNf hs (by omega) (by omega) ?_
      refine ldNf ht (by omega) (by omega) ?_
      intro w3 ha3
      rw [e2]
      have hdr' : (digs B32 x).drop (m - 1 + 1) = (digs B32 y).drop (m - 1 + 1) := by rw [Nat.sub_add_cancel hm1]; exact hdr
      refine br_intro (fun hlt => ?_) (fun hlt => ?_)
      · refine ⟨ha.trans ha3, ?_⟩
        have := val_lt_top (ok_digs two32 x) (by omega) (by omega) hdr' (by simpa using hlt)
        rw [val_digs two32, val_digs two32] at this
        rw [cmpI, if_pos this]
      · refine ldNf (hs.ahead ha3) (by omega) (by omega) ?_
        refine ldNf (ht.ahead ha3) (by omega) (by omega) ?_
        intro w4 ha4
        rw [e2]
        refine br_intro (fun hgt => ?_) (fun hgt => ?_)
        · refine ⟨(ha.trans ha3).trans ha4, ?_⟩
          have := val_lt_top (ok_digs two32 y) (by omega) (by omega) hdr'.symm (by simpa using hgt)
          rw [val_digs two32, val_digs two32] at this
          rw [cmpI, if_neg (by omega), if_pos this]
        · have e3 : IntKind.i64.wrap ((m : Int) - 1 - 1) = ((m - 1 : Nat) : Int) - 1 := by rw [wrap_i64 (by omega) (by omega)]; omega
          refine ⟨⟨(ha.trans ha3).trans ha4, rfl, rfl, hl, m - 1, e3, by omega, ?_⟩, by rw [e3]; omega⟩
          have heq : (digs B32 x).getD (m - 1) 0 = (digs B32 y).getD (m - 1) 0 := by
            simp only [decide_eq_false_iff_not] at hlt hgt; omega
          have l1 : m - 1 < (digs B32 x).length := by omega
          have l2 : m - 1 < (digs B32 y).length := by omega
          rw [List.drop_eq_getElem_cons l1, List.drop_eq_getElem_cons l2, hdr', ← getD_lt _ 0 l1, ← getD_lt _ 0 l2, heq]
    · have hm0 : m = 0 := by simp at h0; omega
      subst hm0
      refine ⟨ha, ?_⟩
      have := digs_inj two32 (m := x) (n := y) (by simpa using hdr)
      rw [this, cmpI, if_neg (by omega), if_neg (by omega)]

theorem digs_lt_iff {B n j : Nat} (hB : 2 ≤ B) : j < (digs B n).length ↔ B ^ j ≤ n := by
  by_cases hn : n = 0
  · subst hn
    rw [digs_zero]
    have : 0 < B ^ j := Nat.pow_pos (by omega)
    simp; omega
  · obtain ⟨h1, h2⟩ := digs_length_bounds hB hn
    constructor
    · intro h
      exact Nat.le_trans (Nat.pow_le_pow_right (by omega) (by omega)) h1
    · intro h
      exact (Nat.pow_lt_pow_iff_right (by omega)).1 (Nat.lt_of_le_of_lt h h2)
theorem b64_sq (j : Nat) : B64 ^ j = B32 ^ (2 * j) := by rw [show B64 = B32 ^ 2 by decide, ← Nat.pow_mul]
theorem digs_64_32 {n j : Nat} : j < (digs B64 n).length ↔ 2 * j < (digs B32 n).length := by
  rw [digs_lt_iff two64, digs_lt_iff two32, b64_sq]
theorem limb_eq (n j : Nat) : (digs B64 n).getD j 0 = (digs B32 n).getD (2 * j) 0 + (digs B32 n).getD (2 * j + 1) 0 * B32 := by
  rw [digit (by have := B64v; omega) _ (ok_digs two64 n), digit (by have := B32v; omega) _ (ok_digs two32 n), digit (by have := B32v; omega) _ (ok_digs two32 n), val_digs two64, val_digs two32, b64_sq, Nat.pow_succ, ← Nat.div_div_eq_div_mul]
  generalize n / B32 ^ (2 * j) = U
  rw [show B64 = B32 * B32 by decide, Nat.mod_mul, Nat.mul_comm B32]

theorem Limbs_spec {w : World} {s : Slc} {n : Nat} (h : RN w s n) (hl : (digs B64 n).length ≤ 2 ^ 44) :
    Calls pr surdref01_Num_Limbs_id #[s.v] w fun e w' => Ahead w w' ∧ ∃ s', e = .returned (Slc.v s') ∧ OwnNil w.heap.size w' s' (digs B64 n) := by
  have hB := B64v
  have hB32 := B32v
  have hn := h.n
  have hok := ok_digs two32 n
  have hbnd : (digs B32 n).length ≤ 2 ^ 45 := by
    rcases Nat.lt_or_ge (2 ^ 45) (digs B32 n).length with h1 | h1
    · have := digs_64_32 (n := n) (j := 2 ^ 44)
      omega
    · exact h1
  refine surdref01_Num_Limbs_vc s w _ (fun t out i w' => t = s ∧ Ahead w w' ∧ ∃ j : Nat, i = 2 * (j : Int) ∧ j ≤ (digs B64 n).length ∧ OwnNil w.heap.size w' out ((digs B64 n).take j)) (fun _ _ i _ => (2 * ((digs B64 n).length : Int) - i).toNat)
    ⟨rfl, Ahead.refl _, 0, rfl, Nat.zero_le _, OwnNil.nil⟩ ?_
  rintro t out i w1 ⟨rfl, ha, j, rfl, hj, ho⟩
  have hiff := digs_64_32 (n := n) (j := j)
  refine br_intro (fun hlt => ?_) (fun hge => ?_)
  · have hj' : 2 * j < (digs B32 n).length := by simp at hlt; omega
    have hjj := hiff.2 hj'
    have hlimb := limb_eq n j
    have hx := ok_getD hok (by omega : 0 < B32) (2 * j)
    have hy := ok_getD hok (by omega : 0 < B32) (2 * j + 1)
    have hL := ok_getD (ok_digs two64 n) (by omega : 0 < B64) j
    have e8 : IntKind.i64.wrap (2 * (j : Int) + 2) = 2 * ((j + 1 : Nat) : Int) := by rw [wrap_i64 (by omega) (by omega)]; omega
    have e9 : IntKind.i64.wrap (2 * (j : Int) + 1) = ((2 * j + 1 : Nat) : Int) := by rw [wrap_i64 (by omega) (by omega)]; omega
    have ei : (2 * (j : Int)).toNat = 2 * j := by omega
    have step : ∀ (T : TypeId) (hT : isSl pr T .u64 = some tU64) (v : Nat), v = (digs B64 n).getD j 0 → newC w1 #[Value.int .u64 (v : Int)] tU64 fun ad3 w3 =>
        semS pr (Builtin.append_ #[T, T] T #[out.v, (⟨some ad3, 1, 1⟩ : Slc).v]) w3 fun s1 w4 =>
        (t = t ∧ Ahead w w4 ∧ ∃ j' : Nat, IntKind.i64.wrap (2 * (j : Int) + 2) = 2 * (j' : Int) ∧ j' ≤ (digs B64 n).length ∧ OwnNil w.heap.size w4 s1 ((digs B64 n).take j')) ∧
        (2 * ((digs B64 n).length : Int) - IntKind.i64.wrap (2 * (j : Int) + 2)).toNat < (2 * ((digs B64 n).length : Int) - 2 * (j : Int)).toNat := by
      rintro T hT v rfl
      have hal := Ahead.alloc w1 (.cells #[Value.int .u64 (((digs B64 n).getD j 0 : Nat) : Int)] tU64 (0, 0))
      have hlit : Rd .u64 (w1.alloc (.cells #[Value.int .u64 (((digs B64 n).getD j 0 : Nat) : Int)] tU64 (0, 0))) ⟨some ⟨w1.heap.size, 0, none⟩, 1, 1⟩ (nn [(digs B64 n).getD j 0]) :=
        Owr.rd (t := tU64) (b := w1.heap.size) ⟨rfl, [], rfl, by rw [get_alloc]; rfl⟩
      refine app (t := _) (e := tU64) (k := .u64) (l := nn ((digs B64 n).take j)) (base := w.heap.size) hT hlit (by simp)
        ((ho.ahead hal).imp (fun h => ⟨h.1, by rw [h.2]; rfl⟩) id) (ha.trans hal).size (by simp; omega) ?_
      intro s' w5 b' hb' hc' hown hbel hah
      refine ⟨⟨rfl, ?_, j + 1, e8, hjj, .inr ⟨b', hb', hc', ?_⟩⟩, by rw [e8]; omega⟩
      · refine hah w (ha.trans hal) fun b hb => ?_
        rcases ho with ⟨rfl, _⟩ | ⟨b2, h1, _, h3⟩
        · simp at hb
        · rw [h3.A] at hb; simp at hb; omega
      · rw [List.take_succ_eq_append_getElem hjj, nn_append, ← getD_lt _ 0 hjj]
        exact hown
    refine ldN (h.ahead ha) (by omega) (by omega) ?_
    rw [ei]
    refine br_intro (fun hin => ?_) (fun hin => ?_)
    · have hin' : 2 * j + 1 < (digs B32 n).length := by rw [e9] at hin; simp at hin; omega
      rw [e9]
      refine ldN (h.ahead ha) (by omega) (by omega) ?_
      rw [Int.toNat_natCast]
      have ev : IntKind.u64.wrap ((((digs B32 n).getD (2 * j) 0 : Nat) : Int) + IntKind.u64.wrap ((((digs B32 n).getD (2 * j + 1) 0 : Nat) : Int) * 4294967296)) = (((digs B64 n).getD j 0 : Nat) : Int) := by
        rw [hlimb]
        generalize (digs B32 n).getD (2 * j) 0 = a at *
        generalize (digs B32 n).getD (2 * j + 1) 0 = b at *
        rw [hB32] at *
        rw [wrap_u64' (x := (b : Int) * 4294967296) (by omega) (by omega), wrap_u64' (by omega) (by omega)]
        omega
      rw [ev]
      exact step _ (by kernel_rfl) _ rfl
    · have hin' : (digs B32 n).length ≤ 2 * j + 1 := by rw [e9] at hin; simp at hin; omega
      refine step _ (by kernel_rfl) _ ?_
      rw [hlimb, getD_ge _ 0 hin', Nat.zero_mul, Nat.add_zero]
  · have hj' : j = (digs B64 n).length := by
      have : ¬ 2 * j < (digs B32 n).length := by simp at hge; omega
      have := mt hiff.1 this
      omega
    subst hj'
    rw [List.take_length] at ho
    exact ⟨ha, _, rfl, ho⟩

theorem Is_spec {w : World} {s t : Slc} {n : Nat} (h : RN w s n) (ht : Rd .u64 w t (nn (digs B64 n))) (hl : (digs B64 n).length ≤ 2 ^ 44) :
    Calls pr surdref01_Num_Is_id #[s.v, t.v] w fun e w' => Ahead w w' ∧ e = .returned (.bool true) := by
  have htn : t.n = (digs B64 n).length := by rw [ht.n, nn_length]
  refine surdref01_Num_Is_vc s t w _ (fun p q m i w' => p = t ∧ m = ((digs B64 n).length : Int) ∧ Ahead w w' ∧ Rd .u64 w' q (nn (digs B64 n)) ∧ ∃ j : Nat, i = (j : Int) ∧ j ≤ (digs B64 n).length) (fun _ _ m i _ => (m - i).toNat) ?_ ?_
  · refine Calls.mono (Limbs_spec h hl) ?_
    rintro e w1 ⟨ha, s', rfl, ho⟩
    have hr := ho.rd
    have hn' : s'.n = (digs B64 n).length := by rw [hr.n, nn_length]
    exact ⟨_, rfl, br_false (by rw [hn', htn]; simp) ⟨rfl, by rw [hn'], ha, hr, 0, rfl, Nat.zero_le _⟩⟩
  · rintro p q m i w1 ⟨rfl, rfl, ha, hr, j, rfl, hj⟩
    refine br_intro (fun hlt => ?_) (fun hge => ?_)
    · have hj' : j < (digs B64 n).length := by simp at hlt; omega
      refine ldNf hr (by omega) (by omega) ?_
      refine ldNf (ht.ahead ha) (by omega) (by omega) ?_
      intro w2 ha2
      have e8 : IntKind.i64.wrap ((j : Int) + 1) = ((j + 1 : Nat) : Int) := by rw [wrap_i64 (by omega) (by omega)]; omega
      exact br_false (by simp) ⟨⟨rfl, rfl, ha.trans ha2, hr.ahead ha2, j + 1, e8, hj'⟩, by rw [e8]; omega⟩
    · exact ⟨ha, rfl⟩

theorem Fill.norm {w0 w : World} {c : Slc} {l : List Nat} {S : World → Prop} (h : Fill w0 w c l S) (hl : l.length ≤ 2 ^ 46) (hok : ok B32 l) :
    Calls pr surdref01_norm_id #[c.v] w fun e w' => w' = w ∧ ∃ s', e = .returned (Slc.v s') ∧ RN w s' (val B32 l) := norm_spec h.rd hl hok

theorem Fill.normN {w0 w : World} {c : Slc} {l : List Nat} {S : World → Prop} (h : Fill w0 w c l S) (hl : l.length ≤ 2 ^ 46) (hok : ok B32 l) :
    Calls pr surdref01_norm_id #[c.v] w fun e w' => w' = w ∧ ∃ s', e = .returned (Slc.v s') ∧ RN w s' (val B32 l) ∧ ∀ ad, s'.A = some ad → w0.heap.size ≤ ad.block :=
  Calls.mono (norm_specA h.rd hl hok) fun e w' ⟨h1, s', h2, h3, hA⟩ => ⟨h1, s', h2, h3, fun ad had => by
    rw [hA] at had
    obtain ⟨b, _, ho, _, hb, _⟩ := h
    rw [ho.A] at had
    obtain rfl := Option.some.inj had
    exact hb⟩

theorem Add_specN {w : World} {p q : Slc} {x y : Nat} (hp : RN w p x) (hq : RN w q y) (la : (digs B32 x).length + 1 ≤ 2 ^ 45) (lb : (digs B32 y).length + 1 ≤ 2 ^ 45) :
    Calls pr surdref01_Add_id #[p.v, q.v] w fun e w' => Ahead w w' ∧ ∃ s', e = .returned (Slc.v s') ∧ RN w' s' (x + y) ∧ ∀ ad, s'.A = some ad → w.heap.size ≤ ad.block := by
  have hB32 := B32v
  have hna := hp.n
  have hnb := hq.n
  have oa := ok_digs two32 x
  have ob := ok_digs two32 y
  have vx := val_digs two32 x
  have vy := val_digs two32 y
  unfold RN at hp hq
  generalize digs B32 x = A at *
  generalize digs B32 y = C at *
  refine surdref01_Add_vc p q w _ (fun s t n out k i w' => s = p ∧ t = q ∧ ∃ (m : Nat) (l : List Nat) (j cr : Nat), n = (m : Int) ∧ A.length ≤ m ∧ C.length ≤ m ∧ m + 1 ≤ 2 ^ 45 ∧ k = (cr : Int) ∧ cr ≤ 1 ∧ i = (j : Int) ∧ j ≤ m + 1 ∧
    Fill w w' out l (fun _ => True) ∧ l.length = m + 1 ∧ ok B32 l ∧ val B32 (l.take j) + cr * B32 ^ j = val B32 (A.take j) + val B32 (C.take j)) (fun _ _ n _ _ i _ => (n + 1 - i).toNat) ?_ ?_
  · refine br_intro (fun hlt => ?_) (fun hlt => ?_)
    · rw [wrap_i64 (x := (q.n : Int) + 1) (by omega) (by omega)]
      refine mkF (S := fun _ => True) (w0 := w) (by omega) (by omega) (Ahead.refl _) trivial ?_
      intro s w1 hsn hf ha
      refine ⟨rfl, rfl, q.n, _, 0, 0, rfl, by simp at hlt; omega, by omega, by omega, rfl, by omega, rfl, Nat.zero_le _, hf, by rw [List.length_replicate]; omega, ok_replicate (by omega) _, by simp [val]⟩
    · rw [wrap_i64 (x := (p.n : Int) + 1) (by omega) (by omega)]
      refine mkF (S := fun _ => True) (w0 := w) (by omega) (by omega) (Ahead.refl _) trivial ?_
      intro s w1 hsn hf ha
      refine ⟨rfl, rfl, p.n, _, 0, 0, rfl, by omega, by simp at hlt; omega, by omega, rfl, by omega, rfl, Nat.zero_le _, hf, by rw [List.length_replicate]; omega, ok_replicate (by omega) _, by simp [val]⟩
  · rintro s t n out k i w1 ⟨rfl, rfl, m, l, j, cr, rfl, hA, hC, hm, rfl, hcr, rfl, hj, hf, hl, ol, hv⟩
    refine br_intro (fun hlt => ?_) (fun hge => ?_)
    · have hj' : j < m + 1 := by simp at hlt; omega
      refine Calls.mono (at_spec (hp.ahead hf.base) (by omega)) ?_
      rintro e w2 ⟨rfl, rfl⟩
      refine ⟨_, rfl, Calls.mono (at_spec (hq.ahead hf.base) (by omega)) ?_⟩
      rintro e w3 ⟨rfl, rfl⟩
      refine ⟨_, rfl, ?_⟩
      simp only [Int.toNat_natCast]
      have hx := ok_getD oa (by omega : 0 < B32) j
      have hy := ok_getD ob (by omega : 0 < B32) j
      have e8 : IntKind.i64.wrap ((j : Int) + 1) = ((j + 1 : Nat) : Int) := by rw [wrap_i64 (by omega) (by omega)]; omega
      have t1 := val_take_succ' A j (B := B32)
      have t2 := val_take_succ' C j (B := B32)
      generalize A.getD j 0 = a at *
      generalize C.getD j 0 = c at *
      have e1 : IntKind.u64.wrap (IntKind.u64.wrap ((a : Int) + (c : Int)) + (cr : Int)) = ((a + c + cr : Nat) : Int) := by
        rw [wrap_u64' (x := (a : Int) + c) (by omega) (by omega), wrap_u64' (by omega) (by omega)]; omega
      have e2 : Int.tmod ((a + c + cr : Nat) : Int) 4294967296 = (((a + c + cr) % B32 : Nat) : Int) := by rw [Int.tmod_eq_emod_of_nonneg (by omega), hB32]; omega
      have e3 : IntKind.u64.wrap (Int.tdiv ((a + c + cr : Nat) : Int) 4294967296) = (((a + c + cr) / B32 : Nat) : Int) := by
        have : Int.tdiv ((a + c + cr : Nat) : Int) 4294967296 = (((a + c + cr) / 4294967296 : Nat) : Int) := by rw [Int.tdiv_eq_ediv_of_nonneg (by omega)]; omega
        rw [this, wrap_u64' (by omega) (by omega), hB32]
      rw [e1, e2, e3]
      refine stF hf (by omega) (by omega) ?_
      intro w5 hf5
      simp only [Int.toNat_natCast] at hf5
      refine ⟨⟨by trivial, by trivial, m, _, j + 1, (a + c + cr) / B32, rfl, hA, hC, hm, rfl, ?_, e8, hj', hf5, by simpa using hl, ok_set ol (Nat.mod_lt _ (by omega)), ?_⟩, by rw [e8]; omega⟩
      · rw [hB32]; omega
      · rw [val_take_set _ _ _ (by omega), t1, t2, Nat.pow_succ]
        exact add_step (by have := Nat.mod_add_div (a + c + cr) B32; omega) hv
    · have hj' : j = m + 1 := by simp at hge; omega
      subst hj'
      rw [val_take_all l (by omega), val_take_all A (by omega), val_take_all C (by omega), vx, vy] at hv
      have h1 : x < B32 ^ m := by rw [← vx]; exact Nat.lt_of_lt_of_le (val_lt oa) (Nat.pow_le_pow_right (by omega) hA)
      have h2 : y < B32 ^ m := by rw [← vy]; exact Nat.lt_of_lt_of_le (val_lt ob) (Nat.pow_le_pow_right (by omega) hC)
      have h3 : cr = 0 := by
        rcases Nat.lt_or_ge cr 1 with h | h
        · omega
        · have hc1 : cr = 1 := by omega
          subst hc1
          have : 2 * B32 ^ m ≤ B32 ^ (m + 1) := by rw [Nat.pow_succ, Nat.mul_comm]; exact Nat.mul_le_mul_left _ (by omega)
          omega
      subst h3
      have hv' : val B32 l = x + y := by omega
      refine Calls.mono (Fill.normN hf (by omega) ol) ?_
      rintro e w6 ⟨rfl, s', rfl, hr, hA⟩
      rw [hv'] at hr
      exact ⟨_, rfl, hf.base, _, rfl, hr, hA⟩
theorem Add_spec {w : World} {p q : Slc} {x y : Nat} (hp : RN w p x) (hq : RN w q y) (la : (digs B32 x).length + 1 ≤ 2 ^ 45) (lb : (digs B32 y).length + 1 ≤ 2 ^ 45) :
    Calls pr surdref01_Add_id #[p.v, q.v] w fun e w' => Ahead w w' ∧ ∃ s', e = .returned (Slc.v s') ∧ RN w' s' (x + y) :=
  Calls.mono (Add_specN hp hq la lb) fun e w' ⟨h1, s', h2, h3, _⟩ => ⟨h1, s', h2, h3⟩

theorem Sub_specN {w : World} {p q : Slc} {x y : Nat} (hp : RN w p x) (hq : RN w q y) (hle : y ≤ x) (la : (digs B32 x).length ≤ 2 ^ 45) :
    Calls pr surdref01_Sub_id #[p.v, q.v] w fun e w' => Ahead w w' ∧ ∃ s', e = .returned (Slc.v s') ∧ RN w' s' (x - y) ∧ ∀ ad, s'.A = some ad → w.heap.size ≤ ad.block := by
  have hB32 := B32v
  have hna := hp.n
  have hnb := hq.n
  have oa := ok_digs two32 x
  have ob := ok_digs two32 y
  have vx := val_digs two32 x
  have vy := val_digs two32 y
  have hlen : (digs B32 y).length ≤ (digs B32 x).length := by
    rcases Nat.lt_or_ge (digs B32 x).length (digs B32 y).length with h | h
    · have := digs_len_lt two32 h; omega
    · exact h
  unfold RN at hp hq
  generalize digs B32 x = A at *
  generalize digs B32 y = C at *
  refine surdref01_Sub_vc p q w _ (fun s t out k n i w' => s = p ∧ t = q ∧ n = (A.length : Int) ∧ ∃ (l : List Nat) (j cr : Nat), k = (cr : Int) ∧ cr ≤ 1 ∧ i = (j : Int) ∧ j ≤ A.length ∧
    Fill w w' out l (fun _ => True) ∧ l.length = A.length ∧ ok B32 l ∧ val B32 (l.take j) + val B32 (C.take j) = val B32 (A.take j) + cr * B32 ^ j) (fun _ _ _ _ n i _ => (n - i).toNat) ?_ ?_
  · refine mkF (S := fun _ => True) (w0 := w) (by omega) (by omega) (Ahead.refl _) trivial ?_
    intro s w1 hsn hf ha
    refine ⟨rfl, rfl, by rw [hna], _, 0, 0, rfl, by omega, rfl, Nat.zero_le _, hf, by rw [List.length_replicate]; omega, ok_replicate (by omega) _, by simp [val]⟩
  · rintro s t out k n i w1 ⟨rfl, rfl, rfl, l, j, cr, rfl, hcr, rfl, hj, hf, hl, ol, hv⟩
    refine br_intro (fun hlt => ?_) (fun hge => ?_)
    · have hj' : j < A.length := by simp at hlt; omega
      refine ldNf ((hp.ahead hf.base).ahead (Ahead.drew _)) (by omega) (by omega) ?_
      refine Calls.mono (at_spec ((hq.ahead hf.base).ahead (Ahead.drew _)) (by omega)) ?_
      rintro e w4 ⟨rfl, rfl⟩
      have ha4 : Ahead w1 w1.drew := Ahead.drew _
      refine ⟨_, rfl, Ahead.refl _, ?_⟩
      simp only [Int.toNat_natCast]
      have hx := ok_getD oa (by omega : 0 < B32) j
      have hy := ok_getD ob (by omega : 0 < B32) j
      have e8 : IntKind.i64.wrap ((j : Int) + 1) = ((j + 1 : Nat) : Int) := by rw [wrap_i64 (by omega) (by omega)]; omega
      have t1 := val_take_succ' A j (B := B32)
      have t2 := val_take_succ' C j (B := B32)
      generalize A.getD j 0 = a at *
      generalize C.getD j 0 = c at *
      have e1 : IntKind.u64.wrap (IntKind.u64.wrap (IntKind.u64.wrap ((a : Int) + 4294967296) - (c : Int)) - (cr : Int)) = ((a + 4294967296 - c - cr : Nat) : Int) := by
        rw [wrap_u64' (x := (a : Int) + 4294967296) (by omega) (by omega), wrap_u64' (x := (a : Int) + 4294967296 - c) (by omega) (by omega), wrap_u64' (by omega) (by omega)]; omega
      have e2 : Int.tmod ((a + 4294967296 - c - cr : Nat) : Int) 4294967296 = (((a + 4294967296 - c - cr) % B32 : Nat) : Int) := by rw [Int.tmod_eq_emod_of_nonneg (by omega), hB32]; omega
      have e3 : IntKind.u64.wrap (1 - IntKind.u64.wrap (Int.tdiv ((a + 4294967296 - c - cr : Nat) : Int) 4294967296)) = ((if a < c + cr then 1 else 0 : Nat) : Int) := by
        have : Int.tdiv ((a + 4294967296 - c - cr : Nat) : Int) 4294967296 = (((a + 4294967296 - c - cr) / 4294967296 : Nat) : Int) := by rw [Int.tdiv_eq_ediv_of_nonneg (by omega)]; omega
        rw [this, wrap_u64' (x := (((a + 4294967296 - c - cr) / 4294967296 : Nat) : Int)) (by omega) (by omega), wrap_u64' (by omega) (by omega)]
        split <;> omega
      rw [e1, e2, e3]
      refine stF (hf.ahead ha4) (by omega) (by omega) ?_
      intro w5 hf5
      simp only [Int.toNat_natCast] at hf5
      refine ⟨⟨by trivial, by trivial, by trivial, _, j + 1, if a < c + cr then 1 else 0, rfl, by split <;> omega, e8, hj', hf5, by simpa using hl, ok_set ol (Nat.mod_lt _ (by omega)), ?_⟩, by rw [e8]; omega⟩
      rw [val_take_set _ _ _ (by omega), t1, t2, Nat.pow_succ]
      refine sub_step ?_ hv
      rw [hB32]
      rw [hB32] at hx hy
      split <;> omega
    · have hj' : j = A.length := by simp at hge; omega
      subst hj'
      rw [val_take_all l (by omega), val_take_all A (by omega), val_take_all C (by omega), vx, vy] at hv
      have hlt := val_lt ol
      rw [hl] at hlt
      have h3 : cr = 0 := by
        rcases Nat.lt_or_ge cr 1 with h | h
        · omega
        · have hc1 : cr = 1 := by omega
          subst hc1
          omega
      subst h3
      have hv' : val B32 l = x - y := by omega
      refine Calls.mono (Fill.normN hf (by omega) ol) ?_
      rintro e w6 ⟨rfl, s', rfl, hr, hA⟩
      rw [hv'] at hr
      exact ⟨_, rfl, hf.base, _, rfl, hr, hA⟩

end Ref
end Go.Proofs.Ytflipimlpgbnmaa
namespace Go.Proofs.Ytflipimlpgbnmaa
open Go Go.RowKit Eng Sp Dg
set_option linter.unusedVariables false
set_option linter.unusedSimpArgs false
set_option maxRecDepth 100000
namespace Ref
open _root_.Go.Proofs.Ytflipimlpgbnmaa.Nat (ldN ldNf stN mkN cutHi cutCap Fill mkF stF stFf Num OwnNil semShl fixShl)

theorem tdiv32 {n : Int} (h0 : 0 ≤ n) (h1 : n ≤ 9223372036854775807) : IntKind.i64.wrap (Int.tdiv n 32) = ((n.toNat / 32 : Nat) : Int) := by
  have : Int.tdiv n 32 = ((n.toNat / 32 : Nat) : Int) := by rw [Int.tdiv_eq_ediv_of_nonneg h0]; omega
  rw [this, wrap_i64 (by omega) (by omega)]
theorem tmod32 {n : Int} (h0 : 0 ≤ n) : Int.tmod n 32 = ((n.toNat % 32 : Nat) : Int) := by rw [Int.tmod_eq_emod_of_nonneg h0]; omega

theorem Shl_spec {w : World} {p : Slc} {x : Nat} {n : Int} (hp : RN w p x) (h0 : 0 ≤ n) (h1 : n ≤ 9223372036854775807) (la : (digs B32 x).length + n.toNat / 32 + 1 ≤ 2 ^ 45) :
    Calls pr surdref01_Shl_id #[p.v, .int .i64 n] w fun e w' => Ahead w w' ∧ ∃ s', e = .returned (Slc.v s') ∧ RN w' s' (x * 2 ^ n.toNat) := by
  have hB32 := B32v
  have hB := B64v
  have hna := hp.n
  have oa := ok_digs two32 x
  have vx := val_digs two32 x
  have hp2 : (2 ^ 32) ^ (n.toNat / 32) * 2 ^ (n.toNat % 32) = 2 ^ n.toNat := (pow_split n.toNat 32).symm
  have hw : n.toNat % 32 < 32 := Nat.mod_lt _ (by omega)
  have h32 : B32 = 2 ^ 32 := rfl
  unfold RN at hp
  have hz0 : digs B32 x = [] → x = 0 := fun h => by rw [h] at vx; exact vx.symm
  generalize digs B32 x = A at *
  refine surdref01_Shl_vc p n w _ (fun t1 out t6 t21 t22 t23 w' => t1 = n ∧ t6 = ((n.toNat % 32 : Nat) : Int) ∧ t21 = p ∧ t22 = (A.length : Int) ∧ ∃ (l : List Nat) (j : Nat), t23 = (j : Int) ∧ j ≤ A.length ∧
    Fill w w' out l (fun _ => True) ∧ l.length = A.length + n.toNat / 32 + 1 ∧ ok B32 l ∧ val B32 l = val B32 (A.take j) * (B32 ^ (n.toNat / 32) * 2 ^ (n.toNat % 32))) (fun _ _ _ _ n i _ => (n - i).toNat) ?_ ?_
  · refine br_intro (fun hz => ?_) (fun hz => ?_)
    · have hx := hz0 (List.eq_nil_of_length_eq_zero (by simp at hz; omega))
      subst hx
      exact ⟨Ahead.refl _, _, rfl, by rw [Nat.zero_mul]; exact RN.nil⟩
    · rw [tdiv32 h0 h1, tmod32 h0, wrap_i64 (x := (p.n : Int) + _) (by omega) (by omega), wrap_i64 (x := (p.n : Int) + _ + 1) (by omega) (by omega)]
      refine mkF (S := fun _ => True) (w0 := w) (by omega) (by omega) (Ahead.refl _) trivial ?_
      intro s w1 hsn hf ha
      refine ⟨rfl, rfl, rfl, by rw [hna], _, 0, rfl, Nat.zero_le _, hf, by rw [List.length_replicate]; omega, ok_replicate (by omega) _, ?_⟩
      rw [val_replicate]; simp [val]
  · rintro t1 out t6 t21 t22 t23 w1 ⟨rfl, rfl, rfl, rfl, l, j, rfl, hj, hf, hl, ol, hv⟩
    refine br_intro (fun hlt => ?_) (fun hge => ?_)
    · have hj' : j < A.length := by simp at hlt; omega
      have hfacts := left_facts (w := 32) (l := l) (A := A) (j := j) (wd := t1.toNat / 32) (s := t1.toNat % 32) hw (by omega) oa hj' hv
      have hx := ok_getD oa (by omega : 0 < B32) j
      rw [tdiv32 h0 h1, wrap_i64 (x := (j : Int) + _) (by omega) (by omega), show (j : Int) + ((t1.toNat / 32 : Nat) : Int) = ((t1.toNat / 32 + j : Nat) : Int) by omega,
        wrap_i64 (x := ((t1.toNat / 32 + j : Nat) : Int) + 1) (by omega) (by omega), show ((t1.toNat / 32 + j : Nat) : Int) + 1 = ((t1.toNat / 32 + j + 1 : Nat) : Int) by omega]
      refine ldN (hp.ahead hf.base) (by omega) (by omega) ?_
      refine ldNf hf.rd (by omega) (by omega) ?_
      rw [Int.toNat_natCast, Int.toNat_natCast]
      refine fixShl (by omega) ?_
      have hp4 : 2 ^ (t1.toNat % 32) ≤ 2 ^ 31 := Nat.pow_le_pow_right (by omega) (by omega)
      have hprod : A.getD j 0 * 2 ^ (t1.toNat % 32) < B64 := by
        have : A.getD j 0 * 2 ^ (t1.toNat % 32) ≤ 4294967296 * 2 ^ 31 := Nat.mul_le_mul (by omega) hp4
        omega
      rw [Nat.mod_eq_of_lt hprod]
      have hlo := shl_lo (A.getD j 0) (t1.toNat % 32) 32 (by omega)
      have hmul : l.getD (t1.toNat / 32 + j) 0 + A.getD j 0 * 2 ^ (t1.toNat % 32) % 2 ^ 32 < 2 ^ 32 := by
        rw [hlo]
        have e : 2 ^ (t1.toNat % 32) * 2 ^ (32 - t1.toNat % 32) = 2 ^ 32 := by rw [← Nat.pow_add]; congr 1; omega
        have hm : A.getD j 0 % 2 ^ (32 - t1.toNat % 32) + 1 ≤ 2 ^ (32 - t1.toNat % 32) := Nat.mod_lt _ (Nat.pow_pos (by omega))
        have := Nat.mul_le_mul_left (2 ^ (t1.toNat % 32)) hm
        rw [Nat.mul_add, e] at this
        have := hfacts.1
        omega
      have e1 : IntKind.u64.wrap (((l.getD (t1.toNat / 32 + j) 0 : Nat) : Int) + Int.tmod ((A.getD j 0 * 2 ^ (t1.toNat % 32) : Nat) : Int) 4294967296) = ((l.getD (t1.toNat / 32 + j) 0 + A.getD j 0 * 2 ^ (t1.toNat % 32) % 2 ^ 32 : Nat) : Int) := by
        generalize A.getD j 0 * 2 ^ (t1.toNat % 32) = v at *
        rw [Int.tmod_eq_emod_of_nonneg (by omega)]
        rw [wrap_u64' (by omega) (by omega)]; omega
      rw [e1]
      refine stFf hf (Ahead.drew _) (by omega) (by omega) ?_
      intro w3 hf3
      rw [Int.toNat_natCast] at hf3
      refine semShl (by omega) ?_
      rw [Nat.mod_eq_of_lt hprod]
      have e3 : IntKind.u64.wrap (Int.tdiv ((A.getD j 0 * 2 ^ (t1.toNat % 32) : Nat) : Int) 4294967296) = ((A.getD j 0 * 2 ^ (t1.toNat % 32) / 2 ^ 32 : Nat) : Int) := by
        generalize A.getD j 0 * 2 ^ (t1.toNat % 32) = v at *
        have : Int.tdiv (v : Int) 4294967296 = ((v / 2 ^ 32 : Nat) : Int) := by rw [Int.tdiv_eq_ediv_of_nonneg (by omega)]; omega
        rw [this, wrap_u64' (by omega) (by omega)]
      rw [e3]
      have hhi : A.getD j 0 * 2 ^ (t1.toNat % 32) / 2 ^ 32 < B32 := by
        rw [shl_hi _ _ _ (by omega)]
        exact Nat.lt_of_le_of_lt (Nat.div_le_self _ _) hx
      refine stF hf3 (by omega) (by simp; omega) ?_
      intro w6 hf6
      rw [Int.toNat_natCast] at hf6
      have e8 : IntKind.i64.wrap ((j : Int) + 1) = ((j + 1 : Nat) : Int) := by rw [wrap_i64 (by omega) (by omega)]; omega
      exact ⟨⟨rfl, rfl, rfl, rfl, _, j + 1, e8, hj', hf6, by simpa using hl, ok_set (ok_set ol hmul) hhi, left_step (w := 32) hw (by omega) oa hj' hv rfl rfl⟩, by rw [e8]; omega⟩
    · have hj' : j = A.length := by simp at hge; omega
      subst hj'
      rw [List.take_length, vx] at hv
      have hv' : val B32 l = x * 2 ^ t1.toNat := by rw [hv, ← hp2, h32]
      refine Calls.mono (Fill.norm hf (by omega) ol) ?_
      rintro e w6 ⟨rfl, s', rfl, hr⟩
      rw [hv'] at hr
      exact ⟨_, rfl, hf.base, _, rfl, hr⟩

theorem len_mono {B x y : Nat} (hB : 2 ≤ B) (h : x ≤ y) : (digs B x).length ≤ (digs B y).length := by
  rcases Nat.lt_or_ge (digs B y).length (digs B x).length with h1 | h1
  · have := digs_len_lt hB h1; omega
  · exact h1

def A5 : Nat := 10855845
def lent (l : List Nat) : List Nat := A5 :: A5 :: (l ++ [A5, A5])

/-- What Lend hands out: the whole row, and the part in its middle. -/
def Lent (base : Nat) (w : World) (s t : Slc) (l : List Nat) : Prop :=
  ∃ b, base ≤ b ∧ s.c = l.length + 4 ∧ Owr .u64 tU64 w s (nn (lent l)) b ∧ t = ⟨some ⟨b, 2, none⟩, l.length, l.length + 2⟩
theorem Lent.ahead {base : Nat} {w w' : World} {s t : Slc} {l : List Nat} (h : Lent base w s t l) (ha : Ahead w w') : Lent base w' s t l := by
  obtain ⟨b, h1, h2, h3, h4⟩ := h
  exact ⟨b, h1, h2, h3.ahead ha, h4⟩

end Ref
end Go.Proofs.Ytflipimlpgbnmaa
namespace Go.Proofs.Ytflipimlpgbnmaa
open Go Go.RowKit Eng Sp Dg
set_option linter.unusedVariables false
set_option linter.unusedSimpArgs false
set_option maxRecDepth 100000
namespace Nat

/-- A law's answer. -/
def Yes (w : World) (e : Ending) (w' : World) : Prop := e = .returned (.bool true) ∧ Ahead w w'

/-- A literal's slice of one limb. -/
theorem one_rd (w : World) (x : Nat) : Rd .u64 (w.alloc (.cells #[.int .u64 (x : Int)] tU64 (0, 0))) ⟨some ⟨w.heap.size, 0, none⟩, 1, 1⟩ (nn [x]) :=
  Owr.rd (t := tU64) (b := w.heap.size) ⟨rfl, [], rfl, by rw [get_alloc]; rfl⟩
theorem ok_one {x : Nat} (h : x < B64) : ok B64 [x] := by intro y hy; simp at hy; omega
theorem val_one (x : Nat) : val B64 [x] = x := by simp [val]

end Nat
end Go.Proofs.Ytflipimlpgbnmaa
namespace Go.Proofs.Ytflipimlpgbnmaa
open Go Go.RowKit Eng Sp Dg
set_option linter.unusedVariables false
set_option linter.unusedSimpArgs false
set_option maxRecDepth 100000
namespace Mul
open _root_.Go.Proofs.Ytflipimlpgbnmaa.Nat (ldN ldNf stN mkN Num OwnNil len_le Norm_spec Length_spec Ret bigC bigC_ok own_num digs_len_bl Yes)

theorem fits_spec {w : World} {s : Slc} {l : List Nat} (h : Rd .u64 w s (nn l)) (hl : l.length ≤ 2 ^ 44) (ol : ok B64 l) : Calls pr mul_fits_id #[s.v] w (Ret w (bigC (val B64 l)) (val B64 l)) := by
  have hd := len_le ol
  refine mul_fits_vc s w _ (Calls.mono (Norm_spec h hl ol) ?_)
  rintro e w1 ⟨h1, t, rfl, ho⟩
  refine ⟨_, rfl, Calls.mono (Length_spec ho.rd (by omega) (ok_digs two64 _)) ?_⟩
  rintro e w2 ⟨rfl, rfl⟩
  rw [val_digs two64]
  refine ⟨_, rfl, br_intro (fun hb => ?_) (fun hb => ?_)⟩
  · have hc : bigC (val B64 l) = 3 := by rw [bigC, if_neg (by simp at hb; omega)]
    rw [hc]
    exact ⟨h1, _, rfl, by rw [if_neg (by omega)]; exact OwnNil.nil⟩
  · have hc : bigC (val B64 l) = 0 := by rw [bigC, if_pos (by simp at hb; omega)]
    rw [hc]
    exact ⟨h1, _, rfl, by rw [if_pos rfl]; exact ho⟩

theorem bl_mul {x y : Nat} (hx : x ≠ 0) (hy : y ≠ 0) : bl x + bl y - 1 ≤ bl (x * y) := by
  have h1 := (bl_bounds hx).1
  have h2 := (bl_bounds hy).1
  have p1 := bl_pos hx
  have p2 := bl_pos hy
  have h3 := Nat.mul_le_mul h1 h2
  rw [← Nat.pow_add] at h3
  rcases Nat.lt_or_ge (bl (x * y)) (bl x + bl y - 1) with h | h
  · exfalso
    have h4 := bl_le_iff.1 (show bl (x * y) ≤ bl x - 1 + (bl y - 1) by omega)
    omega
  · exact h

theorem great_spec {w : World} {a b : Slc} {x y : Nat} (ha : Num w a x) (hb : Num w b y) :
    Calls pr mul_great_id #[a.v, b.v] w fun e w' => w' = w ∧ ∃ c : Bool, e = .returned (.bool c) ∧ (c = true ↔ x ≠ 0 ∧ y ≠ 0 ∧ 67108864 < bl x + bl y - 1) := by
  have bx := ha.bl
  have by' := hb.bl
  refine mul_great_vc a b w _ (Calls.mono (Nat.len_num ha) ?_)
  rintro e w1 ⟨rfl, rfl⟩
  refine ⟨_, rfl, Calls.mono (Nat.len_num hb) ?_⟩
  rintro e w2 ⟨rfl, rfl⟩
  have zx : bl x = 0 ↔ x = 0 := ⟨fun h => by rcases Nat.eq_zero_or_pos x with h1 | h1; exact h1; have := bl_pos (n := x) (by omega); omega, fun h => by rw [h, bl_zero]⟩
  have zy : bl y = 0 ↔ y = 0 := ⟨fun h => by rcases Nat.eq_zero_or_pos y with h1 | h1; exact h1; have := bl_pos (n := y) (by omega); omega, fun h => by rw [h, bl_zero]⟩
  refine ⟨_, rfl, br_intro (fun h => br_intro (fun h' => ?_) (fun h' => ?_)) (fun h => ?_)⟩
  · have h1 : 0 < bl x := by simp at h; omega
    have h2 : 0 < bl y := by simp at h'; omega
    rw [wrap_i64 (x := (bl x : Int) + (bl y : Int)) (by omega) (by omega), wrap_i64 (by omega) (by omega)]
    refine ⟨rfl, _, rfl, ?_⟩
    simp only [decide_eq_true_eq]
    constructor
    · intro h3
      exact ⟨fun e => by have := zx.2 e; omega, fun e => by have := zy.2 e; omega, by omega⟩
    · rintro ⟨_, _, h3⟩
      omega
  · have h2 : bl y = 0 := by simp at h'; omega
    exact ⟨rfl, _, rfl, by simp [zy.1 h2]⟩
  · have h2 : bl x = 0 := by simp at h; omega
    exact ⟨rfl, _, rfl, by simp [zx.1 h2]⟩

theorem Mul_spec {w : World} {a b : Slc} {x y : Nat} (ha : Num w a x) (hb : Num w b y) (la : (digs B64 x).length + 16 ≤ 2 ^ 44) (lb : (digs B64 y).length + 16 ≤ 2 ^ 44) :
    Calls pr mul_Mul_id #[a.v, b.v] w (Ret w (bigC (x * y)) (x * y)) := by
  obtain ⟨l, ra, na, oa, rfl⟩ := ha
  obtain ⟨m, rb, nb, ob, rfl⟩ := hb
  refine mul_Mul_vc a b w _ ?_
  refine mul_product__mul_Mul_1_vc a b w _ (Calls.mono (Norm_spec ra na oa) ?_)
  rintro e w1 ⟨h1, s, rfl, os⟩
  refine ⟨_, rfl, Calls.mono (Norm_spec (rb.ahead h1) nb ob) ?_⟩
  rintro e w2 ⟨h2, t, rfl, ot⟩
  have h12 := h1.trans h2
  have rs := (os.ahead h2).rd
  have rt := ot.rd
  have ns : Num w2 s (val B64 l) := ⟨_, rs, by omega, ok_digs two64 _, val_digs two64 _⟩
  have nt : Num w2 t (val B64 m) := ⟨_, rt, by omega, ok_digs two64 _, val_digs two64 _⟩
  generalize val B64 l = x at *
  generalize val B64 m = y at *
  refine ⟨_, rfl, Calls.mono (great_spec ns nt) ?_⟩
  rintro e w3 ⟨rfl, c, rfl, hc⟩
  refine ⟨_, rfl, br_intro (fun h => ?_) (fun h => ?_)⟩
  · obtain ⟨h3, h4, h5⟩ := hc.1 h
    have := bl_mul h3 h4
    have hcc : bigC (x * y) = 3 := by rw [bigC, if_neg (by omega)]
    rw [hcc]
    exact ⟨_, _, rfl, h12, _, rfl, by rw [if_neg (by omega)]; exact OwnNil.nil⟩
  · have hsz : (digs B64 x).length + (digs B64 y).length + 16 ≤ 2 ^ 44 := by
      by_cases hx : x = 0
      · subst hx; rw [digs_zero]; simp; omega
      · by_cases hy : y = 0
        · subst hy; rw [digs_zero]; simp; omega
        · have hbl : bl x + bl y - 1 ≤ 67108864 := by
            rcases Nat.lt_or_ge 67108864 (bl x + bl y - 1) with h6 | h6
            · have := hc.2 ⟨hx, hy, h6⟩; rw [h] at this; cases this
            · exact h6
          have p1 := bl_pos hx
          have p2 := bl_pos hy
          have := digs_len_bl (N := x) (m := 2 ^ 21) (by omega)
          have := digs_len_bl (N := y) (m := 2 ^ 21) (by omega)
          omega
    refine mul_Mul_1_vc s t w3 _ (Calls.mono (halved_spec _ w3 s _ rs (ok_digs two64 x) t _ rt (ok_digs two64 y) 40 (by omega) (by omega) (by omega) (Nat.le_refl _)) ?_)
    rintro e w4 ⟨h4, u, L, rfl, ou, nu, ku, vu⟩
    rw [val_digs two64, val_digs two64] at vu
    refine ⟨_, rfl, _, rfl, Calls.mono (fits_spec ou.rd (by omega) ku) ?_⟩
    rw [vu]
    rintro e w5 ⟨h5, v, rfl, ov⟩
    have hsz := (h12.trans h4).size
    exact ⟨_, _, rfl, _, _, rfl, (h12.trans h4).trans h5, _, rfl, ov.mono hsz⟩

end Mul
end Go.Proofs.Ytflipimlpgbnmaa
namespace Go.Proofs.Ytflipimlpgbnmaa
open Go Go.RowKit Eng Sp Dg
set_option linter.unusedVariables false
set_option linter.unusedSimpArgs false
set_option maxRecDepth 100000
namespace Ref
open _root_.Go.Proofs.Ytflipimlpgbnmaa.Nat (ldN OwnNil)

/-- The slice's row lies in this block. -/
def Bk (s : Slc) (k : Nat) : Prop := s.A = some ⟨k, 0, none⟩

/-- The state of a call of Owr: the lists lie apart, in memory from base on; their heads stand in the block ab. -/
structure St (V : Nat → Prop) (base : Nat) (w0 : World) (ab n : Nat) (T : List Value) (w : World) (S : Nat → Slc) (L : Nat → List Nat) : Prop where
  low : Below base w0 w
  hab : base ≤ ab
  hsz : base ≤ w.heap.size
  row : w.heap[ab]? = some (.cells (((List.range n).map fun j => (S j).v) ++ T).toArray tU64s (0, 0))
  own : ∀ j, j < n → OwnNil base w (S j) (L j)
  nab : ∀ j, j < n → ¬ Bk (S j) ab
  apart : ∀ i j k, i < n → j < n → i ≠ j → Bk (S i) k → ¬ Bk (S j) k
  keepV : ∀ k, k < w0.heap.size → ¬ V k → w.heap[k]? = w0.heap[k]?
  vab : V ab
  vbig : ∀ k, w0.heap.size ≤ k → V k
  vS : ∀ j k, j < n → Bk (S j) k → V k

theorem St.ablt {V : Nat → Prop} {base : Nat} {w0 : World} {ab n : Nat} {T : List Value} {w : World} {S : Nat → Slc} {L : Nat → List Nat} (h : St V base w0 ab n T w S L) : ab < w.heap.size := (Array.getElem?_eq_some_iff.1 h.row).1

theorem OwnNil.block {base : Nat} {w w' : World} {s : Slc} {l : List Nat} (h : OwnNil base w s l) (hb : ∀ k, k < w.heap.size → Bk s k → w'.heap[k]? = w.heap[k]?) : OwnNil base w' s l := by
  rcases h with h | ⟨b, h1, h2, h3⟩
  · exact .inl h
  · refine .inr ⟨b, h1, h2, h3.hd, ?_⟩
    obtain ⟨sp, hc, hm⟩ := h3.mem
    exact ⟨sp, hc, by rw [hb b h3.lt h3.A]; exact hm⟩

theorem St.alloc {V : Nat → Prop} {base : Nat} {w0 : World} {ab n : Nat} {T : List Value} {w : World} {S : Nat → Slc} {L : Nat → List Nat} (h : St V base w0 ab n T w S L) (o : Obj) : St V base w0 ab n T (w.alloc o) S L where
  low := Below.alloc h.low h.hsz o
  hab := h.hab
  hsz := by rw [size_alloc]; have := h.hsz; omega
  row := by rw [Below.heap_alloc _ _ _ h.ablt]; exact h.row
  own := fun j hj => OwnNil.block (h.own j hj) fun k hk _ => Below.heap_alloc _ _ _ hk
  nab := h.nab
  apart := h.apart
  keepV := fun k hk hv => by rw [Below.heap_alloc _ _ _ (Nat.lt_of_lt_of_le hk h.low.size)]; exact h.keepV k hk hv
  vab := h.vab
  vbig := h.vbig
  vS := h.vS

end Ref
end Go.Proofs.Ytflipimlpgbnmaa
namespace Go.Proofs.Ytflipimlpgbnmaa
open Go Go.RowKit Eng Sp Dg
set_option linter.unusedVariables false
set_option linter.unusedSimpArgs false
set_option maxRecDepth 100000
namespace Mul
open _root_.Go.Proofs.Ytflipimlpgbnmaa.Nat (Num OwnNil Ret bigC bigC_ok digs_len_bl Yes num_of)
open _root_.Go.Proofs.Ytflipimlpgbnmaa.Ref (RN Of_spec zero_spec Is_spec)

theorem lit_rd (k : IntKind) (t : TypeId) (w : World) (l : List Int) : Rd k (w.alloc (.cells (ints k l).toArray t (0, 0))) ⟨some ⟨w.heap.size, 0, none⟩, l.length, l.length⟩ l :=
  Owr.rd (t := t) (b := w.heap.size) ⟨rfl, [], by simp, by rw [get_alloc]; simp⟩

/-- What reads as limbs of a number, of a size that the laws' own functions take. -/
def NumB (w : World) (s : Slc) (n : Nat) : Prop := ∃ l, Rd .u64 w s (nn l) ∧ l.length * 8 ≤ 140737488351232 ∧ ok B64 l ∧ val B64 l = n
theorem NumB.num {w : World} {s : Slc} {n : Nat} (h : NumB w s n) : Num w s n := by
  obtain ⟨l, h1, h2, h3, h4⟩ := h; exact ⟨l, h1, by omega, h3, h4⟩
theorem NumB.ahead {w w' : World} {s : Slc} {n : Nat} (h : NumB w s n) (ha : Ahead w w') : NumB w' s n := by
  obtain ⟨l, h1, h2⟩ := h; exact ⟨l, h1.ahead ha, h2⟩

end Mul
end Go.Proofs.Ytflipimlpgbnmaa
namespace Go.Proofs.Ytflipimlpgbnmaa
open Go Go.RowKit Eng Sp Dg
set_option linter.unusedVariables false
set_option linter.unusedSimpArgs false
set_option maxRecDepth 100000
namespace Dg

theorem fB (c0 c1 c2 c3 c4 c5 c6 c7 : Nat) : (c0 + c1 + 256 * (c1 + c2)) + 65536 * (c2 + c3 + 256 * (c3 + c4) + 65536 * (c4 + c5 + 256 * (c5 + c6) + 65536 * (c6 + c7 + 256 * c7))) + (c2 + c3 + 256 * (c3 + c4) + 65536 * (c4 + c5 + 256 * (c5 + c6) + 65536 * (c6 + c7 + 256 * c7))) =
    (c0 + c1 + c2 + c3 + 256 * (c1 + c2 + c3 + c4) + 65536 * (c2 + c3 + c4 + c5 + 256 * (c3 + c4 + c5 + c6))) + 4294967296 * (c4 + c5 + c6 + c7 + 256 * (c5 + c6 + c7) + 65536 * (c6 + c7 + 256 * c7)) := by omega
end Dg
namespace Nat
theorem andI_i64 {x y : Nat} (hx : x < 9223372036854775808) (hy : y < 9223372036854775808) : andI .i64 (x : Int) (y : Int) = ((x &&& y : Nat) : Int) := by
  unfold andI
  have e : (BitVec.ofInt IntKind.i64.bits (x : Int) &&& BitVec.ofInt IntKind.i64.bits (y : Int)).toNat = x &&& y := by
    rw [BitVec.toNat_and, BitVec.ofInt_natCast, BitVec.ofInt_natCast, BitVec.toNat_ofNat, BitVec.toNat_ofNat]
    show x % 2 ^ 64 &&& y % 2 ^ 64 = _
    rw [Nat.mod_eq_of_lt (by omega), Nat.mod_eq_of_lt (by omega)]
  rw [e]
  have : x &&& y < 2 ^ 63 := Nat.and_lt_two_pow _ (by omega)
  exact wrap_i64 (by omega) (by omega)

end Nat
end Go.Proofs.Ytflipimlpgbnmaa
namespace Go.Proofs.Ytflipimlpgbnmaa
open Go Go.RowKit Eng
set_option linter.unusedVariables false

def surdref01_Div_cut (J0 : Slc → Slc → Slc → Slc → Int → World → Prop) (m0 : Slc → Slc → Slc → Slc → Int → World → Nat) (J2 : Slc → Slc → Slc → Slc → Int → World → Slc → Slc → Slc → Slc → Int → Int → Int → World → Prop) (m2 : Slc → Slc → Slc → Slc → Int → World → Slc → Slc → Slc → Slc → Int → Int → Int → World → Nat) : Nat → Option ((Act → World → Prop) × (Act → World → Nat))
  | 0 => some (fun a_ w_ => atSz a_ 60 (atS a_ 0 fun t0_a => atS a_ 1 fun t1_b => atS a_ 6 fun t6_rest => atS a_ 7 fun t7_out => atI .i64 a_ 8 fun t8_i => J0 t0_a t1_b t6_rest t7_out t8_i w_), fun a_ w_ => mS a_ 0 fun t0_a => mS a_ 1 fun t1_b => mS a_ 6 fun t6_rest => mS a_ 7 fun t7_out => mI a_ 8 fun t8_i => m0 t0_a t1_b t6_rest t7_out t8_i w_)
  | _ => none

def surdref01_Div_cut_0 (J0 : Slc → Slc → Slc → Slc → Int → World → Prop) (m0 : Slc → Slc → Slc → Slc → Int → World → Nat) (J2 : Slc → Slc → Slc → Slc → Int → World → Slc → Slc → Slc → Slc → Int → Int → Int → World → Prop) (m2 : Slc → Slc → Slc → Slc → Int → World → Slc → Slc → Slc → Slc → Int → Int → Int → World → Nat) (o_t0_a : Slc) (o_t1_b : Slc) (o_t6_rest : Slc) (o_t7_out : Slc) (o_t8_i : Int) (o_w_ : World) : Nat → Option ((Act → World → Prop) × (Act → World → Nat))
  | 2 => some (fun a_ w_ => atSz a_ 60 (atS a_ 0 fun t0_a => atS a_ 1 fun t1_b => atS a_ 6 fun t6_rest => atS a_ 7 fun t7_out => atI .i64 a_ 8 fun t8_i => atI .u64 a_ 9 fun t9_q => atI .i64 a_ 10 fun t10_s => J2 o_t0_a o_t1_b o_t6_rest o_t7_out o_t8_i o_w_ t0_a t1_b t6_rest t7_out t8_i t9_q t10_s w_), fun a_ w_ => mS a_ 0 fun t0_a => mS a_ 1 fun t1_b => mS a_ 6 fun t6_rest => mS a_ 7 fun t7_out => mI a_ 8 fun t8_i => mI a_ 9 fun t9_q => mI a_ 10 fun t10_s => m2 o_t0_a o_t1_b o_t6_rest o_t7_out o_t8_i o_w_ t0_a t1_b t6_rest t7_out t8_i t9_q t10_s w_)
  | _ => none

set_option maxRecDepth 100000 in
/-- surd/surdref01.Div: function 62. -/
theorem surdref01_Div_vc (a0_a : Slc) (a1_b : Slc) (w : World) (R : Ending → World → Prop)
    (J0 : Slc → Slc → Slc → Slc → Int → World → Prop) (m0 : Slc → Slc → Slc → Slc → Int → World → Nat) (J2 : Slc → Slc → Slc → Slc → Int → World → Slc → Slc → Slc → Slc → Int → Int → Int → World → Prop) (m2 : Slc → Slc → Slc → Slc → Int → World → Slc → Slc → Slc → Slc → Int → Int → Int → World → Nat)
    (h : semS Try.prog (Instr.makeSlice 29 (Value.int .i64 (a0_a.n : Int)) (Value.int .i64 (a0_a.n : Int))) w fun s1 w1 =>
    J0 a0_a a1_b (⟨none, 0, 0⟩ : Slc) s1 (IntKind.i64.wrap ((a0_a.n : Int) - 1)) w1)
    (h0 : ∀ (t0_a : Slc) (t1_b : Slc) (t6_rest : Slc) (t7_out : Slc) (t8_i : Int) (w_ : World), J0 t0_a t1_b t6_rest t7_out t8_i w_ → 
    br (decide (t8_i ≥ 0))
    (fixA Try.prog (Instr.indexAt 29 t0_a.v (Value.int .i64 t8_i)) w_.drew fun ad1 =>
     ldI .u64 ad1 w_.drew fun x1 =>
     (Calls Try.prog 70 #[t6_rest.v, Value.int .i64 32] w_.drew fun e1 w2 =>
      ∃ s2 : Slc, e1 = .returned s2.v ∧
      (Ahead w_.drew w2 ∧
       (newC w2 #[Value.int .u64 x1] 49 fun ad2 w3 =>
        Ahead w2 w3 ∧
        (Calls Try.prog 48 #[(⟨some ad2, 1, 1⟩ : Slc).v] w3 fun e2 w4 =>
         ∃ s3 : Slc, e2 = .returned s3.v ∧
         (Ahead w3 w4 ∧
          (Calls Try.prog 36 #[s2.v, s3.v] w4 fun e3 w5 =>
           ∃ s4 : Slc, e3 = .returned s4.v ∧
           (Ahead w4 w5 ∧
            (Calls Try.prog 28 #[s4.v, t1_b.v] w5 fun e4 w6 =>
             ∃ x2 : Int, e4 = .returned (Value.int .i64 x2) ∧
             (br (decide (x2 ≥ 0))
              (J2 t0_a t1_b t6_rest t7_out t8_i w_ t0_a t1_b s4 t7_out t8_i 0 31 w6)
              (semA Try.prog (Instr.indexAt 29 t7_out.v (Value.int .i64 t8_i)) w6 fun ad4 w13 =>
               stC ad4 (Value.int .u64 0) w13 fun w14 =>
               J0 t0_a t1_b s4 t7_out (IntKind.i64.wrap (t8_i - 1)) w14 ∧
               m0 t0_a t1_b s4 t7_out (IntKind.i64.wrap (t8_i - 1)) w14 < m0 t0_a t1_b t6_rest t7_out t8_i w_)))))))))) ∧
     (newC w_.drew #[Value.int .u64 x1] 49 fun ad5 w15 =>
      Ahead w_.drew w15 ∧
      (Calls Try.prog 70 #[t6_rest.v, Value.int .i64 32] w15 fun e8 w16 =>
       ∃ s7 : Slc, e8 = .returned s7.v ∧
       (Ahead w15 w16 ∧
        (Calls Try.prog 48 #[(⟨some ad5, 1, 1⟩ : Slc).v] w16 fun e9 w17 =>
         ∃ s8 : Slc, e9 = .returned s8.v ∧
         (Ahead w16 w17 ∧
          (Calls Try.prog 36 #[s7.v, s8.v] w17 fun e10 w18 =>
           ∃ s9 : Slc, e10 = .returned s9.v ∧
           (Ahead w17 w18 ∧
            (Calls Try.prog 28 #[s9.v, t1_b.v] w18 fun e11 w19 =>
             ∃ x5 : Int, e11 = .returned (Value.int .i64 x5) ∧
             (br (decide (x5 ≥ 0))
              (J2 t0_a t1_b t6_rest t7_out t8_i w_ t0_a t1_b s9 t7_out t8_i 0 31 w19)
              (semA Try.prog (Instr.indexAt 29 t7_out.v (Value.int .i64 t8_i)) w19 fun ad6 w20 =>
               stC ad6 (Value.int .u64 0) w20 fun w21 =>
               J0 t0_a t1_b s9 t7_out (IntKind.i64.wrap (t8_i - 1)) w21 ∧
               m0 t0_a t1_b s9 t7_out (IntKind.i64.wrap (t8_i - 1)) w21 < m0 t0_a t1_b t6_rest t7_out t8_i w_)))))))))))
    (Calls Try.prog 48 #[t7_out.v] w_ fun e12 w22 =>
     ∃ s10 : Slc, e12 = .returned s10.v ∧
     (R (.returned (Value.tuple #[s10.v, t6_rest.v])) w22)))
    (h2 : ∀ (t0_a : Slc) (t1_b : Slc) (t6_rest : Slc) (t7_out : Slc) (t8_i : Int) (w_ : World), J0 t0_a t1_b t6_rest t7_out t8_i w_ → ∀ (t0_a' : Slc) (t1_b' : Slc) (t6_rest' : Slc) (t7_out' : Slc) (t8_i' : Int) (t9_q' : Int) (t10_s' : Int) (w__ : World), J2 t0_a t1_b t6_rest t7_out t8_i w_ t0_a' t1_b' t6_rest' t7_out' t8_i' t9_q' t10_s' w__ → 
    br (decide (t10_s' ≥ 0))
    (Calls Try.prog 70 #[t1_b'.v, Value.int .i64 t10_s'] w__ fun e5 w7 =>
     ∃ s5 : Slc, e5 = .returned s5.v ∧
     (Calls Try.prog 28 #[t6_rest'.v, s5.v] w7 fun e6 w8 =>
      ∃ x3 : Int, e6 = .returned (Value.int .i64 x3) ∧
      (br (decide (x3 ≥ 0))
       (Calls Try.prog 30 #[t6_rest'.v, s5.v] w8 fun e7 w9 =>
        ∃ s6 : Slc, e7 = .returned s6.v ∧
        (semI Try.prog .u64 (binOp .shl 49 (Value.int .u64 1) (Value.int .i64 t10_s')) w9 fun x4 w10 =>
         J2 t0_a t1_b t6_rest t7_out t8_i w_ t0_a' t1_b' s6 t7_out' t8_i' (IntKind.u64.wrap (t9_q' + x4)) (IntKind.i64.wrap (t10_s' - 1)) w10 ∧
         m2 t0_a t1_b t6_rest t7_out t8_i w_ t0_a' t1_b' s6 t7_out' t8_i' (IntKind.u64.wrap (t9_q' + x4)) (IntKind.i64.wrap (t10_s' - 1)) w10 < m2 t0_a t1_b t6_rest t7_out t8_i w_ t0_a' t1_b' t6_rest' t7_out' t8_i' t9_q' t10_s' w__))
       (J2 t0_a t1_b t6_rest t7_out t8_i w_ t0_a' t1_b' t6_rest' t7_out' t8_i' t9_q' (IntKind.i64.wrap (t10_s' - 1)) w8 ∧
        m2 t0_a t1_b t6_rest t7_out t8_i w_ t0_a' t1_b' t6_rest' t7_out' t8_i' t9_q' (IntKind.i64.wrap (t10_s' - 1)) w8 < m2 t0_a t1_b t6_rest t7_out t8_i w_ t0_a' t1_b' t6_rest' t7_out' t8_i' t9_q' t10_s' w__))))
    (semA Try.prog (Instr.indexAt 29 t7_out'.v (Value.int .i64 t8_i')) w__ fun ad3 w11 =>
     stC ad3 (Value.int .u64 t9_q') w11 fun w12 =>
     J0 t0_a' t1_b' t6_rest' t7_out' (IntKind.i64.wrap (t8_i' - 1)) w12 ∧
     m0 t0_a' t1_b' t6_rest' t7_out' (IntKind.i64.wrap (t8_i' - 1)) w12 < m0 t0_a t1_b t6_rest t7_out t8_i w_)) :
    Calls Try.prog 62 #[a0_a.v, a1_b.v] w R := by
  refine calls_of_vc (surdref01_Div_cut J0 m0 J2 m2) (by kernel_rfl) Try.func62 rfl ?_ ?_
  · refine kcast h ?_; kernel_rfl
  · exact (obl_seq rfl (obl_reg (obl_seq rfl (obl_reg (obl_seq rfl (obl_reg (obl_seq rfl (obl_seq rfl (obl_reg (obl_loop _ rfl (fun a_ w_ hL_ => (by
    obtain ⟨hz_, hd_, hL_⟩ := atSz_out hL_
    obtain ⟨t0_a, h0_, hL_⟩ := atS_out hL_
    obtain ⟨t1_b, h1_, hL_⟩ := atS_out hL_
    obtain ⟨t6_rest, h6_, hL_⟩ := atS_out hL_
    obtain ⟨t7_out, h7_, hL_⟩ := atS_out hL_
    obtain ⟨t8_i, h8_, hL_⟩ := atI_out hL_
    obtain ⟨g0, rfl⟩ : ∃ g, a_ = Fr 60 [(0, t0_a.v), (1, t1_b.v), (6, t6_rest.v), (7, t7_out.v), (8, Value.int .i64 t8_i)] g := ⟨_, fr_of hz_ hd_ [(0, t0_a.v), (1, t1_b.v), (6, t6_rest.v), (7, t7_out.v), (8, Value.int .i64 t8_i)] (sel_cons h0_ (sel_cons h1_ (sel_cons h6_ (sel_cons h7_ (sel_cons h8_ sel_nil)))))⟩
    clear hz_ hd_ h0_ h1_ h6_ h7_ h8_
    have hJ0_ := hL_
    refine ⟨(surdref01_Div_cut_0 J0 m0 J2 m2 t0_a t1_b t6_rest t7_out t8_i w_), kcast (h0 t0_a t1_b t6_rest t7_out t8_i w_ hJ0_) ?_, ?_⟩
    · kernel_rfl
    · exact (obl_seq rfl (obl_seq rfl (obl_reg (obl_cond (obl_skip (obl_exit (obl_seq rfl (obl_blk rfl (obl_seq rfl (obl_held (by kernel_rfl) (by kernel_rfl) (by kernel_rfl) (obl_seq rfl (obl_reg (obl_seq rfl (obl_seq rfl (obl_reg (obl_cond (obl_seq rfl (obl_reg (obl_loop _ rfl (fun a_ w__ hL_ => (by
      obtain ⟨hz_, hd_, hL_⟩ := atSz_out hL_
      obtain ⟨t0_a', h0_, hL_⟩ := atS_out hL_
      obtain ⟨t1_b', h1_, hL_⟩ := atS_out hL_
      obtain ⟨t6_rest', h6_, hL_⟩ := atS_out hL_
      obtain ⟨t7_out', h7_, hL_⟩ := atS_out hL_
      obtain ⟨t8_i', h8_, hL_⟩ := atI_out hL_
      obtain ⟨t9_q', h9_, hL_⟩ := atI_out hL_
      obtain ⟨t10_s', h10_, hL_⟩ := atI_out hL_
      obtain ⟨g2, rfl⟩ : ∃ g, a_ = Fr 60 [(0, t0_a'.v), (1, t1_b'.v), (6, t6_rest'.v), (7, t7_out'.v), (8, Value.int .i64 t8_i'), (9, Value.int .u64 t9_q'), (10, Value.int .i64 t10_s')] g := ⟨_, fr_of hz_ hd_ [(0, t0_a'.v), (1, t1_b'.v), (6, t6_rest'.v), (7, t7_out'.v), (8, Value.int .i64 t8_i'), (9, Value.int .u64 t9_q'), (10, Value.int .i64 t10_s')] (sel_cons h0_ (sel_cons h1_ (sel_cons h6_ (sel_cons h7_ (sel_cons h8_ (sel_cons h9_ (sel_cons h10_ sel_nil)))))))⟩
      clear hz_ hd_ h0_ h1_ h6_ h7_ h8_ h9_ h10_
      have hJ2_ := hL_
      refine ⟨(fun _ => none), kcast (h2 t0_a t1_b t6_rest t7_out t8_i w_ hJ0_ t0_a' t1_b' t6_rest' t7_out' t8_i' t9_q' t10_s' w__ hJ2_) ?_, ?_⟩
      · kernel_rfl
      · exact (obl_seq rfl (obl_seq rfl (obl_reg (obl_cond (obl_skip (obl_exit (obl_seq rfl (obl_blk rfl (obl_seq rfl (obl_reg (obl_seq rfl (obl_reg (obl_cond (obl_seq rfl (obl_reg (obl_reg (obl_skip (obl_reg trivial)))))))))))))))))))) (obl_skip (obl_reg (obl_reg trivial)))))))))))))))))))))))) (obl_seq rfl (obl_reg (obl_ret trivial)))))))))))))

end Go.Proofs.Ytflipimlpgbnmaa
namespace Go.Proofs.Ytflipimlpgbnmaa
open Go Go.RowKit Eng Sp Dg
set_option linter.unusedVariables false
set_option linter.unusedSimpArgs false
set_option maxRecDepth 100000
namespace Nat

theorem drop_set_self (l : List Nat) (i q : Nat) (h : i < l.length) : (l.set i q).drop i = q :: l.drop (i + 1) := by
  apply List.ext_getElem?
  intro k
  rw [List.getElem?_drop]
  cases k with
  | zero => simp [h]
  | succ k =>
    rw [List.getElem?_set_ne (by omega)]
    simp; congr 1; omega

end Nat
end Go.Proofs.Ytflipimlpgbnmaa
namespace Go.Proofs.Ytflipimlpgbnmaa
set_option linter.unusedVariables false
set_option linter.unusedSimpArgs false
namespace Cb
def ch : Nat → Nat → Nat
  | _, 0 => 1
  | 0, _ + 1 => 0
  | n + 1, k + 1 => ch n k + ch n (k + 1)
/-- The sum of the first i of row n. -/
def rs (n : Nat) : Nat → Nat
  | 0 => 0
  | i + 1 => rs n i + ch n i
/-- The product of m numbers from lo on. -/
def run (lo : Nat) : Nat → Nat
  | 0 => 1
  | m + 1 => run lo m * (lo + m)
end Cb
end Go.Proofs.Ytflipimlpgbnmaa
namespace Go.Proofs.Ytflipimlpgbnmaa
open Go Go.RowKit Eng
set_option linter.unusedVariables false

def mul_Pow_cut (J0 : Slc → Int → Slc → Int → World → Prop) (m0 : Slc → Int → Slc → Int → World → Nat) : Nat → Option ((Act → World → Prop) × (Act → World → Nat))
  | 0 => some (fun a_ w_ => atSz a_ 63 (atS a_ 0 fun t0_a => atI .i64 a_ 1 fun t1_n => atS a_ 7 fun t7_out => atI .i64 a_ 8 fun t8_i => J0 t0_a t1_n t7_out t8_i w_), fun a_ w_ => mS a_ 0 fun t0_a => mI a_ 1 fun t1_n => mS a_ 7 fun t7_out => mI a_ 8 fun t8_i => m0 t0_a t1_n t7_out t8_i w_)
  | _ => none

set_option maxRecDepth 100000 in
/-- surd/mul.Pow: function 73. -/
theorem mul_Pow_vc (a0_a : Slc) (a1_n : Int) (w : World) (R : Ending → World → Prop)
    (J0 : Slc → Int → Slc → Int → World → Prop) (m0 : Slc → Int → Slc → Int → World → Nat)
    (h : br (decide (a1_n < 0))
    (R (.returned (Value.tuple #[(⟨none, 0, 0⟩ : Slc).v, Value.int .i64 1])) w)
    (Calls Try.prog 52 #[a0_a.v] w fun e1 w1 =>
     ∃ s1 : Slc, e1 = .returned s1.v ∧
     (br (a1_n == 0)
      (Calls Try.prog 47 #[Value.int .u64 1] w1 fun e2 w2 =>
       ∃ s2 : Slc, e2 = .returned s2.v ∧
       (R (.returned (Value.tuple #[s2.v, Value.int .i64 0])) w2))
      (Calls Try.prog 71 #[s1.v] w1 fun e3 w3 =>
       ∃ x1 : Int, e3 = .returned (Value.int .i64 x1) ∧
       (br (decide (x1 ≤ 1))
        (R (.returned (Value.tuple #[s1.v, Value.int .i64 0])) w3)
        (br (decide (a1_n > 67108864))
         (R (.returned (Value.tuple #[(⟨none, 0, 0⟩ : Slc).v, Value.int .i64 3])) w3)
         (br (decide ((IntKind.i64.wrap ((IntKind.i64.wrap ((IntKind.i64.wrap (x1 - 1)) * a1_n)) + 1)) > 67108864))
          (R (.returned (Value.tuple #[(⟨none, 0, 0⟩ : Slc).v, Value.int .i64 3])) w3)
          (Calls Try.prog 47 #[Value.int .u64 1] w3 fun e4 w4 =>
           ∃ s3 : Slc, e4 = .returned s3.v ∧
           (J0 s1 a1_n s3 62 w4)))))))))
    (h0 : ∀ (t0_a : Slc) (t1_n : Int) (t7_out : Slc) (t8_i : Int) (w_ : World), J0 t0_a t1_n t7_out t8_i w_ → 
    br (decide (t8_i ≥ 0))
    (br (decide ((t7_out.n : Int) > 0))
     (Calls Try.prog 77 #[t7_out.v] w_ fun e5 w5 =>
      ∃ s4 : Slc, ∃ x2 : Int, e5 = .returned (Value.tuple #[s4.v, Value.int .i64 x2]) ∧
      (br (x2 != 0)
       (R (.returned (Value.tuple #[(⟨none, 0, 0⟩ : Slc).v, Value.int .i64 x2])) w5)
       (semI Try.prog .i64 (binOp .shr 3 (Value.int .i64 t1_n) (Value.int .i64 t8_i)) w5 fun x3 w6 =>
        br ((andI .i64 x3 1) == 1)
        (Calls Try.prog 75 #[s4.v, t0_a.v] w6 fun e6 w7 =>
         ∃ s5 : Slc, ∃ x4 : Int, e6 = .returned (Value.tuple #[s5.v, Value.int .i64 x4]) ∧
         (br (x4 != 0)
          (R (.returned (Value.tuple #[(⟨none, 0, 0⟩ : Slc).v, Value.int .i64 x4])) w7)
          (J0 t0_a t1_n s5 (IntKind.i64.wrap (t8_i - 1)) w7 ∧
           m0 t0_a t1_n s5 (IntKind.i64.wrap (t8_i - 1)) w7 < m0 t0_a t1_n t7_out t8_i w_)))
        (J0 t0_a t1_n s4 (IntKind.i64.wrap (t8_i - 1)) w6 ∧
         m0 t0_a t1_n s4 (IntKind.i64.wrap (t8_i - 1)) w6 < m0 t0_a t1_n t7_out t8_i w_))))
     (semI Try.prog .i64 (binOp .shr 3 (Value.int .i64 t1_n) (Value.int .i64 t8_i)) w_ fun x5 w8 =>
      br ((andI .i64 x5 1) == 1)
      (Calls Try.prog 75 #[t7_out.v, t0_a.v] w8 fun e7 w9 =>
       ∃ s6 : Slc, ∃ x6 : Int, e7 = .returned (Value.tuple #[s6.v, Value.int .i64 x6]) ∧
       (br (x6 != 0)
        (R (.returned (Value.tuple #[(⟨none, 0, 0⟩ : Slc).v, Value.int .i64 x6])) w9)
        (J0 t0_a t1_n s6 (IntKind.i64.wrap (t8_i - 1)) w9 ∧
         m0 t0_a t1_n s6 (IntKind.i64.wrap (t8_i - 1)) w9 < m0 t0_a t1_n t7_out t8_i w_)))
      (J0 t0_a t1_n t7_out (IntKind.i64.wrap (t8_i - 1)) w8 ∧
       m0 t0_a t1_n t7_out (IntKind.i64.wrap (t8_i - 1)) w8 < m0 t0_a t1_n t7_out t8_i w_)))
    (R (.returned (Value.tuple #[t7_out.v, Value.int .i64 0])) w_)) :
    Calls Try.prog 73 #[a0_a.v, Value.int .i64 a1_n] w R := by
  refine calls_of_vc (mul_Pow_cut J0 m0) (by kernel_rfl) Try.func73 rfl ?_ ?_
  · refine kcast h ?_; kernel_rfl
  · exact (obl_seq rfl (obl_reg (obl_seq rfl (obl_seq rfl (obl_reg (obl_cond (obl_seq rfl (obl_reg (obl_ret (obl_skip (obl_seq rfl (obl_reg (obl_seq rfl (obl_seq rfl (obl_reg (obl_cond (obl_seq rfl (obl_reg (obl_ret (obl_skip (obl_seq rfl (obl_reg (obl_seq rfl (obl_seq rfl (obl_reg (obl_cond (obl_seq rfl (obl_reg (obl_ret (obl_skip (obl_seq rfl (obl_seq rfl (obl_reg (obl_cond (obl_seq rfl (obl_reg (obl_ret (obl_skip (obl_seq rfl (obl_reg (obl_seq rfl (obl_seq rfl (obl_reg (obl_loop _ rfl (fun a_ w_ hL_ => (by
    obtain ⟨hz_, hd_, hL_⟩ := atSz_out hL_
    obtain ⟨t0_a, h0_, hL_⟩ := atS_out hL_
    obtain ⟨t1_n, h1_, hL_⟩ := atI_out hL_
    obtain ⟨t7_out, h7_, hL_⟩ := atS_out hL_
    obtain ⟨t8_i, h8_, hL_⟩ := atI_out hL_
    obtain ⟨g0, rfl⟩ : ∃ g, a_ = Fr 63 [(0, t0_a.v), (1, Value.int .i64 t1_n), (7, t7_out.v), (8, Value.int .i64 t8_i)] g := ⟨_, fr_of hz_ hd_ [(0, t0_a.v), (1, Value.int .i64 t1_n), (7, t7_out.v), (8, Value.int .i64 t8_i)] (sel_cons h0_ (sel_cons h1_ (sel_cons h7_ (sel_cons h8_ sel_nil))))⟩
    clear hz_ hd_ h0_ h1_ h7_ h8_
    have hJ0_ := hL_
    refine ⟨(fun _ => none), kcast (h0 t0_a t1_n t7_out t8_i w_ hJ0_) ?_, ?_⟩
    · kernel_rfl
    · exact (obl_seq rfl (obl_seq rfl (obl_reg (obl_cond (obl_skip (obl_exit (obl_seq rfl (obl_blk rfl (obl_seq rfl (obl_reg (obl_seq rfl (obl_seq rfl (obl_reg (obl_cond (obl_seq rfl (obl_reg (obl_seq rfl (obl_reg (obl_cond (obl_seq rfl (obl_reg (obl_ret (obl_skip (obl_skip (obl_seq rfl (obl_reg (obl_cond (obl_seq rfl (obl_reg (obl_seq rfl (obl_reg (obl_cond (obl_seq rfl (obl_reg (obl_ret (obl_skip (obl_skip (obl_reg trivial)))))))))))))))))))))))))))))))))))))))) (obl_seq rfl (obl_reg (obl_ret trivial)))))))))))))))))))))))))))))))))))))))))))))))

end Go.Proofs.Ytflipimlpgbnmaa
namespace Go.Proofs.Ytflipimlpgbnmaa
open Go Go.RowKit Eng Sp Dg
set_option linter.unusedVariables false
set_option linter.unusedSimpArgs false
set_option maxRecDepth 100000
namespace Mul
open _root_.Go.Proofs.Ytflipimlpgbnmaa.Nat (Num OwnNil OwnNil.nil OwnNil.rd OwnNil.mono OwnNil.ahead Ret bigC bigC_ok digs_len_bl Yes num_of own_num Norm_spec From_spec len_num andI_i64)

theorem semShrI {x y : Nat} {t : TypeId} {w : World} {K : Int → World → Prop} (hy : y < 64) (h : K ((x / 2 ^ y : Nat) : Int) w) :
    semI pr .i64 (binOp .shr t (.int .i64 (x : Int)) (.int .i64 (y : Int))) w K := by
  have e : binOp .shr t (.int .i64 (x : Int)) (.int .i64 (y : Int)) = pure (.int .i64 ((x / 2 ^ y : Nat) : Int)) := by
    rw [binOp_shr, shift_shr_any .i64 .i64 _ _ (by omega)]
    have : min ((y : Int)).toNat IntKind.i64.bits = y := by
      have : IntKind.i64.bits = 64 := rfl
      rw [this]; omega
    rw [this]
    congr 2
  unfold semI
  rw [e, Sem.wp_iff_run]
  exact ⟨_, rfl, h⟩

theorem pow_bl {x n m : Nat} (h : m ≤ n) (hb : bl x * n ≤ 67108864) : bl (x ^ m) ≤ 67108864 := by
  have h1 : x ^ m < 2 ^ (bl x * m + 1) := by
    refine Nat.lt_of_le_of_lt (Nat.pow_le_pow_left (Nat.le_of_lt (lt_bl x)) m) ?_
    rw [← Nat.pow_mul]
    exact Nat.pow_lt_pow_right (by omega) (by omega)
  rcases Nat.eq_zero_or_pos m with h0 | h0
  · subst h0
    rw [Nat.pow_zero]
    exact Nat.le_trans (bl_le (k := 1) (by omega)) (by omega)
  · have : x ^ m < 2 ^ (bl x * m) := by
      rw [Nat.pow_mul]
      exact Nat.pow_lt_pow_left (lt_bl x) (by omega)
    exact Nat.le_trans (bl_le this) (Nat.le_trans (Nat.mul_le_mul_left _ h) hb)
theorem Pow_spec {w : World} {a : Slc} {x n : Nat} (ha : Num w a x) (hx : 2 ≤ bl x) (h0 : 1 ≤ n) (hb : bl x * n ≤ 67108864) : Calls pr mul_Pow_id #[a.v, .int .i64 (n : Int)] w (Ret w 0 (x ^ n)) := by
  have hB := B64v
  have hn : n ≤ 67108864 := Nat.le_trans (Nat.le_mul_of_pos_left n (by omega)) hb
  have hxb : bl x ≤ 67108864 := Nat.le_trans (Nat.le_mul_of_pos_right (bl x) h0) hb
  have hne : x ≠ 0 := fun h => by rw [h, bl_zero] at hx; omega
  have lx := digs_len_bl (N := x) (m := 2 ^ 20) (by omega)
  have lp : ∀ m, m ≤ n → bl (x ^ m) ≤ 67108864 ∧ (digs B64 (x ^ m)).length ≤ 2 ^ 20 := fun m h => ⟨pow_bl h hb, digs_len_bl (m := 2 ^ 20) (by have := pow_bl h hb; omega)⟩
  refine mul_Pow_vc a _ w _ (fun s t out i w' => t = (n : Int) ∧ ∃ j : Nat, i = (j : Int) - 1 ∧ j ≤ 63 ∧ Ahead w w' ∧ OwnNil w.heap.size w' s (digs B64 x) ∧ OwnNil w.heap.size w' out (digs B64 (x ^ (n / 2 ^ j)))) (fun _ _ _ i _ => (i + 1).toNat) ?_ ?_
  · refine br_false (decide_eq_false (by omega)) ?_
    obtain ⟨l, rl, ll, ol, vl⟩ := ha
    refine Calls.mono (Norm_spec rl ll ol) ?_
    rw [vl]
    rintro e w1 ⟨h1, s, rfl, os⟩
    refine ⟨_, rfl, br_false (beq_eq_false_iff_ne.2 (by omega)) (Calls.mono (len_num (own_num os hxb)) ?_)⟩
    rintro e w2 ⟨rfl, rfl⟩
    refine ⟨_, rfl, br_false (decide_eq_false (by omega)) (br_false (decide_eq_false (by omega)) ?_)⟩
    have hm : (bl x - 1) * n + 1 ≤ 67108864 := by
      have : (bl x - 1) * n + n = bl x * n := by rw [← Nat.succ_mul]; congr 1; omega
      omega
    have e1 : ((bl x : Int) - 1) * (n : Int) = (((bl x - 1) * n : Nat) : Int) := by rw [Int.natCast_mul]; congr 1; omega
    rw [wrap_i64 (x := (bl x : Int) - 1) (by omega) (by omega), e1, wrap_i64 (x := (((bl x - 1) * n : Nat) : Int)) (by omega) (by omega), wrap_i64 (by omega) (by omega)]
    refine br_false (decide_eq_false (by omega)) ?_
    refine Calls.mono (From_spec (v := 1) (by omega)) ?_
    rintro e w3 ⟨h3, t, rfl, ot⟩
    refine ⟨_, rfl, rfl, 63, rfl, Nat.le_refl _, h1.trans h3, os.ahead h3, ?_⟩
    rw [Nat.div_eq_of_lt (by omega), Nat.pow_zero]
    exact ot.mono h1.size
  · rintro s t out i w1 ⟨rfl, j, rfl, hj, h1, os, oo⟩
    refine br_intro (fun hge => ?_) (fun hlt => ?_)
    · have hj' : 1 ≤ j := by have := of_decide_eq_true hge; omega
      have hle : n / 2 ^ j ≤ n := Nat.div_le_self _ _
      have hle2 : n / 2 ^ (j - 1) ≤ n := Nat.div_le_self _ _
      have hdd : n / 2 ^ (j - 1) / 2 = n / 2 ^ j := by
        rw [Nat.div_div_eq_div_mul, ← Nat.pow_succ]; congr 2; omega
      have hpos : 0 < x ^ (n / 2 ^ j) := Nat.pow_pos (by omega)
      have hlen : 0 < out.n := by
        rw [oo.rd.n, nn_length]
        exact List.length_pos_iff.2 (digs_ne_nil two64 (by omega))
      have lo := lp _ hle
      have l2 := lp _ hle2
      have hsq : x ^ (n / 2 ^ j) * x ^ (n / 2 ^ j) = x ^ (2 * (n / 2 ^ j)) := by rw [← Nat.pow_add]; congr 1; omega
      have lsq := lp (2 * (n / 2 ^ j)) (by omega)
      have no : Num w1 out (x ^ (n / 2 ^ j)) := own_num oo lo.1
      refine br_true (decide_eq_true (by omega)) (mul_Square_vc out w1 _ (Calls.mono (Mul_spec no no (by omega) (by omega)) ?_))
      rw [hsq]
      intro e w2 hr
      obtain ⟨h2, q, rfl, oq, nq⟩ := hr.num (bigC_ok lsq.1) lsq.1
      refine ⟨_, _, rfl, _, _, rfl, br_false rfl ?_⟩
      rw [show (j : Int) - 1 = ((j - 1 : Nat) : Int) by omega]
      refine semShrI (by omega) ?_
      rw [show (1 : Int) = ((1 : Nat) : Int) from rfl, andI_i64 (by omega) (by omega), Nat.and_one_is_mod, show ((j - 1 : Nat) : Int) - ((1 : Nat) : Int) = ((j - 1 : Nat) : Int) - 1 from rfl, wrap_i64 (x := ((j - 1 : Nat) : Int) - 1) (by omega) (by omega)]
      refine br_intro (fun hbit => ?_) (fun hbit => ?_)
      · have hb1 : n / 2 ^ (j - 1) % 2 = 1 := by have := eq_of_beq hbit; omega
        have ee : x ^ (2 * (n / 2 ^ j)) * x = x ^ (n / 2 ^ (j - 1)) := by rw [← Nat.pow_succ]; congr 1; omega
        refine Calls.mono (Mul_spec nq (own_num (os.ahead h2) hxb) (by omega) (by omega)) ?_
        rw [ee]
        intro e w3 hr
        obtain ⟨h3, u, rfl, ou, nu⟩ := hr.num (bigC_ok l2.1) l2.1
        refine ⟨_, _, rfl, br_false rfl ⟨⟨rfl, j - 1, rfl, by omega, (h1.trans h2).trans h3, (os.ahead h2).ahead h3, ou.mono (h1.trans h2).size⟩, by omega⟩⟩
      · have hb0 : n / 2 ^ (j - 1) % 2 = 0 := by
          have : ¬ n / 2 ^ (j - 1) % 2 = 1 := fun h => by rw [h] at hbit; simp at hbit
          omega
        have ee : 2 * (n / 2 ^ j) = n / 2 ^ (j - 1) := by omega
        rw [ee] at oq
        exact ⟨⟨rfl, j - 1, rfl, by omega, h1.trans h2, os.ahead h2, oq.mono h1.size⟩, by omega⟩
    · have hj' : j = 0 := by have := of_decide_eq_false hlt; omega
      subst hj'
      rw [Nat.pow_zero, Nat.div_one] at oo
      exact ⟨h1, _, rfl, by rw [if_pos rfl]; exact oo⟩

end Mul
end Go.Proofs.Ytflipimlpgbnmaa
namespace Go.Proofs.Ytflipimlpgbnmaa
open Go Go.RowKit Eng Sp Dg
set_option linter.unusedVariables false
set_option linter.unusedSimpArgs false
set_option maxRecDepth 100000
namespace Bd
open _root_.Go.Proofs.Ytflipimlpgbnmaa.Nat (Num OwnNil)

def IsMap (w : World) (m : Nat) : Prop := ∃ es clock, w.heap[m]? = some (.map es clock)
/-- The map m may change, and what is new. -/
abbrev Mp (m : Nat) (w w' : World) : Prop := Bar (fun k => k = m) w w'
theorem ne_of_cell {w : World} {m : Nat} (hm : IsMap w m) {ad : Addr} {v : Value} (hc : w.cell? ad = some v) : ¬ ad.block = m := by
  rintro rfl
  obtain ⟨es, c, h⟩ := hm
  simp [World.cell?, h] at hc
theorem Mp.cell {m : Nat} {w w' : World} (h : Mp m w w') (hm : IsMap w m) {ad : Addr} {v : Value} (hc : w.cell? ad = some v) : w'.cell? ad = some v :=
  Bar.cell h (ne_of_cell hm hc) hc
theorem rd_keep {k : IntKind} {w w' : World} {s : Slc} {l : List Int} (h : Rd k w s l) (hk : ∀ ad v, w.cell? ad = some v → w'.cell? ad = some v) : Rd k w' s l :=
  ⟨h.n, h.c, fun i hi => by obtain ⟨ad, e, hc⟩ := h.get i hi; exact ⟨ad, e, hk _ _ hc⟩⟩
theorem Mp.rd {m : Nat} {w w' : World} (h : Mp m w w') (hm : IsMap w m) {k : IntKind} {s : Slc} {l : List Int} (hr : Rd k w s l) : Rd k w' s l :=
  rd_keep hr fun _ _ hc => h.cell hm hc
theorem Mp.num {m : Nat} {w w' : World} (h : Mp m w w') (hm : IsMap w m) {s : Slc} {N : Nat} (hr : Num w s N) : Num w' s N := by
  obtain ⟨l, h1, h2⟩ := hr
  exact ⟨l, h.rd hm h1, h2⟩
theorem Mp.own {m : Nat} {w w' : World} (h : Mp m w w') (hm : IsMap w m) {base : Nat} {s : Slc} {l : List Nat} (hr : OwnNil base w s l) : OwnNil base w' s l := by
  rcases hr with hr | ⟨b, h1, h2, h3⟩
  · exact .inl hr
  · refine .inr ⟨b, h1, h2, h3.hd, ?_⟩
    obtain ⟨sp, q1, q2⟩ := h3.mem
    refine ⟨sp, q1, ?_⟩
    rw [h.block b h3.lt ?_]
    · exact q2
    · rintro rfl
      obtain ⟨es, c, hh⟩ := hm
      rw [hh] at q2; cases q2

def Good (w : World) (f : Nat → Nat) (e : MapEntry) : Prop := ∃ (n : Nat) (s : Slc), e.key = .int .i64 (n : Int) ∧ e.val = s.v ∧ Num w s (f n)
/-- The block is a map: under n it keeps what reads as f n, or nothing. -/
def MapOk (w : World) (m : Nat) (f : Nat → Nat) : Prop := ∃ es clock, w.heap[m]? = some (.map es clock) ∧ ∀ e ∈ es.toList, Good w f e
theorem MapOk.is {w : World} {m : Nat} {f : Nat → Nat} (h : MapOk w m f) : IsMap w m := by
  obtain ⟨es, c, h, _⟩ := h; exact ⟨es, c, h⟩
theorem MapOk.lt {w : World} {m : Nat} {f : Nat → Nat} (h : MapOk w m f) : m < w.heap.size := by
  obtain ⟨es, c, h, _⟩ := h; exact (Array.getElem?_eq_some_iff.1 h).1
theorem MapOk.made (w : World) (f : Nat → Nat) : MapOk (w.alloc (.map #[] 0)) w.heap.size f := ⟨#[], 0, get_alloc _ _, fun e he => by simp at he⟩
theorem MapOk.ahead {w w' : World} {m : Nat} {f : Nat → Nat} (h : MapOk w m f) (ha : Ahead w w') : MapOk w' m f := by
  have hl := h.lt
  obtain ⟨es, c, h1, h2⟩ := h
  refine ⟨es, c, by rw [ha.block m hl]; exact h1, fun e he => ?_⟩
  obtain ⟨n, s, q1, q2, q3⟩ := h2 e he
  exact ⟨n, s, q1, q2, q3.ahead ha⟩

theorem findNow_int (n : Int) : ∀ (es : List MapEntry) (i : Nat), (∀ e ∈ es, ∃ x : Int, e.key = .int .i64 x) →
    Instr.findNow (.int .i64) (.int .i64 n) es i = some none ∨ ∃ e j, es[j]? = some e ∧ e.key = .int .i64 n ∧ Instr.findNow (.int .i64) (.int .i64 n) es i = some (some (i + j, e.val))
  | [], i, _ => .inl rfl
  | e :: es, i, h => by
    obtain ⟨x, hx⟩ := h e (by simp)
    unfold Instr.findNow
    rw [hx]
    by_cases hnx : n = x
    · subst hnx
      exact .inr ⟨e, 0, rfl, hx, by simp [Instr.sameNow]⟩
    · have hne : (n == x) = false := beq_eq_false_iff_ne.2 hnx
      simp only [Instr.sameNow, if_true, hne]
      rcases findNow_int n es (i + 1) (fun e he => h e (by simp [he])) with h1 | ⟨e', j, h1, h2, h3⟩
      · exact .inl h1
      · exact .inr ⟨e', j + 1, by simpa using h1, h2, by rw [h3, show i + 1 + j = i + (j + 1) by omega]⟩

section
variable {P : Program} {t k e : TypeId}
theorem check_int (hk : P.underlying k = some (.int .i64)) (b : Bool) (n : Int) (w : World) : (Instr.checkKey b 10000 k (.int .i64 n)).run P w = .ok () w := by
  show (Instr.checkKey b (9999 + 1) k (.int .i64 n)).run P w = .ok () w
  unfold Instr.checkKey
  simp [run_underlying hk, Result.andThen]
theorem find_int (hk : P.underlying k = some (.int .i64)) (n : Int) {es : List MapEntry} (h : ∀ e ∈ es, ∃ x : Int, e.key = .int .i64 x) (w : World) :
    (Instr.findKey k (.int .i64 n) es).run P w = .ok none w ∨ ∃ e j, es[j]? = some e ∧ e.key = .int .i64 n ∧ (Instr.findKey k (.int .i64 n) es).run P w = .ok (some (j, e.val)) w := by
  rcases findNow_int n es 0 h with h1 | ⟨e, j, h1, h2, h3⟩
  · left
    unfold Instr.findKey
    simp [run_underlying hk, h1, Result.andThen]
  · right
    refine ⟨e, j, h1, h2, ?_⟩
    unfold Instr.findKey
    simp [run_underlying hk, h3, Result.andThen]
theorem MapOk.keys {w : World} {f : Nat → Nat} {es : Array MapEntry} (h : ∀ e ∈ es.toList, Good w f e) : ∀ e ∈ es.toList, ∃ x : Int, e.key = .int .i64 x := fun e he => by
  obtain ⟨n, s, q, _⟩ := h e he; exact ⟨_, q⟩
/-- A look-up: what is kept, or that there is nothing. -/
theorem lookup (hT : P.underlying t = some (.map k e)) (hk : P.underlying k = some (.int .i64)) {w : World} (hz : (zeroValue e).run P w = .ok (Slc.v ⟨none, 0, 0⟩) w) {m : Nat} {f : Nat → Nat} (h : MapOk w m f) (n : Nat)
    {K : Value → World → Prop} (h1 : ∀ s, Num w s (f n) → K (.tuple #[Slc.v s, .bool true]) w) (h2 : K (.tuple #[Slc.v ⟨none, 0, 0⟩, .bool false]) w) :
    (Instr.lookup t (.map (some m)) (.int .i64 (n : Int)) true).wp P K (fun _ _ => False) w := by
  obtain ⟨es, c, hb, hg⟩ := h
  rw [Sem.wp_iff_run]
  rcases find_int hk (n : Int) (MapOk.keys hg) w with hf | ⟨x, j, q1, q2, hf⟩
  · have hr : (Instr.lookup t (.map (some m)) (.int .i64 (n : Int)) true).run P w = .ok (.tuple #[Slc.v ⟨none, 0, 0⟩, .bool false]) w := by
      simp [Instr.lookup, run_underlying hT, MapKept.run_getObj_map hb, check_int hk, hf, hz, Result.andThen]
    rw [hr]; exact h2
  · have hm : x ∈ es.toList := List.mem_of_getElem? q1
    obtain ⟨n', s, g1, g2, g3⟩ := hg x hm
    have e1 : n' = n := by rw [q2] at g1; injection g1; omega
    subst e1
    have hr : (Instr.lookup t (.map (some m)) (.int .i64 (n' : Int)) true).run P w = .ok (.tuple #[Slc.v s, .bool true]) w := by
      simp [Instr.lookup, run_underlying hT, MapKept.run_getObj_map hb, check_int hk, hf, Result.andThen, g2]
    rw [hr]; exact h1 s g3
/-- A store into the map: it alone turns. -/
theorem update (hT : P.underlying t = some (.map k e)) (hk : P.underlying k = some (.int .i64)) {w : World} {m : Nat} {f : Nat → Nat} (h : MapOk w m f) (n : Nat) {s : Slc} (hs : Num w s (f n))
    {K : Unit → World → Prop} (h1 : ∀ w', Mp m w w' → MapOk w' m f → K () w') : (Instr.mapUpdate t (.map (some m)) (.int .i64 (n : Int)) s.v).wp P K (fun _ _ => False) w := by
  have hl := h.lt
  have him := h.is
  obtain ⟨es, c, hb, hg⟩ := h
  rw [Sem.wp_iff_run]
  have turn : ∀ es' c', (∀ x ∈ es'.toList, x ∈ es.toList ∨ (x.key = .int .i64 (n : Int) ∧ x.val = s.v)) →
      Mp m w { w with heap := w.heap.setIfInBounds m (.map es' c') } ∧ MapOk { w with heap := w.heap.setIfInBounds m (.map es' c') } m f := by
    intro es' c' hes
    have hM : Mp m w { w with heap := w.heap.setIfInBounds m (.map es' c') } := ⟨rfl, rfl, rfl, by simp, fun i hi hne => by simp [Array.getElem?_setIfInBounds, Ne.symm hne]⟩
    refine ⟨hM, es', c', by simp [hl], fun x hx => ?_⟩
    rcases hes x hx with h | ⟨h, h'⟩
    · obtain ⟨n', s', q1, q2, q3⟩ := hg x h
      exact ⟨n', s', q1, q2, hM.num him q3⟩
    · exact ⟨n, s, h, h', hM.num him hs⟩
  rcases find_int hk (n : Int) (MapOk.keys hg) w with hf | ⟨x, j, q1, q2, hf⟩
  · have hr : (Instr.mapUpdate t (.map (some m)) (.int .i64 (n : Int)) s.v).run P w = .ok () { w with heap := w.heap.setIfInBounds m (.map (es.push { key := .int .i64 (n : Int), val := s.v, born := c }) (c + 1)) } := by
      simp [Instr.mapUpdate, run_underlying hT, MapKept.run_getObj_map hb, check_int hk, hf, Result.andThen, MapKept.run_setObj_map _ hb]
    obtain ⟨h2, h3⟩ := turn (es.push { key := .int .i64 (n : Int), val := s.v, born := c }) (c + 1) (fun x hx => by
      simp at hx
      rcases hx with hx | rfl
      · exact .inl (by simpa using hx)
      · exact .inr ⟨rfl, rfl⟩)
    rw [hr]; exact h1 _ h2 h3
  · have hr : (Instr.mapUpdate t (.map (some m)) (.int .i64 (n : Int)) s.v).run P w = .ok () { w with heap := w.heap.setIfInBounds m (.map (es.modify j fun e => { e with key := .int .i64 (n : Int), val := s.v }) c) } := by
      have q1' : es[j]? = some x := by simpa using q1
      have hkk : ((es[j]?).map (·.key)).getD (.int .i64 (n : Int)) = .int .i64 (n : Int) := by rw [q1']; simp [q2]
      have hsb : Instr.sameBits 10000 (.int .i64 (n : Int)) (.int .i64 (n : Int)) = true := by
        show Instr.sameBits (9999 + 1) _ _ = true
        simp [Instr.sameBits]
      simp only [Instr.mapUpdate, run_underlying hT, MapKept.run_getObj_map hb, check_int hk, hf, Result.andThen, hkk, Instr.keyThatStays, hsb, Sem.run_bind, Sem.run_pure, if_true, MapKept.run_setObj_map _ hb]
    obtain ⟨h2, h3⟩ := turn (es.modify j fun e => { e with key := .int .i64 (n : Int), val := s.v }) c (fun y hy => by
      obtain ⟨i, hi, hy⟩ := List.mem_iff_getElem.1 hy
      simp only [Array.toList_modify, List.getElem_modify] at hy
      split at hy
      · subst hy; exact .inr ⟨rfl, rfl⟩
      · subst hy; exact .inl (List.getElem_mem _))
    rw [hr]; exact h1 _ h2 h3
end
end Bd
end Go.Proofs.Ytflipimlpgbnmaa
namespace Go.Proofs.Ytflipimlpgbnmaa
open Go Go.RowKit Eng
set_option linter.unusedVariables false

def numeral_build_cut (J0 : Slc → Addr → World → Prop) (m0 : Slc → Addr → World → Nat) : Nat → Option ((Act → World → Prop) × (Act → World → Nat))
  | 0 => some (fun a_ w_ => atSz a_ 31 (atS a_ 0 fun t0_l => atA a_ 3 fun t3_base => J0 t0_l t3_base w_), fun a_ w_ => mS a_ 0 fun t0_l => mA a_ 3 fun t3_base => m0 t0_l t3_base w_)
  | _ => none

set_option maxRecDepth 100000 in
/-- surd/numeral.build: function 68. -/
theorem numeral_build_vc (a0_l : Slc) (a1_base : Int) (w : World) (R : Ending → World → Prop)
    (J0 : Slc → Addr → World → Prop) (m0 : Slc → Addr → World → Nat)
    (h : newC w #[Value.int .i64 a1_base] 3 fun ad1 w1 =>
    J0 a0_l ad1 w1)
    (h0 : ∀ (t0_l : Slc) (t3_base : Addr) (w_ : World), J0 t0_l t3_base w_ → 
    br (decide ((t0_l.n : Int) > 0))
    (semA Try.prog (Instr.indexAt 38 t0_l.v (Value.int .i64 0)) w_ fun ad2 w2 =>
     ldI .i64 ad2 w2 fun x1 =>
     br (x1 == 0)
     (semS Try.prog (Instr.sliceAt 38 t0_l.v (some (Value.int .i64 1)) none none) w2 fun s1 w3 =>
      J0 s1 t3_base w3 ∧
      m0 s1 t3_base w3 < m0 t0_l t3_base w_)
     (br (decide ((t0_l.n : Int) > 67108864))
      (R (.returned (Value.tuple #[(⟨none, 0, 0⟩ : Slc).v, Value.int .i64 3])) w2)
      (Sem.wp Try.prog (Instr.makeMap 110 none) (fun v1 w4 =>
        ∃ m1 : Option Nat, v1 = Value.map m1 ∧
        (newC w4 #[Value.map none] 110 fun ad3 w5 =>
         stC ad3 (Value.map m1) w5 fun w6 =>
         newC w6 #[Value.nilFunc] 28 fun ad4 w7 =>
         stC ad4 (Value.func (Fn.func 72) #[] #[Value.pointer (some ad3), Value.pointer (some t3_base)]) w7 fun w8 =>
         newC w8 #[Value.nilFunc] 113 fun ad5 w9 =>
         stC ad5 (Value.func (Fn.func 74) #[] #[Value.pointer (some t3_base), Value.pointer (some ad5), Value.pointer (some ad4)]) w9 fun w10 =>
         ldV ad5 w10 fun v2 =>
         callX Try.prog v2 #[t0_l.v] w10 fun e1 w11 =>
         ∃ s2 : Slc, ∃ x2 : Int, e1 = .returned (Value.tuple #[s2.v, Value.int .i64 x2]) ∧
         (R (.returned (Value.tuple #[s2.v, Value.int .i64 x2])) w11))) (fun _ _ => False) w2)))
    (br (decide ((t0_l.n : Int) > 67108864))
     (R (.returned (Value.tuple #[(⟨none, 0, 0⟩ : Slc).v, Value.int .i64 3])) w_)
     (Sem.wp Try.prog (Instr.makeMap 110 none) (fun v3 w12 =>
       ∃ m2 : Option Nat, v3 = Value.map m2 ∧
       (newC w12 #[Value.map none] 110 fun ad6 w13 =>
        stC ad6 (Value.map m2) w13 fun w14 =>
        newC w14 #[Value.nilFunc] 28 fun ad7 w15 =>
        stC ad7 (Value.func (Fn.func 72) #[] #[Value.pointer (some ad6), Value.pointer (some t3_base)]) w15 fun w16 =>
        newC w16 #[Value.nilFunc] 113 fun ad8 w17 =>
        stC ad8 (Value.func (Fn.func 74) #[] #[Value.pointer (some t3_base), Value.pointer (some ad8), Value.pointer (some ad7)]) w17 fun w18 =>
        ldV ad8 w18 fun v4 =>
        callX Try.prog v4 #[t0_l.v] w18 fun e2 w19 =>
        ∃ s3 : Slc, ∃ x3 : Int, e2 = .returned (Value.tuple #[s3.v, Value.int .i64 x3]) ∧
        (R (.returned (Value.tuple #[s3.v, Value.int .i64 x3])) w19))) (fun _ _ => False) w_))) :
    Calls Try.prog 68 #[a0_l.v, Value.int .i64 a1_base] w R := by
  refine calls_of_vc (numeral_build_cut J0 m0) (by kernel_rfl) Try.func68 rfl ?_ ?_
  · refine kcast h ?_; kernel_rfl
  · exact (obl_seq rfl (obl_reg (obl_seq rfl (obl_loop _ rfl (fun a_ w_ hL_ => (by
    obtain ⟨hz_, hd_, hL_⟩ := atSz_out hL_
    obtain ⟨t0_l, h0_, hL_⟩ := atS_out hL_
    obtain ⟨t3_base, h3_, hL_⟩ := atA_out hL_
    obtain ⟨g0, rfl⟩ : ∃ g, a_ = Fr 31 [(0, t0_l.v), (3, Value.pointer (some t3_base))] g := ⟨_, fr_of hz_ hd_ [(0, t0_l.v), (3, Value.pointer (some t3_base))] (sel_cons h0_ (sel_cons h3_ sel_nil))⟩
    clear hz_ hd_ h0_ h3_
    have hJ0_ := hL_
    refine ⟨(fun _ => none), kcast (h0 t0_l t3_base w_ hJ0_) ?_, ?_⟩
    · kernel_rfl
    · exact (obl_seq rfl (obl_seq rfl (obl_reg (obl_cond (obl_skip (obl_exit (obl_blk rfl (obl_reg trivial)))))))))) (obl_seq rfl (obl_seq rfl (obl_reg (obl_cond (obl_seq rfl (obl_reg (obl_ret (obl_skip (obl_seq rfl (obl_reg (obl_seq rfl (obl_reg (obl_seq rfl (obl_reg (obl_seq rfl (obl_reg (obl_seq rfl (obl_reg (obl_seq rfl (obl_reg (obl_ret trivial)))))))))))))))))))))))))

set_option maxRecDepth 100000 in
/-- surd/numeral.build$1: function 72. -/
theorem numeral_build_1_vc (a0_n : Int) (c1 : Addr) (c2 : Addr) (w : World) (R : Ending → World → Prop)
    
    (h : ldM c1 w fun m1 =>
    Sem.wp Try.prog (Instr.lookup 110 (Value.map m1) (Value.int .i64 a0_n) true) (fun v1 w1 =>
     ∃ s1 : Slc, ∃ b1 : Bool, v1 = Value.tuple #[s1.v, Value.bool b1] ∧
     (br b1
      (R (.returned (Value.tuple #[s1.v, Value.int .i64 0])) w1)
      (ldI .i64 c2 w1 fun x1 =>
       Calls Try.prog 47 #[Value.int .u64 (IntKind.u64.wrap x1)] w1 fun e1 w2 =>
       ∃ s2 : Slc, e1 = .returned s2.v ∧
       (Calls Try.prog 73 #[s2.v, Value.int .i64 a0_n] w2 fun e2 w3 =>
        ∃ s3 : Slc, ∃ x2 : Int, e2 = .returned (Value.tuple #[s3.v, Value.int .i64 x2]) ∧
        (br (x2 == 0)
         (ldM c1 w3 fun m2 =>
          Sem.wp Try.prog (Instr.mapUpdate 110 (Value.map m2) (Value.int .i64 a0_n) s3.v) (fun _ w4 =>
           R (.returned (Value.tuple #[s3.v, Value.int .i64 x2])) w4) (fun _ _ => False) w3)
         (R (.returned (Value.tuple #[s3.v, Value.int .i64 x2])) w3)))))) (fun _ _ => False) w) :
    Calls Try.prog 72 #[Value.int .i64 a0_n, Value.pointer (some c1), Value.pointer (some c2)] w R := by
  refine calls_of_vc (fun _ => none) (by kernel_rfl) Try.func72 rfl ?_ ?_
  · refine kcast h ?_; kernel_rfl
  · exact (obl_seq rfl (obl_reg (obl_seq rfl (obl_seq rfl (obl_reg (obl_seq rfl (obl_reg (obl_cond (obl_seq rfl (obl_reg (obl_ret (obl_skip (obl_seq rfl (obl_reg (obl_seq rfl (obl_seq rfl (obl_reg (obl_cond (obl_reg (obl_skip (obl_seq rfl (obl_reg (obl_ret trivial)))))))))))))))))))))))

def numeral_build_2_cut (J0 : Addr → Int → Slc → Int → Int → World → Prop) (m0 : Addr → Int → Slc → Int → Int → World → Nat) : Nat → Option ((Act → World → Prop) × (Act → World → Nat))
  | 0 => some (fun a_ w_ => atSz a_ 89 (atA a_ 1 fun t1 => atI .u64 a_ 7 fun t7 => atS a_ 19 fun t19 => atI .i64 a_ 20 fun t20 => atI .i64 a_ 21 fun t21 => J0 t1 t7 t19 t20 t21 w_), fun a_ w_ => mA a_ 1 fun t1 => mI a_ 7 fun t7 => mS a_ 19 fun t19 => mI a_ 20 fun t20 => mI a_ 21 fun t21 => m0 t1 t7 t19 t20 t21 w_)
  | _ => none

set_option maxRecDepth 100000 in
/-- surd/numeral.build$2: function 74. -/
theorem numeral_build_2_vc (a0 : Slc) (c1 : Addr) (c2 : Addr) (c3 : Addr) (w : World) (R : Ending → World → Prop)
    (J0 : Addr → Int → Slc → Int → Int → World → Prop) (m0 : Addr → Int → Slc → Int → Int → World → Nat)
    (h : br (decide ((a0.n : Int) ≤ 12))
    (J0 c1 0 a0 (a0.n : Int) 0 w)
    (∃ V1 : Nat → Prop, Out V1 c2 (ldV c2 w.drew fun v1 =>
      ∃ s2 : Slc, (∀ w_, (Instr.sliceAt 38 a0.v none (some (Value.int .i64 (IntKind.i64.wrap ((a0.n : Int) - (IntKind.i64.wrap (Int.tdiv (a0.n : Int) 2)))))) none).run Try.prog w_ = .ok s2.v w_) ∧
      (callX Try.prog v1 #[s2.v] w.drew fun e2 w3 =>
       ∃ s3 : Slc, ∃ x3 : Int, e2 = .returned (Value.tuple #[s3.v, Value.int .i64 x3]) ∧
       (Bar V1 w.drew w3 ∧
        (br (x3 != 0)
         (R (.returned (Value.tuple #[(⟨none, 0, 0⟩ : Slc).v, Value.int .i64 x3])) w3)
         (∃ V2 : Nat → Prop, Out V2 c2 (ldV c2 w3.drew fun v2 =>
           ∃ s4 : Slc, (∀ w_, (Instr.sliceAt 38 a0.v (some (Value.int .i64 (IntKind.i64.wrap ((a0.n : Int) - (IntKind.i64.wrap (Int.tdiv (a0.n : Int) 2)))))) none none).run Try.prog w_ = .ok s4.v w_) ∧
           (callX Try.prog v2 #[s4.v] w3.drew fun e3 w4 =>
            ∃ s5 : Slc, ∃ x4 : Int, e3 = .returned (Value.tuple #[s5.v, Value.int .i64 x4]) ∧
            (Bar V2 w3.drew w4 ∧
             (br (x4 != 0)
              (R (.returned (Value.tuple #[(⟨none, 0, 0⟩ : Slc).v, Value.int .i64 x4])) w4)
              (ldV c3 w4 fun v3 =>
               callX Try.prog v3 #[Value.int .i64 (IntKind.i64.wrap (Int.tdiv (a0.n : Int) 2))] w4 fun e4 w5 =>
               ∃ s6 : Slc, ∃ x5 : Int, e4 = .returned (Value.tuple #[s6.v, Value.int .i64 x5]) ∧
               (br (x5 != 0)
                (R (.returned (Value.tuple #[(⟨none, 0, 0⟩ : Slc).v, Value.int .i64 x5])) w5)
                (Calls Try.prog 75 #[s3.v, s6.v] w5 fun e5 w6 =>
                 ∃ s7 : Slc, ∃ x6 : Int, e5 = .returned (Value.tuple #[s7.v, Value.int .i64 x6]) ∧
                 (br (x6 != 0)
                  (R (.returned (Value.tuple #[(⟨none, 0, 0⟩ : Slc).v, Value.int .i64 x6])) w6)
                  (Calls Try.prog 55 #[s7.v, s5.v] w6 fun e6 w7 =>
                   ∃ s8 : Slc, ∃ x7 : Int, e6 = .returned (Value.tuple #[s8.v, Value.int .i64 x7]) ∧
                   (R (.returned (Value.tuple #[s8.v, Value.int .i64 x7])) w7)))))))))))))))))
    (h0 : ∀ (t1 : Addr) (t7 : Int) (t19 : Slc) (t20 : Int) (t21 : Int) (w_ : World), J0 t1 t7 t19 t20 t21 w_ → 
    br (decide (t21 < t20))
    (semA Try.prog (Instr.indexAt 38 t19.v (Value.int .i64 t21)) w_ fun ad1 w1 =>
     ldI .i64 ad1 w1 fun x1 =>
     ldI .i64 t1 w1 fun x2 =>
     J0 t1 (IntKind.u64.wrap ((IntKind.u64.wrap (t7 * (IntKind.u64.wrap x2))) + (IntKind.u64.wrap x1))) t19 t20 (IntKind.i64.wrap (t21 + 1)) w1 ∧
     m0 t1 (IntKind.u64.wrap ((IntKind.u64.wrap (t7 * (IntKind.u64.wrap x2))) + (IntKind.u64.wrap x1))) t19 t20 (IntKind.i64.wrap (t21 + 1)) w1 < m0 t1 t7 t19 t20 t21 w_)
    (Calls Try.prog 47 #[Value.int .u64 t7] w_ fun e1 w2 =>
     ∃ s1 : Slc, e1 = .returned s1.v ∧
     (R (.returned (Value.tuple #[s1.v, Value.int .i64 0])) w2))) :
    Calls Try.prog 74 #[a0.v, Value.pointer (some c1), Value.pointer (some c2), Value.pointer (some c3)] w R := by
  refine calls_of_vc (marks [1000010, 1000013] (numeral_build_2_cut J0 m0)) (by kernel_rfl) Try.func74 rfl ?_ ?_
  · refine kcast h ?_; kernel_rfl
  · exact (obl_seq rfl (obl_reg (obl_seq rfl (obl_seq rfl (obl_reg (obl_cond (obl_seq rfl (obl_reg (obl_seq rfl (obl_seq rfl (obl_reg (obl_loop _ rfl (fun a_ w_ hL_ => (by
    obtain ⟨hz_, hd_, hL_⟩ := atSz_out hL_
    obtain ⟨t1, h1_, hL_⟩ := atA_out hL_
    obtain ⟨t7, h7_, hL_⟩ := atI_out hL_
    obtain ⟨t19, h19_, hL_⟩ := atS_out hL_
    obtain ⟨t20, h20_, hL_⟩ := atI_out hL_
    obtain ⟨t21, h21_, hL_⟩ := atI_out hL_
    obtain ⟨g0, rfl⟩ : ∃ g, a_ = Fr 89 [(1, Value.pointer (some t1)), (7, Value.int .u64 t7), (19, t19.v), (20, Value.int .i64 t20), (21, Value.int .i64 t21)] g := ⟨_, fr_of hz_ hd_ [(1, Value.pointer (some t1)), (7, Value.int .u64 t7), (19, t19.v), (20, Value.int .i64 t20), (21, Value.int .i64 t21)] (sel_cons h1_ (sel_cons h7_ (sel_cons h19_ (sel_cons h20_ (sel_cons h21_ sel_nil)))))⟩
    clear hz_ hd_ h1_ h7_ h19_ h20_ h21_
    have hJ0_ := hL_
    refine ⟨(marks [1000010, 1000013] (fun _ => none)), kcast (h0 t1 t7 t19 t20 t21 w_ hJ0_) ?_, ?_⟩
    · kernel_rfl
    · exact (obl_seq rfl (obl_reg (obl_seq rfl (obl_cond (obl_skip (obl_exit (obl_seq rfl (obl_blk rfl (obl_seq rfl (obl_reg (obl_reg (obl_reg trivial)))))))))))))) (obl_seq rfl (obl_reg (obl_ret (obl_skip (obl_seq rfl (obl_reg (obl_seq rfl (obl_held (by kernel_rfl) (by kernel_rfl) (by kernel_rfl) (obl_seq rfl (obl_seq rfl (obl_reg (obl_cond (obl_seq rfl (obl_reg (obl_ret (obl_skip (obl_seq rfl (obl_held (by kernel_rfl) (by kernel_rfl) (by kernel_rfl) (obl_seq rfl (obl_seq rfl (obl_reg (obl_cond (obl_seq rfl (obl_reg (obl_ret (obl_skip (obl_seq rfl (obl_reg (obl_seq rfl (obl_seq rfl (obl_reg (obl_cond (obl_seq rfl (obl_reg (obl_ret (obl_skip (obl_seq rfl (obl_reg (obl_seq rfl (obl_seq rfl (obl_reg (obl_cond (obl_seq rfl (obl_reg (obl_ret (obl_skip (obl_seq rfl (obl_reg (obl_ret trivial)))))))))))))))))))))))))))))))))))))))))))))))))))))))))))))

end Go.Proofs.Ytflipimlpgbnmaa
namespace Go.Proofs.Ytflipimlpgbnmaa
open Go Go.RowKit Eng Sp Dg
set_option linter.unusedVariables false
set_option linter.unusedSimpArgs false
set_option maxRecDepth 100000
namespace Bd
open _root_.Go.Proofs.Ytflipimlpgbnmaa.Nat (Num Num.ahead OwnNil OwnNil.ahead OwnNil.mono OwnNil.nil Ret Ret.num bigC bigC_ok digs_len_bl own_num From_spec add_num)
open _root_.Go.Proofs.Ytflipimlpgbnmaa.Mul (Pow_spec Mul_spec)

def hvFrom (B v : Nat) (l : List Nat) : Nat := l.foldl (fun v d => v * B + d) v
def hv (B : Nat) (l : List Nat) : Nat := hvFrom B 0 l
theorem hvFrom_eq (B : Nat) : ∀ (l : List Nat) (v : Nat), hvFrom B v l = v * B ^ l.length + hv B l
  | [], v => by simp [hv, hvFrom]
  | d :: l, v => by
    have h1 : hvFrom B v (d :: l) = hvFrom B (v * B + d) l := rfl
    have h2 : hv B (d :: l) = hvFrom B (0 * B + d) l := rfl
    rw [h1, h2, hvFrom_eq B l, hvFrom_eq B l (0 * B + d), List.length_cons, Nat.pow_succ, Nat.zero_mul, Nat.zero_add, Nat.add_mul, Nat.mul_assoc, Nat.mul_comm B (B ^ l.length)]
    omega
theorem hv_append (B : Nat) (a b : List Nat) : hv B (a ++ b) = hv B a * B ^ b.length + hv B b := by
  show hvFrom B 0 (a ++ b) = _
  unfold hvFrom
  rw [List.foldl_append]
  exact hvFrom_eq B b _
theorem hv_nil (B : Nat) : hv B [] = 0 := rfl
theorem hv_one (B d : Nat) : hv B [d] = d := by simp [hv, hvFrom]
theorem hv_cons0 (B : Nat) (l : List Nat) : hv B (0 :: l) = hv B l := by simp [hv, hvFrom]
theorem hv_take_succ (B : Nat) (l : List Nat) {i : Nat} (h : i < l.length) : hv B (l.take (i + 1)) = hv B (l.take i) * B + l.getD i 0 := by
  rw [List.take_succ_eq_append_getElem h, hv_append, hv_one, List.length_singleton, Nat.pow_one, getD_lt _ _ h]
theorem hv_lt (B : Nat) : ∀ (l : List Nat), ok B l → hv B l < B ^ l.length := by
  intro l
  induction l with
  | nil => intro _; simp [hv_nil]
  | cons d l ih =>
    intro h
    rw [ok_cons] at h
    have h1 : hv B (d :: l) = d * B ^ l.length + hv B l := by
      have : hv B (d :: l) = hvFrom B (0 * B + d) l := rfl
      rw [this, hvFrom_eq, Nat.zero_mul, Nat.zero_add]
    have h2 := ih h.2
    have h3 : (d + 1) * B ^ l.length ≤ B * B ^ l.length := Nat.mul_le_mul_right _ h.1
    rw [Nat.add_mul, Nat.one_mul] at h3
    rw [h1, List.length_cons, Nat.pow_succ, Nat.mul_comm (B ^ _) B]
    omega
theorem bl_36 {B : Nat} (h : B ≤ 36) : bl B ≤ 6 := bl_le (by omega)
theorem bl_2 {B : Nat} (h : 2 ≤ B) : 2 ≤ bl B := by
  have := lt_bl B
  rcases Nat.lt_or_ge (bl B) 2 with h1 | h1
  · have h2 : 2 ^ bl B ≤ 2 ^ 1 := Nat.pow_le_pow_right (by omega) (by omega)
    omega
  · exact h1
theorem bl_pow {B n : Nat} (h : B ≤ 36) : bl (B ^ n) ≤ 6 * n + 1 := by
  have h1 : B ^ n ≤ (2 ^ 6) ^ n := Nat.pow_le_pow_left (by omega) n
  rw [← Nat.pow_mul] at h1
  have h2 : 2 ^ (6 * n) < 2 ^ (6 * n + 1) := Nat.pow_lt_pow_right (by omega) (by omega)
  exact bl_le (by omega)
theorem bl_hv {B : Nat} (h : B ≤ 36) {l : List Nat} (hl : ok B l) : bl (hv B l) ≤ 6 * l.length + 1 :=
  Nat.le_trans (bl_mono (Nat.le_of_lt (hv_lt B l hl))) (bl_pow h)
theorem hv_small {B : Nat} (h : B ≤ 36) {l : List Nat} (hl : ok B l) (hn : l.length ≤ 12) : hv B l < 9223372036854775808 := by
  have h1 := hv_lt B l hl
  have h2 : B ^ l.length ≤ 36 ^ l.length := Nat.pow_le_pow_left h _
  have h3 : 36 ^ l.length ≤ 36 ^ 12 := Nat.pow_le_pow_right (by omega) hn
  omega

structure Env (w : World) (B m : Nat) (cB cP cF cQ : Addr) : Prop where
  b : w.cell? cB = some (.int .i64 (B : Int))
  p : w.cell? cP = some (.map (some m))
  f : w.cell? cF = some (.func (.func numeral_build_1_id) #[] #[.pointer (some cP), .pointer (some cB)])
  q : w.cell? cQ = some (.func (.func numeral_build_2_id) #[] #[.pointer (some cB), .pointer (some cQ), .pointer (some cF)])
  mp : MapOk w m (fun n => B ^ n)
theorem Env.ahead {w w' : World} {B m : Nat} {cB cP cF cQ : Addr} (h : Env w B m cB cP cF cQ) (a : Ahead w w') : Env w' B m cB cP cF cQ :=
  ⟨a.cell h.b, a.cell h.p, a.cell h.f, a.cell h.q, h.mp.ahead a⟩
theorem Env.mp' {w w' : World} {B m : Nat} {cB cP cF cQ : Addr} (h : Env w B m cB cP cF cQ) (a : Mp m w w') (hm : MapOk w' m (fun n => B ^ n)) : Env w' B m cB cP cF cQ :=
  ⟨a.cell h.mp.is h.b, a.cell h.mp.is h.p, a.cell h.mp.is h.f, a.cell h.mp.is h.q, hm⟩

theorem power_spec {w : World} {B m n : Nat} {cB cP cF cQ : Addr} (h : Env w B m cB cP cF cQ) (hB : 2 ≤ B) (hB2 : B ≤ 36) (hn : 1 ≤ n) (hn2 : n ≤ 1048576) :
    Calls pr numeral_build_1_id #[.int .i64 (n : Int), .pointer (some cP), .pointer (some cB)] w fun e w' => Mp m w w' ∧ MapOk w' m (fun n => B ^ n) ∧ ∃ s, e = .returned (.tuple #[Slc.v s, .int .i64 0]) ∧ Num w' s (B ^ n) := by
  have hBB := B64v
  refine numeral_build_1_vc (n : Int) cP cB w _ ⟨_, h.p, ?_⟩
  refine lookup (k := tInt) (e := 26) (f := fun n => B ^ n) (by kernel_rfl) (by kernel_rfl) (by kernel_rfl) h.mp n (fun s hs => ⟨_, _, rfl, br_true rfl ⟨Bar.refl _ _, h.mp, s, rfl, hs⟩⟩) ⟨_, _, rfl, br_false rfl ⟨_, h.b, ?_⟩⟩
  simp only []
  rw [wrap_u64' (by omega) (by omega)]
  refine Calls.mono (From_spec (v := B) (by omega)) ?_
  rintro e w2 ⟨h2, s, rfl, os⟩
  have b1 := bl_36 hB2
  have ns : Num w2 s B := own_num os (by omega)
  refine ⟨_, rfl, Calls.mono (Pow_spec ns (bl_2 hB) hn (Nat.le_trans (Nat.mul_le_mul_right n b1) (by omega))) ?_⟩
  intro e w3 hr
  have b2 := bl_pow (n := n) hB2
  obtain ⟨h3, u, rfl, ou, nu⟩ := hr.num rfl (by omega)
  have h13 := h2.trans h3
  have E3 := h.ahead h13
  refine ⟨_, _, rfl, br_true rfl ⟨_, E3.p, ?_⟩⟩
  refine update (k := tInt) (e := 26) (f := fun n => B ^ n) (by kernel_rfl) (by kernel_rfl) E3.mp n nu fun w4 h4 m4 => ?_
  exact ⟨(Bar.of_ahead h13).trans h4, m4, u, rfl, h4.num E3.mp.is nu⟩

theorem part_spec {B m : Nat} {cB cP cF cQ : Addr} (hB : 2 ≤ B) (hB2 : B ≤ 36) : ∀ (n : Nat) (l : List Nat) (w : World) (s : Slc), l.length = n → n ≤ 1048576 → ok B l → Env w B m cB cP cF cQ → Rd .i64 w s (nn l) →
    Calls pr numeral_build_2_id #[s.v, .pointer (some cB), .pointer (some cQ), .pointer (some cF)] w fun e w' => Mp m w w' ∧ MapOk w' m (fun n => B ^ n) ∧ ∃ t, e = .returned (.tuple #[Slc.v t, .int .i64 0]) ∧ OwnNil w.heap.size w' t (digs B64 (hv B l)) := by
  have hBB := B64v
  intro n
  induction n using Nat.strongRecOn with
  | ind n ih =>
  intro l w s hl hn ol E hr
  have hsn : s.n = n := by rw [hr.n, nn_length, hl]
  have hsc := hr.c
  refine numeral_build_2_vc s cB cQ cF w _ (fun t1 t7 t19 t20 t21 w' => t1 = cB ∧ t19 = s ∧ t20 = (n : Int) ∧ w' = w ∧ l.length ≤ 12 ∧ ∃ i : Nat, t21 = (i : Int) ∧ i ≤ n ∧ t7 = ((hv B (l.take i) : Nat) : Int))
    (fun _ _ _ _ t21 _ => ((n : Int) - t21).toNat) (br_intro (fun h => ?_) (fun h => ?_)) ?_
  · have h' := of_decide_eq_true h
    exact ⟨rfl, rfl, by omega, rfl, by omega, 0, rfl, Nat.zero_le _, by simp [hv_nil]⟩
  · have h' := of_decide_eq_false h
    have hn12 : 12 < n := by omega
    obtain ⟨k, hk⟩ : ∃ k, k = n / 2 := ⟨_, rfl⟩
    have hk1 : 6 ≤ k := by omega
    have hkn : k + 6 ≤ n := by omega
    have e2 : IntKind.i64.wrap (Int.tdiv ((s.n : Nat) : Int) 2) = (k : Int) := by
      rw [hsn, Int.tdiv_eq_ediv_of_nonneg (by omega), wrap_i64 (by omega) (by omega)]; omega
    have e3 : IntKind.i64.wrap ((s.n : Int) - (k : Int)) = ((n - k : Nat) : Int) := by rw [hsn, wrap_i64 (by omega) (by omega)]; omega
    rw [e2, e3]
    have a1 := Ahead.drew w
    have E1 := E.ahead a1
    refine ⟨fun k => k = m, ne_of_cell E.mp.is E.q, _, E1.q, _, fun w_ => run_slice_hi (k := .i64) (e := tInt) (by kernel_rfl) w_ s (by omega) (by omega), ?_⟩
    have r1 := (hr.ahead a1).take (m := n - k) (c := s.c) (by rw [nn_length]; omega) (by omega)
    rw [nn_take] at r1
    rw [Int.toNat_natCast]
    refine callX_intro (by kernel_rfl) (Calls.mono (ih (n - k) (by omega) (l.take (n - k)) w.drew _ (by simp; omega) (by omega) (ok_take ol _) E1 r1) ?_)
    rintro e w3 ⟨b3, M3, u, rfl, ou⟩
    have b13 : Mp m w w3 := (Bar.of_ahead a1).trans b3
    have E3 := E1.mp' b3 M3
    refine ⟨_, _, rfl, b3, br_false rfl ?_⟩
    have a3 := Ahead.drew w3
    have E3d := E3.ahead a3
    refine ⟨fun k => k = m, ne_of_cell E3.mp.is E3.q, _, E3d.q, _, fun w_ => run_slice_lo (k := .i64) (e := tInt) (by kernel_rfl) w_ s (by omega) (by omega), ?_⟩
    have r3 := (Mp.rd b13 E.mp.is hr).ahead a3
    have r3d := r3.drop (m := n - k) (by rw [nn_length]; omega)
    rw [nn_drop] at r3d
    rw [Int.toNat_natCast]
    refine callX_intro (by kernel_rfl) (Calls.mono (ih k (by omega) (l.drop (n - k)) w3.drew _ (by simp; omega) (by omega) (ok_drop ol _) E3d r3d) ?_)
    rintro e w4 ⟨b4, M4, v, rfl, ov⟩
    have E4 := E3d.mp' b4 M4
    have b34 : Mp m w3 w4 := (Bar.of_ahead a3).trans b4
    refine ⟨_, _, rfl, b4, br_false rfl ⟨_, E4.f, ?_⟩⟩
    refine callX_intro (by kernel_rfl) (Calls.mono (power_spec E4 hB hB2 (n := k) (by omega) (by omega)) ?_)
    rintro e w5 ⟨b5, M5, p, rfl, np⟩
    have E5 := E4.mp' b5 M5
    refine ⟨_, _, rfl, br_false rfl ?_⟩
    have ol1 := ok_take ol (n - k)
    have ol2 := ok_drop ol (n - k)
    have bu := bl_hv hB2 ol1
    have bv := bl_hv hB2 ol2
    have bp := bl_pow (n := k) hB2
    have ball := bl_hv hB2 ol
    have len1 : (l.take (n - k)).length = n - k := by simp; omega
    have len2 : (l.drop (n - k)).length = k := by simp; omega
    have hsplit : hv B l = hv B (l.take (n - k)) * B ^ k + hv B (l.drop (n - k)) := by
      have h5 := hv_append B (l.take (n - k)) (l.drop (n - k))
      rw [List.take_append_drop, len2] at h5; exact h5
    rw [len1] at bu
    rw [len2] at bv
    have nu : Num w5 u (hv B (l.take (n - k))) := own_num (b5.own E4.mp.is (b34.own E3.mp.is ou)) (by omega)
    have l1 := digs_len_bl (N := hv B (l.take (n - k))) (m := 2 ^ 20) (by omega)
    have l2 := digs_len_bl (N := B ^ k) (m := 2 ^ 20) (by omega)
    have btop : bl (hv B (l.take (n - k)) * B ^ k) ≤ 67108864 := Nat.le_trans (bl_mono (by omega)) (show bl (hv B l) ≤ 67108864 by omega)
    refine Calls.mono (Mul_spec nu np (by omega) (by omega)) ?_
    intro e w6 hr6
    obtain ⟨h6, q, rfl, oq, nq⟩ := hr6.num (bigC_ok btop) btop
    refine ⟨_, _, rfl, br_false rfl ?_⟩
    have nv : Num w6 v (hv B (l.drop (n - k))) := own_num ((b5.own E4.mp.is ov).ahead h6) (by omega)
    refine Calls.mono (add_num nq nv) ?_
    rw [← hsplit]
    intro e w7 hr7
    obtain ⟨h7, z, rfl, oz, nz⟩ := hr7.num (bigC_ok (by omega)) (by omega)
    have h57 := h6.trans h7
    have bAll : Mp m w w7 := ((b13.trans b34).trans b5).trans (Bar.of_ahead h57)
    exact ⟨_, _, rfl, bAll, M5.ahead h57, z, rfl, oz.mono (Nat.le_trans ((b13.trans b34).trans b5).size h6.size)⟩
  · rintro t1 t7 t19 t20 t21 w1 ⟨rfl, rfl, rfl, rfl, h12, i, rfl, hi, rfl⟩
    refine br_intro (fun h => ?_) (fun h => ?_)
    · have hi' : i < l.length := by have := of_decide_eq_true h; omega
      refine ix_ld (k := .i64) (e := tInt) (by kernel_rfl) hr (by omega) (by rw [nn_length]; omega) ⟨_, E.b, ?_⟩
      rw [Int.toNat_natCast, nn_getD]
      have h1 := hv_small hB2 (ok_take ol i) (by simp; omega)
      have h2 := hv_small hB2 (ok_take ol (i + 1)) (by simp; omega)
      rw [hv_take_succ B l hi'] at h2
      have h3 := ok_getD ol (by omega) i
      simp only []
      have e1 : ((hv B (l.take i) : Nat) : Int) * (B : Int) = ((hv B (l.take i) * B : Nat) : Int) := by rw [Int.natCast_mul]
      rw [wrap_u64' (x := (B : Int)) (by omega) (by omega), e1, wrap_u64' (x := ((hv B (l.take i) * B : Nat) : Int)) (by omega) (by omega), wrap_u64' (x := ((l.getD i 0 : Nat) : Int)) (by omega) (by omega),
        wrap_u64' (by omega) (by omega), wrap_i64 (by omega) (by omega)]
      refine ⟨⟨trivial, trivial, trivial, trivial, h12, i + 1, by omega, by omega, ?_⟩, by omega⟩
      rw [hv_take_succ B l hi']; omega
    · have hi' : i = n := by have := of_decide_eq_false h; omega
      subst hi'
      rw [List.take_of_length_le (by omega)]
      have h1 := hv_small hB2 ol h12
      refine Calls.mono (From_spec (v := hv B l) (by omega)) ?_
      rintro e w2 ⟨h2, z, rfl, oz⟩
      exact ⟨_, rfl, Bar.of_ahead h2, E.mp.ahead h2, z, rfl, oz⟩
end Bd
end Go.Proofs.Ytflipimlpgbnmaa
namespace Go.Proofs.Ytflipimlpgbnmaa
open Go Go.RowKit Eng
set_option linter.unusedVariables false

def fuel_Attempts_cut (J0 : Slc → Slc → Int → World → Prop) (m0 : Slc → Slc → Int → World → Nat) : Nat → Option ((Act → World → Prop) × (Act → World → Nat))
  | 0 => some (fun a_ w_ => atSz a_ 23 (atS a_ 0 fun t0_f => atS a_ 3 fun t3_l => atI .i64 a_ 6 fun t6 => J0 t0_f t3_l t6 w_), fun a_ w_ => mS a_ 0 fun t0_f => mS a_ 3 fun t3_l => mI a_ 6 fun t6 => m0 t0_f t3_l t6 w_)
  | _ => none

set_option maxRecDepth 100000 in
/-- surd/fuel.Attempts: function 20. -/
theorem fuel_Attempts_vc (a0_f : Slc) (w : World) (R : Ending → World → Prop)
    (J0 : Slc → Slc → Int → World → Prop) (m0 : Slc → Slc → Int → World → Nat)
    (h : J0 a0_f (⟨none, 0, 0⟩ : Slc) 0 w)
    (h0 : ∀ (t0_f : Slc) (t3_l : Slc) (t6 : Int) (w_ : World), J0 t0_f t3_l t6 w_ → 
    br (decide (t6 < 16))
    (semI Try.prog .i64 (binOp .shl 3 (Value.int .i64 64) (Value.int .i64 t6)) w_ fun x1 w1 =>
     Calls Try.prog 47 #[Value.int .u64 (IntKind.u64.wrap x1)] w1 fun e1 w2 =>
     ∃ s1 : Slc, e1 = .returned s1.v ∧
     (Calls Try.prog 49 #[t0_f.v, s1.v] w2 fun e2 w3 =>
      ∃ x2 : Int, e2 = .returned (Value.int .i64 x2) ∧
      (br (decide (x2 < 0))
       (R (.returned t3_l.v) w3)
       (newC w3 #[Value.int .i64 x1] 3 fun ad1 w4 =>
        semS Try.prog (Builtin.append_ #[38, 38] 38 #[t3_l.v, (⟨some ad1, 1, 1⟩ : Slc).v]) w4 fun s2 w5 =>
        J0 t0_f s2 (IntKind.i64.wrap (t6 + 1)) w5 ∧
        m0 t0_f s2 (IntKind.i64.wrap (t6 + 1)) w5 < m0 t0_f t3_l t6 w_))))
    (R (.returned t3_l.v) w_)) :
    Calls Try.prog 20 #[a0_f.v] w R := by
  refine calls_of_vc (fuel_Attempts_cut J0 m0) (by kernel_rfl) Try.func20 rfl ?_ ?_
  · refine kcast h ?_; kernel_rfl
  · exact (obl_seq rfl (obl_reg (obl_seq rfl (obl_reg (obl_seq rfl (obl_seq rfl (obl_reg (obl_loop _ rfl (fun a_ w_ hL_ => (by
    obtain ⟨hz_, hd_, hL_⟩ := atSz_out hL_
    obtain ⟨t0_f, h0_, hL_⟩ := atS_out hL_
    obtain ⟨t3_l, h3_, hL_⟩ := atS_out hL_
    obtain ⟨t6, h6_, hL_⟩ := atI_out hL_
    obtain ⟨g0, rfl⟩ : ∃ g, a_ = Fr 23 [(0, t0_f.v), (3, t3_l.v), (6, Value.int .i64 t6)] g := ⟨_, fr_of hz_ hd_ [(0, t0_f.v), (3, t3_l.v), (6, Value.int .i64 t6)] (sel_cons h0_ (sel_cons h3_ (sel_cons h6_ sel_nil)))⟩
    clear hz_ hd_ h0_ h3_ h6_
    have hJ0_ := hL_
    refine ⟨(fun _ => none), kcast (h0 t0_f t3_l t6 w_ hJ0_) ?_, ?_⟩
    · kernel_rfl
    · exact (obl_seq rfl (obl_reg (obl_seq rfl (obl_cond (obl_skip (obl_exit (obl_seq rfl (obl_blk rfl (obl_seq rfl (obl_reg (obl_seq rfl (obl_reg (obl_seq rfl (obl_seq rfl (obl_reg (obl_cond (obl_exit (obl_skip (obl_reg (obl_reg trivial)))))))))))))))))))))) (obl_seq rfl (obl_reg (obl_ret trivial)))))))))))

end Go.Proofs.Ytflipimlpgbnmaa
namespace Go.Proofs.Ytflipimlpgbnmaa
open Go Go.RowKit Eng
set_option linter.unusedVariables false

set_option maxRecDepth 100000 in
/-- surd/surdlaw18.num: function 11. -/
theorem surdlaw18_num_vc (a0_e : Int) (w : World) (R : Ending → World → Prop)
    
    (h : R (.returned (Value.int .i64 a0_e)) w) :
    Calls Try.prog 11 #[Value.int .i64 a0_e] w R := by
  refine calls_of_vc (fun _ => none) (by kernel_rfl) Try.func11 rfl ?_ ?_
  · refine kcast h ?_; kernel_rfl
  · exact (obl_seq rfl (obl_reg (obl_seq rfl (obl_reg (obl_ret trivial)))))

def surdlaw18_alike_cut (J0 : Slc → Slc → Int → Int → World → Prop) (m0 : Slc → Slc → Int → Int → World → Nat) : Nat → Option ((Act → World → Prop) × (Act → World → Nat))
  | 0 => some (fun a_ w_ => atSz a_ 26 (atS a_ 0 fun t0_a => atS a_ 1 fun t1_b => atI .i64 a_ 12 fun t12 => atI .i64 a_ 13 fun t13 => J0 t0_a t1_b t12 t13 w_), fun a_ w_ => mS a_ 0 fun t0_a => mS a_ 1 fun t1_b => mI a_ 12 fun t12 => mI a_ 13 fun t13 => m0 t0_a t1_b t12 t13 w_)
  | _ => none

set_option maxRecDepth 100000 in
/-- surd/surdlaw18.alike: function 21. -/
theorem surdlaw18_alike_vc (a0_a : Slc) (a1_b : Slc) (w : World) (R : Ending → World → Prop)
    (J0 : Slc → Slc → Int → Int → World → Prop) (m0 : Slc → Slc → Int → Int → World → Nat)
    (h : br ((a0_a.n : Int) != (a1_b.n : Int))
    (R (.returned (Value.bool false)) w)
    (J0 a0_a a1_b (a0_a.n : Int) 0 w))
    (h0 : ∀ (t0_a : Slc) (t1_b : Slc) (t12 : Int) (t13 : Int) (w_ : World), J0 t0_a t1_b t12 t13 w_ → 
    br (decide (t13 < t12))
    (fixA Try.prog (Instr.indexAt 38 t0_a.v (Value.int .i64 t13)) w_ fun ad1 =>
     ldI .i64 ad1 w_ fun x1 =>
     fixA Try.prog (Instr.indexAt 38 t1_b.v (Value.int .i64 t13)) w_ fun ad2 =>
     ldI .i64 ad2 w_ fun x2 =>
     ∀ w1, Ahead w_ w1 →
     (br (x1 != x2)
      (R (.returned (Value.bool false)) w1)
      (J0 t0_a t1_b t12 (IntKind.i64.wrap (t13 + 1)) w1 ∧
       m0 t0_a t1_b t12 (IntKind.i64.wrap (t13 + 1)) w1 < m0 t0_a t1_b t12 t13 w_)))
    (R (.returned (Value.bool true)) w_)) :
    Calls Try.prog 21 #[a0_a.v, a1_b.v] w R := by
  refine calls_of_vc (surdlaw18_alike_cut J0 m0) (by kernel_rfl) Try.func21 rfl ?_ ?_
  · refine kcast h ?_; kernel_rfl
  · exact (obl_seq rfl (obl_reg (obl_seq rfl (obl_seq rfl (obl_reg (obl_cond (obl_seq rfl (obl_reg (obl_ret (obl_skip (obl_seq rfl (obl_seq rfl (obl_reg (obl_loop _ rfl (fun a_ w_ hL_ => (by
    obtain ⟨hz_, hd_, hL_⟩ := atSz_out hL_
    obtain ⟨t0_a, h0_, hL_⟩ := atS_out hL_
    obtain ⟨t1_b, h1_, hL_⟩ := atS_out hL_
    obtain ⟨t12, h12_, hL_⟩ := atI_out hL_
    obtain ⟨t13, h13_, hL_⟩ := atI_out hL_
    obtain ⟨g0, rfl⟩ : ∃ g, a_ = Fr 26 [(0, t0_a.v), (1, t1_b.v), (12, Value.int .i64 t12), (13, Value.int .i64 t13)] g := ⟨_, fr_of hz_ hd_ [(0, t0_a.v), (1, t1_b.v), (12, Value.int .i64 t12), (13, Value.int .i64 t13)] (sel_cons h0_ (sel_cons h1_ (sel_cons h12_ (sel_cons h13_ sel_nil))))⟩
    clear hz_ hd_ h0_ h1_ h12_ h13_
    have hJ0_ := hL_
    refine ⟨(fun _ => none), kcast (h0 t0_a t1_b t12 t13 w_ hJ0_) ?_, ?_⟩
    · kernel_rfl
    · exact (obl_seq rfl (obl_reg (obl_seq rfl (obl_cond (obl_skip (obl_exit (obl_seq rfl (obl_blk rfl (obl_seq rfl (obl_reg (obl_seq rfl (obl_quiet (by kernel_rfl) (by kernel_rfl) (by kernel_rfl) (by kernel_rfl) (obl_cond (obl_seq rfl (obl_reg (obl_ret (obl_skip (obl_reg trivial)))))))))))))))))))) (obl_seq rfl (obl_reg (obl_ret trivial)))))))))))))))))

set_option maxRecDepth 100000 in
/-- surd/surdlaw18.awake: function 12. -/
theorem surdlaw18_awake_vc  (w : World) (R : Ending → World → Prop)
    
    (h : newC w #[Value.int .u64 1000] 49 fun ad1 w1 =>
    Calls Try.prog 20 #[(⟨some ad1, 1, 1⟩ : Slc).v] w1 fun e1 w2 =>
    ∃ s1 : Slc, e1 = .returned s1.v ∧
    (newC w2 #[Value.int .i64 64, Value.int .i64 128, Value.int .i64 256, Value.int .i64 512] 3 fun ad2 w3 =>
     Calls Try.prog 21 #[s1.v, (⟨some ad2, 4, 4⟩ : Slc).v] w3 fun e2 w4 =>
     ∃ b1 : Bool, e2 = .returned (Value.bool b1) ∧
     (R (.returned (Value.bool b1)) w4))) :
    Calls Try.prog 12 #[] w R := by
  refine calls_of_vc (fun _ => none) (by kernel_rfl) Try.func12 rfl ?_ ?_
  · refine kcast h ?_; kernel_rfl
  · exact (obl_seq rfl (obl_reg (obl_seq rfl (obl_reg (obl_ret trivial)))))

end Go.Proofs.Ytflipimlpgbnmaa
namespace Go.Proofs.Ytflipimlpgbnmaa
open Go Go.RowKit Eng Sp Dg
set_option linter.unusedVariables false
set_option linter.unusedSimpArgs false
set_option maxRecDepth 100000
namespace Nat

/-- Numbers of the call's own, or nil. -/
def OwnI (base : Nat) (w : World) (s : Slc) (l : List Int) : Prop := (s = ⟨none, 0, 0⟩ ∧ l = []) ∨ ∃ b, base ≤ b ∧ s.c ≤ maxLen ∧ Owr .i64 tInt w s l b
theorem OwnI.rd {base : Nat} {w : World} {s : Slc} {l : List Int} (h : OwnI base w s l) : Rd .i64 w s l := by
  rcases h with ⟨rfl, rfl⟩ | ⟨b, _, _, h⟩
  · exact Rd.nil
  · exact h.rd
theorem OwnI.ahead {base : Nat} {w w' : World} {s : Slc} {l : List Int} (h : OwnI base w s l) (ha : Ahead w w') : OwnI base w' s l := by
  rcases h with h | ⟨b, h1, h2, h3⟩
  · exact .inl h
  · exact .inr ⟨b, h1, h2, h3.ahead ha⟩
theorem OwnI.mono {base base' : Nat} {w : World} {s : Slc} {l : List Int} (h : OwnI base w s l) (hb : base' ≤ base) : OwnI base' w s l := by
  rcases h with h | ⟨b, h1, h2, h3⟩
  · exact .inl h
  · exact .inr ⟨b, by omega, h2, h3⟩
theorem OwnI.nil {base : Nat} {w : World} : OwnI base w ⟨none, 0, 0⟩ [] := .inl ⟨rfl, rfl⟩

theorem lit_rd (k : IntKind) (t : TypeId) (w : World) (l : List Int) : Rd k (w.alloc (.cells (ints k l).toArray t (0, 0))) ⟨some ⟨w.heap.size, 0, none⟩, l.length, l.length⟩ l :=
  Owr.rd (t := t) (b := w.heap.size) ⟨rfl, [], by simp, by rw [get_alloc]; simp⟩

theorem semShlI {x y : Nat} {t : TypeId} {w : World} {K : Int → World → Prop} (hy : y ≤ 64) (hx : x * 2 ^ y < 9223372036854775808) (h : K ((x * 2 ^ y : Nat) : Int) w) :
    semI pr .i64 (binOp .shl t (.int .i64 (x : Int)) (.int .i64 (y : Int))) w K := by
  have e : binOp .shl t (.int .i64 (x : Int)) (.int .i64 (y : Int)) = pure (.int .i64 ((x * 2 ^ y : Nat) : Int)) := by
    rw [binOp_shl, shift_shl_any .i64 .i64 _ _ (by omega)]
    have : min ((y : Int)).toNat IntKind.i64.bits = y := by
      have : IntKind.i64.bits = 64 := rfl
      rw [this]; omega
    rw [this, show (x : Int) * 2 ^ y = ((x * 2 ^ y : Nat) : Int) by push_cast; rfl, wrap_i64 (by omega) (by omega)]
  unfold semI
  rw [e, Sem.wp_iff_run]
  exact ⟨_, rfl, h⟩

/-- The attempts of a fuel: how many, and which. -/
def atts (N : Nat) : Nat := min 16 (bl N - 6)
def tw (k : Nat) : List Int := (List.range k).map fun i => ((64 * 2 ^ i : Nat) : Int)
theorem tw_length (k : Nat) : (tw k).length = k := by simp [tw]
theorem tw_succ (k : Nat) : tw (k + 1) = tw k ++ [((64 * 2 ^ k : Nat) : Int)] := by simp [tw, List.range_succ]
theorem atts_lt {N i : Nat} (hi : i < 16) : i < atts N ↔ 64 * 2 ^ i ≤ N := by
  have h := bl_le_iff (n := N) (k := i + 6)
  have e : 2 ^ (i + 6) = 64 * 2 ^ i := by rw [Nat.pow_add]; omega
  rw [e] at h
  unfold atts
  constructor
  · intro h1
    rcases Nat.lt_or_ge N (64 * 2 ^ i) with h2 | h2
    · have := h.2 h2; omega
    · exact h2
  · intro h1
    have : ¬ bl N ≤ i + 6 := fun h2 => by have := h.1 h2; omega
    omega
theorem atts_le (N : Nat) : atts N ≤ 16 := Nat.min_le_left _ _
theorem pow16 {i : Nat} (h : i < 16) : 64 * 2 ^ i ≤ 2097152 := by
  have : 2 ^ i ≤ 2 ^ 15 := Nat.pow_le_pow_right (by omega) (by omega)
  omega

theorem Attempts_spec {w : World} {p : Slc} {N : Nat} (hp : Num w p N) :
    Calls pr fuel_Attempts_id #[p.v] w fun e w' => Ahead w w' ∧ ∃ s, e = .returned (Slc.v s) ∧ OwnI w.heap.size w' s (tw (atts N)) := by
  have hB := B64v
  refine fuel_Attempts_vc p w _ (fun t0 t3 t6 w' => t0 = p ∧ ∃ i : Nat, t6 = (i : Int) ∧ i ≤ atts N ∧ Ahead w w' ∧ OwnI w.heap.size w' t3 (tw i)) (fun _ _ i _ => (16 - i).toNat)
    ⟨rfl, 0, rfl, Nat.zero_le _, Ahead.refl _, OwnI.nil⟩ ?_
  rintro t0 t3 t6 w1 ⟨rfl, i, rfl, hi, ha, ho⟩
  have hle := atts_le N
  refine br_intro (fun hlt => ?_) (fun hge => ?_)
  · have hi16 : i < 16 := by simp at hlt; omega
    have hp16 := pow16 hi16
    refine semShlI (x := 64) (by omega) (by omega) ?_
    rw [wrap_u64' (by omega) (by omega)]
    refine Calls.mono (From_spec (v := 64 * 2 ^ i) (by omega)) ?_
    rintro e w2 ⟨ha2, s, rfl, hs⟩
    have hbl : bl (64 * 2 ^ i) ≤ 67108864 := Nat.le_trans (bl_le (k := 22) (by omega)) (by omega)
    refine ⟨_, rfl, Calls.mono (cmp_num (hp.ahead (ha.trans ha2)) (own_num hs hbl)) ?_⟩
    rintro e w3 ⟨ha3, rfl⟩
    refine ⟨_, rfl, br_intro (fun hc => ?_) (fun hc => ?_)⟩
    · have : N < 64 * 2 ^ i := by simpa [cmpI_neg] using hc
      have h2 := (atts_lt (N := N) hi16)
      have : i = atts N := by omega
      subst this
      exact ⟨(ha.trans ha2).trans ha3, _, rfl, (ho.ahead ha2).ahead ha3⟩
    · have hN : 64 * 2 ^ i ≤ N := by
        simp only [decide_eq_false_iff_not, cmpI_neg] at hc; omega
      have h2 := (atts_lt (N := N) hi16).2 hN
      have ha03 := (ha.trans ha2).trans ha3
      have hal := Ahead.alloc w3 (.cells #[Value.int .i64 ((64 * 2 ^ i : Nat) : Int)] tInt (0, 0))
      have ho4 := ((ho.ahead ha2).ahead ha3).ahead hal
      refine app (t := _) (e := tInt) (k := .i64) (l := tw i) (ys := [((64 * 2 ^ i : Nat) : Int)]) (base := w.heap.size) (by kernel_rfl) (lit_rd .i64 tInt w3 [((64 * 2 ^ i : Nat) : Int)]) (by simp)
        ho4 (ha03.trans hal).size (by simp [tw_length]; omega) ?_
      intro s' w5 b' hb' hc' hown hbel hah
      have e8 : IntKind.i64.wrap ((i : Int) + 1) = ((i + 1 : Nat) : Int) := by rw [wrap_i64 (by omega) (by omega)]; omega
      refine ⟨⟨rfl, i + 1, e8, h2, ?_, .inr ⟨b', hb', hc', by rw [tw_succ]; exact hown⟩⟩, by rw [e8]; omega⟩
      refine hah w (ha03.trans hal) fun b hb => ?_
      rcases ho with ⟨rfl, _⟩ | ⟨b2, h1, _, h3⟩
      · simp at hb
      · rw [h3.A] at hb; simp at hb; omega
  · have : i = atts N := by simp at hge; omega
    subst this
    exact ⟨ha, _, rfl, ho⟩

theorem num_spec {w : World} {c : Int} : Calls pr surdlaw18_num_id #[.int .i64 c] w fun e w' => w' = w ∧ e = .returned (.int .i64 c) :=
  surdlaw18_num_vc c w _ ⟨rfl, rfl⟩

theorem alike_spec {w : World} {s t : Slc} {l : List Int} (hs : Rd .i64 w s l) (ht : Rd .i64 w t l) (hl : l.length ≤ 2 ^ 46) :
    Calls pr surdlaw18_alike_id #[s.v, t.v] w fun e w' => Ahead w w' ∧ e = .returned (.bool true) := by
  refine surdlaw18_alike_vc s t w _ (fun p q n i w' => p = s ∧ q = t ∧ n = (l.length : Int) ∧ Ahead w w' ∧ ∃ j : Nat, i = (j : Int) ∧ j ≤ l.length) (fun _ _ n i _ => (n - i).toNat) ?_ ?_
  · refine br_false (by rw [hs.n, ht.n]; simp) ?_
    exact ⟨rfl, rfl, by rw [hs.n], Ahead.refl _, 0, rfl, Nat.zero_le _⟩
  · rintro p q n i w1 ⟨rfl, rfl, rfl, ha, j, rfl, hj⟩
    refine br_intro (fun hlt => ?_) (fun hge => ?_)
    · have hj' : j < l.length := by simpa using hlt
      refine ix_fix (e := tInt) (k := .i64) (by kernel_rfl) (hs.ahead ha) (by omega) (by omega) ?_
      refine ix_fix (e := tInt) (k := .i64) (by kernel_rfl) (ht.ahead ha) (by omega) (by omega) ?_
      intro w2 ha2
      have e8 : IntKind.i64.wrap ((j : Int) + 1) = ((j + 1 : Nat) : Int) := by rw [wrap_i64 (by omega) (by omega)]; omega
      exact br_false (by simp) ⟨⟨rfl, rfl, rfl, ha.trans ha2, j + 1, e8, hj'⟩, by rw [e8]; omega⟩
    · exact ⟨ha, rfl⟩

theorem awake_spec (w : World) : Calls pr surdlaw18_awake_id #[] w (Yes w) := by
  have hB := B64v
  refine surdlaw18_awake_vc w _ ?_
  have r1 := one_rd w 1000
  have hn : Num (w.alloc (.cells #[.int .u64 ((1000 : Nat) : Int)] tU64 (0, 0))) ⟨some ⟨w.heap.size, 0, none⟩, 1, 1⟩ 1000 := ⟨[1000], r1, by simp, ok_one (by omega), val_one _⟩
  refine Calls.mono (Attempts_spec hn) ?_
  rintro e w2 ⟨ha, s, rfl, hs⟩
  have hat : atts 1000 = 4 := by
    have : bl 1000 = 10 := bl_eq (k := 9) (by omega) (by omega)
    rw [atts, this]; rfl
  rw [hat] at hs
  refine ⟨_, rfl, ?_⟩
  have r3 := lit_rd .i64 tInt w2 [64, 128, 256, 512]
  refine Calls.mono (alike_spec (hs.rd.ahead (Ahead.alloc _ _)) r3 (by rw [tw_length]; omega)) ?_
  rintro e w4 ⟨ha4, rfl⟩
  exact ⟨_, rfl, rfl, (((Ahead.alloc _ _).trans ha).trans (Ahead.alloc _ _)).trans ha4⟩

theorem end_awake {w0 w : World} (ha : Ahead w0 w) : Calls pr surdlaw18_awake_id #[] w fun e w' => ∃ b : Bool, e = .returned (.bool b) ∧ Yes w0 (.returned (.bool b)) w' :=
  Calls.mono (awake_spec w) fun e w' ⟨he, h⟩ => ⟨true, he, rfl, ha.trans h⟩

end Nat
end Go.Proofs.Ytflipimlpgbnmaa
namespace Go.Proofs.Ytflipimlpgbnmaa
open Go Go.RowKit Eng Sp Dg
set_option linter.unusedVariables false
set_option linter.unusedSimpArgs false
set_option maxRecDepth 100000
namespace Sb
open _root_.Go.Proofs.Ytflipimlpgbnmaa.Nat (OwnNil)
open _root_.Go.Proofs.Ytflipimlpgbnmaa.Mul (Only Off)

/-- The block's cells. -/
def Blk (w : World) (b : Nat) (cs : Array Value) : Prop := ∃ t, w.heap[b]? = some (.cells cs t (0, 0))
theorem Blk.lt {w : World} {b : Nat} {cs : Array Value} (h : Blk w b cs) : b < w.heap.size := by
  obtain ⟨t, h⟩ := h; exact (Array.getElem?_eq_some_iff.1 h).1
theorem Blk.ahead {w w' : World} {b : Nat} {cs : Array Value} (h : Blk w b cs) (ha : Ahead w w') : Blk w' b cs := by
  have hl := h.lt
  obtain ⟨t, h⟩ := h; exact ⟨t, by rw [Below.block ha b hl]; exact h⟩
theorem Blk.only {w w' : World} {b k : Nat} {cs : Array Value} (h : Blk w b cs) (ho : Only k w w') (hne : b ≠ k) : Blk w' b cs := by
  obtain ⟨t, h⟩ := h; exact ⟨t, by rw [ho.2.2.2.2 b hne]; exact h⟩
theorem Blk.cell {w : World} {b i : Nat} {cs : Array Value} {v : Value} (h : Blk w b cs) (hc : cs[i]? = some v) : w.cell? ⟨b, i, none⟩ = some v := by
  obtain ⟨t, h⟩ := h
  simp [World.cell?, h, hc]

theorem newC_b {w : World} {cs : Array Value} {t : TypeId} {K : Addr → World → Prop} (h : ∀ b w', b = w.heap.size → Ahead w w' → w'.heap.size = b + 1 → Blk w' b cs → K ⟨b, 0, none⟩ w') : newC w cs t K :=
  h _ _ rfl (Ahead.alloc _ _) (size_alloc _ _) ⟨t, get_alloc _ _⟩

/-- Nothing but the block, which holds no limb, has changed. -/
structure Upd (b : Nat) (w w' : World) : Prop where
  only : Only b w w'
  rd : ∀ s l, Rd .u64 w s l → Rd .u64 w' s l
theorem Upd.trans {b : Nat} {w w' w'' : World} (h : Upd b w w') (h' : Upd b w' w'') : Upd b w w'' := ⟨h.only.trans h'.only, fun s l hr => h'.rd s l (h.rd s l hr)⟩
theorem Upd.ahead {b : Nat} {w0 w w' : World} (h : Upd b w w') (ha : Ahead w0 w) (hb : w0.heap.size ≤ b) : Ahead w0 w' := h.only.ahead ha hb
theorem Upd.size {b : Nat} {w w' : World} (h : Upd b w w') : w'.heap.size = w.heap.size := h.only.2.2.2.1
theorem Upd.own {b base : Nat} {w w' : World} (h : Upd b w w') {s : Slc} {l : List Nat} (hr : OwnNil base w s l) (ho : b < base) : OwnNil base w' s l := h.only.ownNil hr ho
theorem Upd.blk {b k : Nat} {w w' : World} {cs : Array Value} (h : Upd k w w') (hr : Blk w b cs) (hne : b ≠ k) : Blk w' b cs := hr.only h.only hne
theorem Upd.cell {b : Nat} {w w' : World} (h : Upd b w w') {ad : Addr} {v : Value} (hne : ad.block ≠ b) (hc : w.cell? ad = some v) : w'.cell? ad = some v := by
  rw [World.cell?_of_block (h.only.2.2.2.2 _ hne)]; exact hc

def noU (cs : Array Value) : Bool := cs.toList.all fun v => match v with
  | .int .u64 _ => false
  | _ => true
theorem off_blk {w : World} {b : Nat} {cs : Array Value} {s : Slc} {l : List Int} (h : Blk w b cs) (hn : noU cs = true) (hr : Rd .u64 w s l) : Off b s := by
  intro ad e hp hb
  obtain ⟨ad', e', hc⟩ := hr.get 0 (by have := hr.n; omega)
  rw [e] at e'
  obtain rfl := Option.some.inj e'
  obtain ⟨t, h⟩ := h
  have hadd : ad.add 0 = ad := by simp [Addr.add]
  rw [hadd, World.cell?, hb, h] at hc
  simp only at hc
  split at hc
  · cases hc
  · have hm := Array.mem_of_getElem? hc
    unfold noU at hn
    have := List.all_eq_true.1 hn _ (Array.mem_toList_iff.2 hm)
    simp at this

theorem stC_b (i : Nat) {w : World} {b : Nat} {cs : Array Value} {ad : Addr} {v : Value} {K : World → Prop} (h : Blk w b cs) (hi : i < cs.size) (hn : noU cs = true)
    (hk : ∀ w', Upd b w w' → Blk w' b (cs.setIfInBounds i v) → K w') (hA : ad = ⟨b, i, none⟩ := by first | rfl | exact add_off) : stC ad v w K := by
  subst hA
  obtain ⟨t, hh⟩ := h
  have ho : Only b w (w.setCell ⟨b, i, none⟩ v) := Only.setCell b i w v
  refine ⟨⟨cs[i], by simp [World.cell?, hh, hi]⟩, by simp [World.frozen?, hh], hk _ ⟨ho, fun s l hr => ho.rd hr (off_blk ⟨t, hh⟩ hn hr)⟩ ⟨t, ?_⟩⟩
  have hlt := (Array.getElem?_eq_some_iff.1 hh).1
  have hget := (Array.getElem?_eq_some_iff.1 hh).2
  simp [World.setCell, Array.getElem?_modify, hh]
theorem ldB_b (i : Nat) {w : World} {b : Nat} {cs : Array Value} {ad : Addr} {x : Bool} {K : Bool → Prop} (h : Blk w b cs) (hc : cs[i]? = some (.bool x)) (hk : K x) (hA : ad = ⟨b, i, none⟩ := by first | rfl | exact add_off) : ldB ad w K := by
  subst hA; exact ⟨x, h.cell hc, hk⟩
theorem ldS_b (i : Nat) {w : World} {b : Nat} {cs : Array Value} {ad : Addr} {x : Slc} {K : Slc → Prop} (h : Blk w b cs) (hc : cs[i]? = some x.v) (hk : K x) (hA : ad = ⟨b, i, none⟩ := by first | rfl | exact add_off) : ldS ad w K := by
  subst hA; exact ⟨x, h.cell hc, hk⟩

abbrev c3 (x : Bool) (s : Slc) (e : Int) : Array Value := #[.bool x, s.v, .int .i64 e]
abbrev c2 (x : Bool) (s : Slc) : Array Value := #[.bool x, s.v]

end Sb
end Go.Proofs.Ytflipimlpgbnmaa
namespace Go.Proofs.Ytflipimlpgbnmaa
open Go Go.RowKit Eng Sp Dg
set_option linter.unusedVariables false
set_option linter.unusedSimpArgs false
set_option maxRecDepth 100000
namespace Fuel
open _root_.Go.Proofs.Ytflipimlpgbnmaa.Nat (Yes num_spec end_awake Num Num.ahead Num.bl OwnNil OwnNil.rd OwnNil.ahead OwnI OwnI.rd OwnI.ahead OwnI.mono atts tw tw_length atts_le atts_lt pow16 Attempts_spec alike_spec Norm_spec Add_spec bigC num_of)

open Sb

theorem cutLoG {k : IntKind} {t e : TypeId} (hT : isSl pr t k = some e) {w : World} {s : Slc} {h : Int} (h0 : 0 ≤ h) (h1 : h ≤ s.n) {K : Slc → World → Prop} (hk : K ⟨if s.c = h.toNat then s.A else s.A.map (·.add h.toNat), s.n - h.toNat, s.c - h.toNat⟩ w) :
    semS pr (Instr.sliceAt t s.v (some (.int .i64 h)) none none) w fun s' w' => K s' w' := by
  unfold semS; rw [Sem.wp_iff_run, run_slice_lo hT w s h0 h1]; exact ⟨_, rfl, hk⟩

/-- The meter lies in block b: its fuel is N, k attempts have been told. -/
def Mt (w : World) (b : Nat) (N k : Nat) : Prop := ∃ s : Slc, Blk w b #[s.v, .int .i64 (k : Int), .bool true] ∧ Num w s N
theorem Mt.ahead {w w' : World} {b N k : Nat} (h : Mt w b N k) (ha : Ahead w w') : Mt w' b N k := by
  obtain ⟨s, h1, h2⟩ := h; exact ⟨s, h1.ahead ha, h2.ahead ha⟩
theorem Mt.lt {w : World} {b N k : Nat} (h : Mt w b N k) : b < w.heap.size := by obtain ⟨s, h1, _⟩ := h; exact h1.lt
/-- Only the meter's block, and new memory. -/
structure Stp (b : Nat) (w w' : World) : Prop where
  bar : Bar (fun k => k = b) w w'
  rd : ∀ s l, Rd .u64 w s l → Rd .u64 w' s l
theorem Stp.of_ahead {b : Nat} {w w' : World} (h : Ahead w w') : Stp b w w' := ⟨Bar.of_ahead h, fun _ _ hr => hr.ahead h⟩
theorem Stp.trans {b : Nat} {x y z : World} (h : Stp b x y) (k : Stp b y z) : Stp b x z := ⟨h.bar.trans k.bar, fun s l hr => k.rd s l (h.rd s l hr)⟩
theorem Stp.ahead {b : Nat} {w0 w w' : World} (h : Stp b w w') (ha : Ahead w0 w) (hb : w0.heap.size ≤ b) : Ahead w0 w' :=
  ⟨h.bar.os.trans ha.os, h.bar.tape.trans ha.tape, h.bar.output.trans ha.output, Nat.le_trans ha.size h.bar.size, fun k hk => (h.bar.block k (Nat.lt_of_lt_of_le hk ha.size) (by omega)).trans (Below.block ha k hk)⟩
theorem Stp.num {b : Nat} {w w' : World} {s : Slc} {N : Nat} (h : Stp b w w') (hn : Num w s N) : Num w' s N := by
  obtain ⟨l, h1, h2⟩ := hn; exact ⟨l, h.rd _ _ h1, h2⟩

def enough (N : Nat) (p : Int) : Prop := 0 < atts N ∧ p ≤ ((64 * 2 ^ (atts N - 1) : Nat) : Int)
instance (N : Nat) (p : Int) : Decidable (enough N p) := inferInstanceAs (Decidable (_ ∧ _))

end Fuel
end Go.Proofs.Ytflipimlpgbnmaa
namespace Go.Proofs.Ytflipimlpgbnmaa
open Go Go.RowKit Eng
set_option linter.unusedVariables false

def numeral_Parse_cut (J0 : ByteArray → Int → Slc → Int → Int → World → Prop) (m0 : ByteArray → Int → Slc → Int → Int → World → Nat) : Nat → Option ((Act → World → Prop) × (Act → World → Nat))
  | 0 => some (fun a_ w_ => atSz a_ 60 (atN a_ 0 fun t0_s => atI .i64 a_ 1 fun t1_base => atS a_ 6 fun t6_l => atI .i64 a_ 19 fun t19 => atI .i64 a_ 20 fun t20 => J0 t0_s t1_base t6_l t19 t20 w_), fun a_ w_ => mN a_ 0 fun t0_s => mI a_ 1 fun t1_base => mS a_ 6 fun t6_l => mI a_ 19 fun t19 => mI a_ 20 fun t20 => m0 t0_s t1_base t6_l t19 t20 w_)
  | _ => none

set_option maxRecDepth 100000 in
/-- surd/numeral.Parse: function 59. -/
theorem numeral_Parse_vc (a0_s : ByteArray) (a1_base : Int) (w : World) (R : Ending → World → Prop)
    (J0 : ByteArray → Int → Slc → Int → Int → World → Prop) (m0 : ByteArray → Int → Slc → Int → Int → World → Nat)
    (h : Calls Try.prog 67 #[Value.int .i64 a1_base] w fun e1 w1 =>
    ∃ b1 : Bool, e1 = .returned (Value.bool b1) ∧
    (br (!b1)
     (R (.returned (Value.tuple #[(⟨none, 0, 0⟩ : Slc).v, Value.int .i64 50])) w1)
     (br (a0_s.toList == (⟨#[]⟩ : ByteArray).toList)
      (R (.returned (Value.tuple #[(⟨none, 0, 0⟩ : Slc).v, Value.int .i64 51])) w1)
      (semS Try.prog (Instr.makeSlice 38 (Value.int .i64 (a0_s.size : Int)) (Value.int .i64 (a0_s.size : Int))) w1 fun s1 w2 =>
       J0 a0_s a1_base s1 (a0_s.size : Int) 0 w2))))
    (h0 : ∀ (t0_s : ByteArray) (t1_base : Int) (t6_l : Slc) (t19 : Int) (t20 : Int) (w_ : World), J0 t0_s t1_base t6_l t19 t20 w_ → 
    br (decide (t20 < t19))
    (semI Try.prog .u8 (Instr.index 9 (Value.string t0_s) (Value.int .i64 t20)) w_ fun x1 w3 =>
     br (decide (x1 ≥ 48))
     (br (decide (x1 ≤ 57))
      (br (decide ((IntKind.i64.wrap (IntKind.u8.wrap (x1 - 48))) ≥ t1_base))
       (R (.returned (Value.tuple #[(⟨none, 0, 0⟩ : Slc).v, Value.int .i64 51])) w3)
       (semA Try.prog (Instr.indexAt 38 t6_l.v (Value.int .i64 t20)) w3 fun ad1 w4 =>
        stC ad1 (Value.int .i64 (IntKind.i64.wrap (IntKind.u8.wrap (x1 - 48)))) w4 fun w5 =>
        J0 t0_s t1_base t6_l t19 (IntKind.i64.wrap (t20 + 1)) w5 ∧
        m0 t0_s t1_base t6_l t19 (IntKind.i64.wrap (t20 + 1)) w5 < m0 t0_s t1_base t6_l t19 t20 w_))
      (br (decide (x1 ≥ 97))
       (br (decide (x1 ≤ 122))
        (br (decide ((IntKind.i64.wrap ((IntKind.i64.wrap (IntKind.u8.wrap (x1 - 97))) + 10)) ≥ t1_base))
         (R (.returned (Value.tuple #[(⟨none, 0, 0⟩ : Slc).v, Value.int .i64 51])) w3)
         (semA Try.prog (Instr.indexAt 38 t6_l.v (Value.int .i64 t20)) w3 fun ad2 w6 =>
          stC ad2 (Value.int .i64 (IntKind.i64.wrap ((IntKind.i64.wrap (IntKind.u8.wrap (x1 - 97))) + 10))) w6 fun w7 =>
          J0 t0_s t1_base t6_l t19 (IntKind.i64.wrap (t20 + 1)) w7 ∧
          m0 t0_s t1_base t6_l t19 (IntKind.i64.wrap (t20 + 1)) w7 < m0 t0_s t1_base t6_l t19 t20 w_))
        (br (decide ((36 : Int) ≥ t1_base))
         (R (.returned (Value.tuple #[(⟨none, 0, 0⟩ : Slc).v, Value.int .i64 51])) w3)
         (semA Try.prog (Instr.indexAt 38 t6_l.v (Value.int .i64 t20)) w3 fun ad3 w8 =>
          stC ad3 (Value.int .i64 36) w8 fun w9 =>
          J0 t0_s t1_base t6_l t19 (IntKind.i64.wrap (t20 + 1)) w9 ∧
          m0 t0_s t1_base t6_l t19 (IntKind.i64.wrap (t20 + 1)) w9 < m0 t0_s t1_base t6_l t19 t20 w_)))
       (br (decide ((36 : Int) ≥ t1_base))
        (R (.returned (Value.tuple #[(⟨none, 0, 0⟩ : Slc).v, Value.int .i64 51])) w3)
        (semA Try.prog (Instr.indexAt 38 t6_l.v (Value.int .i64 t20)) w3 fun ad4 w10 =>
         stC ad4 (Value.int .i64 36) w10 fun w11 =>
         J0 t0_s t1_base t6_l t19 (IntKind.i64.wrap (t20 + 1)) w11 ∧
         m0 t0_s t1_base t6_l t19 (IntKind.i64.wrap (t20 + 1)) w11 < m0 t0_s t1_base t6_l t19 t20 w_))))
     (br (decide (x1 ≥ 97))
      (br (decide (x1 ≤ 122))
       (br (decide ((IntKind.i64.wrap ((IntKind.i64.wrap (IntKind.u8.wrap (x1 - 97))) + 10)) ≥ t1_base))
        (R (.returned (Value.tuple #[(⟨none, 0, 0⟩ : Slc).v, Value.int .i64 51])) w3)
        (semA Try.prog (Instr.indexAt 38 t6_l.v (Value.int .i64 t20)) w3 fun ad5 w12 =>
         stC ad5 (Value.int .i64 (IntKind.i64.wrap ((IntKind.i64.wrap (IntKind.u8.wrap (x1 - 97))) + 10))) w12 fun w13 =>
         J0 t0_s t1_base t6_l t19 (IntKind.i64.wrap (t20 + 1)) w13 ∧
         m0 t0_s t1_base t6_l t19 (IntKind.i64.wrap (t20 + 1)) w13 < m0 t0_s t1_base t6_l t19 t20 w_))
       (br (decide ((36 : Int) ≥ t1_base))
        (R (.returned (Value.tuple #[(⟨none, 0, 0⟩ : Slc).v, Value.int .i64 51])) w3)
        (semA Try.prog (Instr.indexAt 38 t6_l.v (Value.int .i64 t20)) w3 fun ad6 w14 =>
         stC ad6 (Value.int .i64 36) w14 fun w15 =>
         J0 t0_s t1_base t6_l t19 (IntKind.i64.wrap (t20 + 1)) w15 ∧
         m0 t0_s t1_base t6_l t19 (IntKind.i64.wrap (t20 + 1)) w15 < m0 t0_s t1_base t6_l t19 t20 w_)))
      (br (decide ((36 : Int) ≥ t1_base))
       (R (.returned (Value.tuple #[(⟨none, 0, 0⟩ : Slc).v, Value.int .i64 51])) w3)
       (semA Try.prog (Instr.indexAt 38 t6_l.v (Value.int .i64 t20)) w3 fun ad7 w16 =>
        stC ad7 (Value.int .i64 36) w16 fun w17 =>
        J0 t0_s t1_base t6_l t19 (IntKind.i64.wrap (t20 + 1)) w17 ∧
        m0 t0_s t1_base t6_l t19 (IntKind.i64.wrap (t20 + 1)) w17 < m0 t0_s t1_base t6_l t19 t20 w_))))
    (Calls Try.prog 68 #[t6_l.v, Value.int .i64 t1_base] w_ fun e2 w18 =>
     ∃ s2 : Slc, ∃ x2 : Int, e2 = .returned (Value.tuple #[s2.v, Value.int .i64 x2]) ∧
     (R (.returned (Value.tuple #[s2.v, Value.int .i64 x2])) w18))) :
    Calls Try.prog 59 #[Value.string a0_s, Value.int .i64 a1_base] w R := by
  refine calls_of_vc (numeral_Parse_cut J0 m0) (by kernel_rfl) Try.func59 rfl ?_ ?_
  · refine kcast h ?_; kernel_rfl
  · exact (obl_seq rfl (obl_reg (obl_seq rfl (obl_seq rfl (obl_reg (obl_cond (obl_seq rfl (obl_reg (obl_ret (obl_skip (obl_seq rfl (obl_seq rfl (obl_reg (obl_cond (obl_seq rfl (obl_reg (obl_ret (obl_skip (obl_seq rfl (obl_reg (obl_seq rfl (obl_seq rfl (obl_reg (obl_loop _ rfl (fun a_ w_ hL_ => (by
    obtain ⟨hz_, hd_, hL_⟩ := atSz_out hL_
    obtain ⟨t0_s, h0_, hL_⟩ := atN_out hL_
    obtain ⟨t1_base, h1_, hL_⟩ := atI_out hL_
    obtain ⟨t6_l, h6_, hL_⟩ := atS_out hL_
    obtain ⟨t19, h19_, hL_⟩ := atI_out hL_
    obtain ⟨t20, h20_, hL_⟩ := atI_out hL_
    obtain ⟨g0, rfl⟩ : ∃ g, a_ = Fr 60 [(0, Value.string t0_s), (1, Value.int .i64 t1_base), (6, t6_l.v), (19, Value.int .i64 t19), (20, Value.int .i64 t20)] g := ⟨_, fr_of hz_ hd_ [(0, Value.string t0_s), (1, Value.int .i64 t1_base), (6, t6_l.v), (19, Value.int .i64 t19), (20, Value.int .i64 t20)] (sel_cons h0_ (sel_cons h1_ (sel_cons h6_ (sel_cons h19_ (sel_cons h20_ sel_nil)))))⟩
    clear hz_ hd_ h0_ h1_ h6_ h19_ h20_
    have hJ0_ := hL_
    refine ⟨(fun _ => none), kcast (h0 t0_s t1_base t6_l t19 t20 w_ hJ0_) ?_, ?_⟩
    · kernel_rfl
    · exact (obl_seq rfl (obl_reg (obl_seq rfl (obl_cond (obl_skip (obl_exit (obl_seq rfl (obl_blk rfl (obl_seq rfl (obl_reg (obl_seq rfl (obl_reg (obl_seq rfl (obl_seq rfl (obl_reg (obl_blk rfl (obl_seq rfl (obl_reg (obl_cond (obl_reg (obl_seq rfl (obl_reg (obl_cond (obl_reg (obl_skip (obl_seq rfl (obl_seq rfl (obl_reg (obl_cond (obl_seq rfl (obl_reg (obl_ret (obl_skip (obl_reg (obl_reg trivial))))))))))))))))))))))))))))))))))))) (obl_seq rfl (obl_reg (obl_ret trivial)))))))))))))))))))))))))))

set_option maxRecDepth 100000 in
/-- surd/fuel.Parse: function 44. -/
theorem fuel_Parse_vc (a0_s : ByteArray) (w : World) (R : Ending → World → Prop)
    
    (h : br (decide ((a0_s.size : Int) > 1048576))
    (R (.returned (Value.tuple #[(⟨none, 0, 0⟩ : Slc).v, Value.int .i64 1])) w)
    (Calls Try.prog 59 #[Value.string a0_s, Value.int .i64 10] w fun e1 w1 =>
     ∃ s1 : Slc, ∃ x1 : Int, e1 = .returned (Value.tuple #[s1.v, Value.int .i64 x1]) ∧
     (R (.returned (Value.tuple #[s1.v, Value.int .i64 x1])) w1))) :
    Calls Try.prog 44 #[Value.string a0_s] w R := by
  refine calls_of_vc (fun _ => none) (by kernel_rfl) Try.func44 rfl ?_ ?_
  · refine kcast h ?_; kernel_rfl
  · exact (obl_seq rfl (obl_reg (obl_seq rfl (obl_seq rfl (obl_reg (obl_cond (obl_seq rfl (obl_reg (obl_ret (obl_skip (obl_seq rfl (obl_reg (obl_ret trivial)))))))))))))

set_option maxRecDepth 100000 in
/-- surd/surdlaw18.FuelTexts: function 10. -/
theorem surdlaw18_FuelTexts_vc (a0_f : Slc) (w : World) (R : Ending → World → Prop)
    
    (h : Calls Try.prog 18 #[a0_f.v] w fun e1 w1 =>
    ∃ s1 : Slc, e1 = .returned s1.v ∧
    (Calls Try.prog 46 #[Value.agg #[Value.bool false, s1.v]] w1 fun e2 w2 =>
     ∃ n1 : ByteArray, e2 = .returned (Value.string n1) ∧
     (br (decide ((n1.size : Int) > 1048576))
      (Calls Try.prog 12 #[] w2 fun e3 w3 =>
       ∃ b1 : Bool, e3 = .returned (Value.bool b1) ∧
       (R (.returned (Value.bool b1)) w3))
      (Calls Try.prog 44 #[Value.string n1] w2 fun e4 w4 =>
       ∃ s2 : Slc, ∃ x1 : Int, e4 = .returned (Value.tuple #[s2.v, Value.int .i64 x1]) ∧
       (Calls Try.prog 11 #[Value.int .i64 x1] w4 fun e5 w5 =>
        ∃ x2 : Int, e5 = .returned (Value.int .i64 x2) ∧
        (br (x2 == 0)
         (Calls Try.prog 15 #[s1.v, s2.v] w5 fun e6 w6 =>
          ∃ b2 : Bool, e6 = .returned (Value.bool b2) ∧
          (br b2
           (Calls Try.prog 20 #[s2.v] w6 fun e7 w7 =>
            ∃ s3 : Slc, e7 = .returned s3.v ∧
            (Calls Try.prog 20 #[a0_f.v] w7 fun e8 w8 =>
             ∃ s4 : Slc, e8 = .returned s4.v ∧
             (Calls Try.prog 21 #[s3.v, s4.v] w8 fun e9 w9 =>
              ∃ b3 : Bool, e9 = .returned (Value.bool b3) ∧
              (br b3
               (Calls Try.prog 12 #[] w9 fun e10 w10 =>
                ∃ b4 : Bool, e10 = .returned (Value.bool b4) ∧
                (R (.returned (Value.bool b4)) w10))
               (R (.returned (Value.bool false)) w9)))))
           (R (.returned (Value.bool false)) w6)))
         (R (.returned (Value.bool false)) w5))))))) :
    Calls Try.prog 10 #[a0_f.v] w R := by
  refine calls_of_vc (fun _ => none) (by kernel_rfl) Try.func10 rfl ?_ ?_
  · refine kcast h ?_; kernel_rfl
  · exact (obl_seq rfl (obl_reg (obl_seq rfl (obl_reg (obl_seq rfl (obl_reg (obl_seq rfl (obl_seq rfl (obl_reg (obl_cond (obl_seq rfl (obl_reg (obl_ret (obl_skip (obl_seq rfl (obl_reg (obl_seq rfl (obl_reg (obl_ret trivial)))))))))))))))))))

set_option maxRecDepth 100000 in
/-- surd/numeral.good: function 67. -/
theorem numeral_good_vc (a0_base : Int) (w : World) (R : Ending → World → Prop)
    
    (h : br (decide (a0_base ≥ 2))
    (R (.returned (Value.bool (decide (a0_base ≤ 36)))) w)
    (R (.returned (Value.bool false)) w)) :
    Calls Try.prog 67 #[Value.int .i64 a0_base] w R := by
  refine calls_of_vc (fun _ => none) (by kernel_rfl) Try.func67 rfl ?_ ?_
  · refine kcast h ?_; kernel_rfl
  · exact (obl_seq rfl (obl_reg (obl_seq rfl (obl_reg (obl_ret trivial)))))

end Go.Proofs.Ytflipimlpgbnmaa
