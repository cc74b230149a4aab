/- Verification conditions of some of the program's functions, printed by a program of this session. No condition. -/
import Derived.Test.YtaflfjbhlgbmdaaProg
import Derived.Test.YtaflfjbhlgbmdaaEng
namespace Go.Proofs.Ytaflfjbhlgbmdaa
open Go Go.RowKit Eng
set_option linter.unusedVariables false

set_option maxRecDepth 100000 in
/-- surd/surdlaw01.NatNames: function 3. -/
theorem surdlaw01_NatNames_vc  (w : World) (R : Ending → World → Prop)
    
    (h : Calls Try.prog 11 #[] w fun e1 w1 =>
    ∃ b1 : Bool, e1 = .returned (Value.bool b1) ∧
    (R (.returned (Value.bool b1)) w1)) :
    Calls Try.prog 3 #[] w R := by
  refine calls_of_vc (fun _ => none) (by kernel_rfl) Try.func3 rfl ?_ ?_
  · refine kcast h ?_; kernel_rfl
  · exact (obl_seq rfl (obl_reg (obl_seq rfl (obl_reg (obl_ret trivial)))))

set_option maxRecDepth 100000 in
/-- surd/surdlaw01.NatSums: function 4. -/
theorem surdlaw01_NatSums_vc (a0 : Slc) (a1 : Slc) (w : World) (R : Ending → World → Prop)
    
    (h : Calls Try.prog 12 #[a0.v] w fun e1 w1 =>
    ∃ s1 : Slc, ∃ s2 : Slc, e1 = .returned (Value.tuple #[s1.v, s2.v]) ∧
    (Calls Try.prog 12 #[a1.v] w1 fun e2 w2 =>
      ∃ s3 : Slc, ∃ s4 : Slc, e2 = .returned (Value.tuple #[s3.v, s4.v]) ∧
      (Calls Try.prog 13 #[a0.v] w2 fun e3 w3 =>
        ∃ s5 : Slc, e3 = .returned s5.v ∧
        (Calls Try.prog 13 #[a1.v] w3 fun e4 w4 =>
          ∃ s6 : Slc, e4 = .returned s6.v ∧
          (Calls Try.prog 14 #[s2.v, s4.v] w4 fun e5 w5 =>
            ∃ s7 : Slc, ∃ x1 : Int, e5 = .returned (Value.tuple #[s7.v, Value.int .i64 x1]) ∧
            (Calls Try.prog 14 #[s2.v, s4.v] w5 fun e6 w6 =>
              ∃ s8 : Slc, ∃ x2 : Int, e6 = .returned (Value.tuple #[s8.v, Value.int .i64 x2]) ∧
              (Calls Try.prog 16 #[s5.v, s6.v] w6 fun e7 w7 =>
                ∃ s9 : Slc, e7 = .returned s9.v ∧
                (Calls Try.prog 15 #[s7.v, Value.int .i64 x1, s9.v, Value.int .i64 0] w7 fun e8 w8 =>
                  ∃ b1 : Bool, e8 = .returned (Value.bool b1) ∧
                  (br (!b1)
                    (R (.returned (Value.bool false)) w8)
                    (newC w8 #[s7.v, s8.v] 23 fun ad1 w9 =>
                      Calls Try.prog 17 #[(⟨some ad1, 2, 2⟩ : Slc).v] w9 fun e9 w10 =>
                      ∃ b2 : Bool, e9 = .returned (Value.bool b2) ∧
                      (br (!b2)
                        (R (.returned (Value.bool false)) w10)
                        (Calls Try.prog 18 #[s2.v, s4.v] w10 fun e10 w11 =>
                          ∃ s10 : Slc, ∃ x3 : Int, e10 = .returned (Value.tuple #[s10.v, Value.int .i64 x3]) ∧
                          (Calls Try.prog 19 #[s5.v, s6.v] w11 fun e11 w12 =>
                            ∃ x4 : Int, e11 = .returned (Value.int .i64 x4) ∧
                            (br (decide (x4 < 0))
                              (Calls Try.prog 15 #[s10.v, Value.int .i64 x3, (⟨none, 0, 0⟩ : Slc).v, Value.int .i64 10] w12 fun e12 w13 =>
                                ∃ b3 : Bool, e12 = .returned (Value.bool b3) ∧
                                (br b3
                                  (Calls Try.prog 11 #[] w13 fun e13 w14 =>
                                    ∃ b4 : Bool, e13 = .returned (Value.bool b4) ∧
                                    (R (.returned (Value.bool b4)) w14))
                                  (R (.returned (Value.bool false)) w13)))
                              (Calls Try.prog 20 #[s5.v, s6.v] w12 fun e14 w15 =>
                                ∃ s11 : Slc, e14 = .returned s11.v ∧
                                (Calls Try.prog 15 #[s10.v, Value.int .i64 x3, s11.v, Value.int .i64 0] w15 fun e15 w16 =>
                                  ∃ b5 : Bool, e15 = .returned (Value.bool b5) ∧
                                  (br b5
                                    (newC w16 #[s10.v] 23 fun ad2 w17 =>
                                      Calls Try.prog 17 #[(⟨some ad2, 1, 1⟩ : Slc).v] w17 fun e16 w18 =>
                                      ∃ b6 : Bool, e16 = .returned (Value.bool b6) ∧
                                      (br b6
                                        (Calls Try.prog 21 #[s1.v, a0.v] w18 fun e17 w19 =>
                                          ∃ b7 : Bool, e17 = .returned (Value.bool b7) ∧
                                          (br b7
                                            (Calls Try.prog 21 #[s3.v, a1.v] w19 fun e18 w20 =>
                                              ∃ b8 : Bool, e18 = .returned (Value.bool b8) ∧
                                              (br b8
                                                (Calls Try.prog 11 #[] w20 fun e19 w21 =>
                                                  ∃ b9 : Bool, e19 = .returned (Value.bool b9) ∧
                                                  (R (.returned (Value.bool b9)) w21))
                                                (R (.returned (Value.bool false)) w20)))
                                            (R (.returned (Value.bool false)) w19)))
                                        (R (.returned (Value.bool false)) w18)))
                                    (R (.returned (Value.bool false)) w16)))))))))))))))))) :
    Calls Try.prog 4 #[a0.v, a1.v] w R := by
  refine calls_of_vc (fun _ => none) (by kernel_rfl) Try.func4 rfl ?_ ?_
  · refine kcast h ?_; kernel_rfl
  · exact (obl_seq rfl (obl_reg (obl_seq rfl (obl_reg (obl_seq rfl (obl_reg (obl_seq rfl (obl_reg (obl_seq rfl (obl_reg (obl_seq rfl (obl_reg (obl_seq rfl (obl_seq rfl (obl_reg (obl_cond (obl_seq rfl (obl_reg (obl_ret (obl_skip (obl_seq rfl (obl_reg (obl_seq rfl (obl_seq rfl (obl_reg (obl_cond (obl_seq rfl (obl_reg (obl_ret (obl_skip (obl_seq rfl (obl_reg (obl_ret trivial)))))))))))))))))))))))))))))))))

set_option maxRecDepth 100000 in
/-- surd/surdlaw01.NatOrders: function 5. -/
theorem surdlaw01_NatOrders_vc (a0 : Slc) (a1 : Slc) (a2 : Slc) (w : World) (R : Ending → World → Prop)
    
    (h : Calls Try.prog 22 #[a0.v, a1.v] w fun e1 w1 =>
    ∃ x1 : Int, e1 = .returned (Value.int .i64 x1) ∧
    (Calls Try.prog 22 #[a1.v, a0.v] w1 fun e2 w2 =>
      ∃ x2 : Int, e2 = .returned (Value.int .i64 x2) ∧
      (Calls Try.prog 22 #[a1.v, a2.v] w2 fun e3 w3 =>
        ∃ x3 : Int, e3 = .returned (Value.int .i64 x3) ∧
        (br (x1 != (IntKind.i64.wrap (0 - x2)))
          (R (.returned (Value.bool false)) w3)
          (Calls Try.prog 22 #[a0.v, a0.v] w3 fun e4 w4 =>
            ∃ x4 : Int, e4 = .returned (Value.int .i64 x4) ∧
            (br (x4 != 0)
              (R (.returned (Value.bool false)) w4)
              (br (decide (x1 ≤ 0))
                (br (decide (x3 ≤ 0))
                  (Calls Try.prog 22 #[a0.v, a2.v] w4 fun e5 w5 =>
                    ∃ x5 : Int, e5 = .returned (Value.int .i64 x5) ∧
                    (br (decide (x5 > 0))
                      (R (.returned (Value.bool false)) w5)
                      (br (decide (x1 ≤ 0))
                        (Calls Try.prog 23 #[a0.v] w5 fun e6 w6 =>
                          ∃ x6 : Int, e6 = .returned (Value.int .i64 x6) ∧
                          (Calls Try.prog 23 #[a1.v] w6 fun e7 w7 =>
                            ∃ x7 : Int, e7 = .returned (Value.int .i64 x7) ∧
                            (br (decide (x6 > x7))
                              (R (.returned (Value.bool false)) w7)
                              (Calls Try.prog 18 #[a0.v, a1.v] w7 fun e8 w8 =>
                                ∃ s1 : Slc, ∃ x8 : Int, e8 = .returned (Value.tuple #[s1.v, Value.int .i64 x8]) ∧
                                (Calls Try.prog 23 #[a0.v] w8 fun e9 w9 =>
                                  ∃ x9 : Int, e9 = .returned (Value.int .i64 x9) ∧
                                  (br (decide (x9 > 67108864))
                                    (Calls Try.prog 11 #[] w9 fun e10 w10 =>
                                      ∃ b1 : Bool, e10 = .returned (Value.bool b1) ∧
                                      (R (.returned (Value.bool b1)) w10))
                                    (br ((x8 == 10) == (decide (x1 < 0)))
                                      (Calls Try.prog 11 #[] w9 fun e11 w11 =>
                                        ∃ b2 : Bool, e11 = .returned (Value.bool b2) ∧
                                        (R (.returned (Value.bool b2)) w11))
                                      (R (.returned (Value.bool false)) w9))))))))
                        (Calls Try.prog 18 #[a0.v, a1.v] w5 fun e12 w12 =>
                          ∃ s2 : Slc, ∃ x10 : Int, e12 = .returned (Value.tuple #[s2.v, Value.int .i64 x10]) ∧
                          (Calls Try.prog 23 #[a0.v] w12 fun e13 w13 =>
                            ∃ x11 : Int, e13 = .returned (Value.int .i64 x11) ∧
                            (br (decide (x11 > 67108864))
                              (Calls Try.prog 11 #[] w13 fun e14 w14 =>
                                ∃ b3 : Bool, e14 = .returned (Value.bool b3) ∧
                                (R (.returned (Value.bool b3)) w14))
                              (br ((x10 == 10) == (decide (x1 < 0)))
                                (Calls Try.prog 11 #[] w13 fun e15 w15 =>
                                  ∃ b4 : Bool, e15 = .returned (Value.bool b4) ∧
                                  (R (.returned (Value.bool b4)) w15))
                                (R (.returned (Value.bool false)) w13))))))))
                  (br (decide (x1 ≤ 0))
                    (Calls Try.prog 23 #[a0.v] w4 fun e16 w16 =>
                      ∃ x12 : Int, e16 = .returned (Value.int .i64 x12) ∧
                      (Calls Try.prog 23 #[a1.v] w16 fun e17 w17 =>
                        ∃ x13 : Int, e17 = .returned (Value.int .i64 x13) ∧
                        (br (decide (x12 > x13))
                          (R (.returned (Value.bool false)) w17)
                          (Calls Try.prog 18 #[a0.v, a1.v] w17 fun e18 w18 =>
                            ∃ s3 : Slc, ∃ x14 : Int, e18 = .returned (Value.tuple #[s3.v, Value.int .i64 x14]) ∧
                            (Calls Try.prog 23 #[a0.v] w18 fun e19 w19 =>
                              ∃ x15 : Int, e19 = .returned (Value.int .i64 x15) ∧
                              (br (decide (x15 > 67108864))
                                (Calls Try.prog 11 #[] w19 fun e20 w20 =>
                                  ∃ b5 : Bool, e20 = .returned (Value.bool b5) ∧
                                  (R (.returned (Value.bool b5)) w20))
                                (br ((x14 == 10) == (decide (x1 < 0)))
                                  (Calls Try.prog 11 #[] w19 fun e21 w21 =>
                                    ∃ b6 : Bool, e21 = .returned (Value.bool b6) ∧
                                    (R (.returned (Value.bool b6)) w21))
                                  (R (.returned (Value.bool false)) w19))))))))
                    (Calls Try.prog 18 #[a0.v, a1.v] w4 fun e22 w22 =>
                      ∃ s4 : Slc, ∃ x16 : Int, e22 = .returned (Value.tuple #[s4.v, Value.int .i64 x16]) ∧
                      (Calls Try.prog 23 #[a0.v] w22 fun e23 w23 =>
                        ∃ x17 : Int, e23 = .returned (Value.int .i64 x17) ∧
                        (br (decide (x17 > 67108864))
                          (Calls Try.prog 11 #[] w23 fun e24 w24 =>
                            ∃ b7 : Bool, e24 = .returned (Value.bool b7) ∧
                            (R (.returned (Value.bool b7)) w24))
                          (br ((x16 == 10) == (decide (x1 < 0)))
                            (Calls Try.prog 11 #[] w23 fun e25 w25 =>
                              ∃ b8 : Bool, e25 = .returned (Value.bool b8) ∧
                              (R (.returned (Value.bool b8)) w25))
                            (R (.returned (Value.bool false)) w23)))))))
                (br (decide (x1 ≤ 0))
                  (Calls Try.prog 23 #[a0.v] w4 fun e26 w26 =>
                    ∃ x18 : Int, e26 = .returned (Value.int .i64 x18) ∧
                    (Calls Try.prog 23 #[a1.v] w26 fun e27 w27 =>
                      ∃ x19 : Int, e27 = .returned (Value.int .i64 x19) ∧
                      (br (decide (x18 > x19))
                        (R (.returned (Value.bool false)) w27)
                        (Calls Try.prog 18 #[a0.v, a1.v] w27 fun e28 w28 =>
                          ∃ s5 : Slc, ∃ x20 : Int, e28 = .returned (Value.tuple #[s5.v, Value.int .i64 x20]) ∧
                          (Calls Try.prog 23 #[a0.v] w28 fun e29 w29 =>
                            ∃ x21 : Int, e29 = .returned (Value.int .i64 x21) ∧
                            (br (decide (x21 > 67108864))
                              (Calls Try.prog 11 #[] w29 fun e30 w30 =>
                                ∃ b9 : Bool, e30 = .returned (Value.bool b9) ∧
                                (R (.returned (Value.bool b9)) w30))
                              (br ((x20 == 10) == (decide (x1 < 0)))
                                (Calls Try.prog 11 #[] w29 fun e31 w31 =>
                                  ∃ b10 : Bool, e31 = .returned (Value.bool b10) ∧
                                  (R (.returned (Value.bool b10)) w31))
                                (R (.returned (Value.bool false)) w29))))))))
                  (Calls Try.prog 18 #[a0.v, a1.v] w4 fun e32 w32 =>
                    ∃ s6 : Slc, ∃ x22 : Int, e32 = .returned (Value.tuple #[s6.v, Value.int .i64 x22]) ∧
                    (Calls Try.prog 23 #[a0.v] w32 fun e33 w33 =>
                      ∃ x23 : Int, e33 = .returned (Value.int .i64 x23) ∧
                      (br (decide (x23 > 67108864))
                        (Calls Try.prog 11 #[] w33 fun e34 w34 =>
                          ∃ b11 : Bool, e34 = .returned (Value.bool b11) ∧
                          (R (.returned (Value.bool b11)) w34))
                        (br ((x22 == 10) == (decide (x1 < 0)))
                          (Calls Try.prog 11 #[] w33 fun e35 w35 =>
                            ∃ b12 : Bool, e35 = .returned (Value.bool b12) ∧
                            (R (.returned (Value.bool b12)) w35))
                          (R (.returned (Value.bool false)) w33))))))))))))) :
    Calls Try.prog 5 #[a0.v, a1.v, a2.v] w R := by
  refine calls_of_vc (fun _ => none) (by kernel_rfl) Try.func5 rfl ?_ ?_
  · refine kcast h ?_; kernel_rfl
  · exact (obl_seq rfl (obl_reg (obl_seq rfl (obl_reg (obl_seq rfl (obl_seq rfl (obl_reg (obl_cond (obl_seq rfl (obl_reg (obl_ret (obl_skip (obl_seq rfl (obl_reg (obl_seq rfl (obl_seq rfl (obl_reg (obl_cond (obl_seq rfl (obl_reg (obl_ret (obl_skip (obl_seq rfl (obl_reg (obl_ret trivial)))))))))))))))))))))))))

set_option maxRecDepth 100000 in
/-- surd/surdlaw01.NatShifts: function 6. -/
theorem surdlaw01_NatShifts_vc (a0 : Slc) (a1 : Int) (w : World) (R : Ending → World → Prop)
    
    (h : Calls Try.prog 12 #[a0.v] w fun e1 w1 =>
    ∃ s1 : Slc, ∃ s2 : Slc, e1 = .returned (Value.tuple #[s1.v, s2.v]) ∧
    (Calls Try.prog 13 #[a0.v] w1 fun e2 w2 =>
      ∃ s3 : Slc, e2 = .returned s3.v ∧
      (Calls Try.prog 24 #[s2.v, Value.int .i64 a1] w2 fun e3 w3 =>
        ∃ s4 : Slc, ∃ x1 : Int, e3 = .returned (Value.tuple #[s4.v, Value.int .i64 x1]) ∧
        (Calls Try.prog 25 #[s2.v, Value.int .i64 a1] w3 fun e4 w4 =>
          ∃ s5 : Slc, ∃ x2 : Int, e4 = .returned (Value.tuple #[s5.v, Value.int .i64 x2]) ∧
          (Calls Try.prog 26 #[s2.v, Value.int .i64 a1] w4 fun e5 w5 =>
            ∃ s6 : Slc, ∃ x3 : Int, e5 = .returned (Value.tuple #[s6.v, Value.int .i64 x3]) ∧
            (br (decide (a1 < 0))
              (Calls Try.prog 15 #[s4.v, Value.int .i64 x1, (⟨none, 0, 0⟩ : Slc).v, Value.int .i64 1] w5 fun e6 w6 =>
                ∃ b1 : Bool, e6 = .returned (Value.bool b1) ∧
                (br b1
                  (Calls Try.prog 15 #[s5.v, Value.int .i64 x2, (⟨none, 0, 0⟩ : Slc).v, Value.int .i64 1] w6 fun e7 w7 =>
                    ∃ b2 : Bool, e7 = .returned (Value.bool b2) ∧
                    (br b2
                      (Calls Try.prog 15 #[s6.v, Value.int .i64 x3, (⟨none, 0, 0⟩ : Slc).v, Value.int .i64 1] w7 fun e8 w8 =>
                        ∃ b3 : Bool, e8 = .returned (Value.bool b3) ∧
                        (br b3
                          (Calls Try.prog 11 #[] w8 fun e9 w9 =>
                            ∃ b4 : Bool, e9 = .returned (Value.bool b4) ∧
                            (R (.returned (Value.bool b4)) w9))
                          (R (.returned (Value.bool false)) w8)))
                      (R (.returned (Value.bool false)) w7)))
                  (R (.returned (Value.bool false)) w6)))
              (br (decide (a1 > 1099511627776))
                (Calls Try.prog 15 #[s4.v, Value.int .i64 x1, (⟨none, 0, 0⟩ : Slc).v, Value.int .i64 1] w5 fun e10 w10 =>
                  ∃ b5 : Bool, e10 = .returned (Value.bool b5) ∧
                  (br b5
                    (Calls Try.prog 15 #[s5.v, Value.int .i64 x2, (⟨none, 0, 0⟩ : Slc).v, Value.int .i64 1] w10 fun e11 w11 =>
                      ∃ b6 : Bool, e11 = .returned (Value.bool b6) ∧
                      (br b6
                        (Calls Try.prog 15 #[s6.v, Value.int .i64 x3, (⟨none, 0, 0⟩ : Slc).v, Value.int .i64 1] w11 fun e12 w12 =>
                          ∃ b7 : Bool, e12 = .returned (Value.bool b7) ∧
                          (br b7
                            (Calls Try.prog 11 #[] w12 fun e13 w13 =>
                              ∃ b8 : Bool, e13 = .returned (Value.bool b8) ∧
                              (R (.returned (Value.bool b8)) w13))
                            (R (.returned (Value.bool false)) w12)))
                        (R (.returned (Value.bool false)) w11)))
                    (R (.returned (Value.bool false)) w10)))
                (Calls Try.prog 27 #[s3.v, Value.int .i64 a1] w5 fun e14 w14 =>
                  ∃ s7 : Slc, e14 = .returned s7.v ∧
                  (Calls Try.prog 15 #[s5.v, Value.int .i64 x2, s7.v, Value.int .i64 0] w14 fun e15 w15 =>
                    ∃ b9 : Bool, e15 = .returned (Value.bool b9) ∧
                    (br (!b9)
                      (R (.returned (Value.bool false)) w15)
                      (Calls Try.prog 28 #[s3.v, Value.int .i64 a1] w15 fun e16 w16 =>
                        ∃ s8 : Slc, e16 = .returned s8.v ∧
                        (Calls Try.prog 15 #[s6.v, Value.int .i64 x3, s8.v, Value.int .i64 0] w16 fun e17 w17 =>
                          ∃ b10 : Bool, e17 = .returned (Value.bool b10) ∧
                          (br (!b10)
                            (R (.returned (Value.bool false)) w17)
                            (Calls Try.prog 29 #[s3.v] w17 fun e18 w18 =>
                              ∃ b11 : Bool, e18 = .returned (Value.bool b11) ∧
                              (br (!b11)
                                (Calls Try.prog 30 #[s3.v] w18 fun e19 w19 =>
                                  ∃ x4 : Int, e19 = .returned (Value.int .i64 x4) ∧
                                  (br (decide ((IntKind.i64.wrap (x4 + a1)) > 67108864))
                                    (Calls Try.prog 15 #[s4.v, Value.int .i64 x1, (⟨none, 0, 0⟩ : Slc).v, Value.int .i64 3] w19 fun e20 w20 =>
                                      ∃ b12 : Bool, e20 = .returned (Value.bool b12) ∧
                                      (br b12
                                        (Calls Try.prog 11 #[] w20 fun e21 w21 =>
                                          ∃ b13 : Bool, e21 = .returned (Value.bool b13) ∧
                                          (R (.returned (Value.bool b13)) w21))
                                        (R (.returned (Value.bool false)) w20)))
                                    (Calls Try.prog 31 #[s3.v, Value.int .i64 a1] w19 fun e22 w22 =>
                                      ∃ s9 : Slc, e22 = .returned s9.v ∧
                                      (Calls Try.prog 15 #[s4.v, Value.int .i64 x1, s9.v, Value.int .i64 0] w22 fun e23 w23 =>
                                        ∃ b14 : Bool, e23 = .returned (Value.bool b14) ∧
                                        (br b14
                                          (newC w23 #[s4.v, s5.v, s6.v] 23 fun ad1 w24 =>
                                            Calls Try.prog 17 #[(⟨some ad1, 3, 3⟩ : Slc).v] w24 fun e24 w25 =>
                                            ∃ b15 : Bool, e24 = .returned (Value.bool b15) ∧
                                            (br b15
                                              (Calls Try.prog 21 #[s1.v, a0.v] w25 fun e25 w26 =>
                                                ∃ b16 : Bool, e25 = .returned (Value.bool b16) ∧
                                                (br b16
                                                  (Calls Try.prog 11 #[] w26 fun e26 w27 =>
                                                    ∃ b17 : Bool, e26 = .returned (Value.bool b17) ∧
                                                    (R (.returned (Value.bool b17)) w27))
                                                  (R (.returned (Value.bool false)) w26)))
                                              (R (.returned (Value.bool false)) w25)))
                                          (R (.returned (Value.bool false)) w23))))))
                                (Calls Try.prog 31 #[s3.v, Value.int .i64 a1] w18 fun e27 w28 =>
                                  ∃ s10 : Slc, e27 = .returned s10.v ∧
                                  (Calls Try.prog 15 #[s4.v, Value.int .i64 x1, s10.v, Value.int .i64 0] w28 fun e28 w29 =>
                                    ∃ b18 : Bool, e28 = .returned (Value.bool b18) ∧
                                    (br b18
                                      (newC w29 #[s4.v, s5.v, s6.v] 23 fun ad2 w30 =>
                                        Calls Try.prog 17 #[(⟨some ad2, 3, 3⟩ : Slc).v] w30 fun e29 w31 =>
                                        ∃ b19 : Bool, e29 = .returned (Value.bool b19) ∧
                                        (br b19
                                          (Calls Try.prog 21 #[s1.v, a0.v] w31 fun e30 w32 =>
                                            ∃ b20 : Bool, e30 = .returned (Value.bool b20) ∧
                                            (br b20
                                              (Calls Try.prog 11 #[] w32 fun e31 w33 =>
                                                ∃ b21 : Bool, e31 = .returned (Value.bool b21) ∧
                                                (R (.returned (Value.bool b21)) w33))
                                              (R (.returned (Value.bool false)) w32)))
                                          (R (.returned (Value.bool false)) w31)))
                                      (R (.returned (Value.bool false)) w29))))))))))))))))))) :
    Calls Try.prog 6 #[a0.v, Value.int .i64 a1] w R := by
  refine calls_of_vc (fun _ => none) (by kernel_rfl) Try.func6 rfl ?_ ?_
  · refine kcast h ?_; kernel_rfl
  · exact (obl_seq rfl (obl_reg (obl_seq rfl (obl_reg (obl_seq rfl (obl_reg (obl_seq rfl (obl_reg (obl_seq rfl (obl_reg (obl_seq rfl (obl_reg (obl_seq rfl (obl_seq rfl (obl_reg (obl_cond (obl_seq rfl (obl_reg (obl_ret (obl_skip (obl_seq rfl (obl_seq rfl (obl_reg (obl_cond (obl_seq rfl (obl_reg (obl_ret (obl_skip (obl_seq rfl (obl_seq rfl (obl_reg (obl_cond (obl_seq rfl (obl_reg (obl_ret (obl_skip (obl_seq rfl (obl_reg (obl_ret trivial)))))))))))))))))))))))))))))))))))))))

set_option maxRecDepth 100000 in
/-- surd/surdlaw01.NatBack: function 7. -/
theorem surdlaw01_NatBack_vc (a0 : Slc) (a1 : Slc) (a2 : Int) (w : World) (R : Ending → World → Prop)
    
    (h : br (decide (a2 < 0))
    (Calls Try.prog 23 #[a0.v] w fun e1 w1 =>
      ∃ x1 : Int, e1 = .returned (Value.int .i64 x1) ∧
      (br (decide (x1 > 33554432))
        (Calls Try.prog 11 #[] w1 fun e2 w2 =>
          ∃ b1 : Bool, e2 = .returned (Value.bool b1) ∧
          (R (.returned (Value.bool b1)) w2))
        (Calls Try.prog 23 #[a1.v] w1 fun e3 w3 =>
          ∃ x2 : Int, e3 = .returned (Value.int .i64 x2) ∧
          (br (decide (x2 > 33554432))
            (Calls Try.prog 11 #[] w3 fun e4 w4 =>
              ∃ b2 : Bool, e4 = .returned (Value.bool b2) ∧
              (R (.returned (Value.bool b2)) w4))
            (Calls Try.prog 14 #[a0.v, a1.v] w3 fun e5 w5 =>
              ∃ s1 : Slc, ∃ x3 : Int, e5 = .returned (Value.tuple #[s1.v, Value.int .i64 x3]) ∧
              (Calls Try.prog 14 #[a1.v, a0.v] w5 fun e6 w6 =>
                ∃ s2 : Slc, ∃ x4 : Int, e6 = .returned (Value.tuple #[s2.v, Value.int .i64 x4]) ∧
                (Calls Try.prog 18 #[s1.v, a1.v] w6 fun e7 w7 =>
                  ∃ s3 : Slc, ∃ x5 : Int, e7 = .returned (Value.tuple #[s3.v, Value.int .i64 x5]) ∧
                  (br (x3 != 0)
                    (R (.returned (Value.bool false)) w7)
                    (br (x4 != 0)
                      (R (.returned (Value.bool false)) w7)
                      (br (x5 != 0)
                        (R (.returned (Value.bool false)) w7)
                        (Calls Try.prog 22 #[s1.v, s2.v] w7 fun e8 w8 =>
                          ∃ x6 : Int, e8 = .returned (Value.int .i64 x6) ∧
                          (br (x6 != 0)
                            (R (.returned (Value.bool false)) w8)
                            (Calls Try.prog 22 #[s3.v, a0.v] w8 fun e9 w9 =>
                              ∃ x7 : Int, e9 = .returned (Value.int .i64 x7) ∧
                              (br (x7 != 0)
                                (R (.returned (Value.bool false)) w9)
                                (Calls Try.prog 24 #[a0.v, Value.int .i64 17] w9 fun e10 w10 =>
                                  ∃ s4 : Slc, ∃ x8 : Int, e10 = .returned (Value.tuple #[s4.v, Value.int .i64 x8]) ∧
                                  (Calls Try.prog 25 #[s4.v, Value.int .i64 17] w10 fun e11 w11 =>
                                    ∃ s5 : Slc, ∃ x9 : Int, e11 = .returned (Value.tuple #[s5.v, Value.int .i64 x9]) ∧
                                    (br (x8 != 0)
                                      (R (.returned (Value.bool false)) w11)
                                      (br (x9 != 0)
                                        (R (.returned (Value.bool false)) w11)
                                        (Calls Try.prog 22 #[s5.v, a0.v] w11 fun e12 w12 =>
                                          ∃ x10 : Int, e12 = .returned (Value.int .i64 x10) ∧
                                          (br (x10 != 0)
                                            (R (.returned (Value.bool false)) w12)
                                            (Calls Try.prog 25 #[a0.v, Value.int .i64 17] w12 fun e13 w13 =>
                                              ∃ s6 : Slc, ∃ x11 : Int, e13 = .returned (Value.tuple #[s6.v, Value.int .i64 x11]) ∧
                                              (Calls Try.prog 26 #[a0.v, Value.int .i64 17] w13 fun e14 w14 =>
                                                ∃ s7 : Slc, ∃ x12 : Int, e14 = .returned (Value.tuple #[s7.v, Value.int .i64 x12]) ∧
                                                (Calls Try.prog 24 #[s6.v, Value.int .i64 17] w14 fun e15 w15 =>
                                                  ∃ s8 : Slc, ∃ x13 : Int, e15 = .returned (Value.tuple #[s8.v, Value.int .i64 x13]) ∧
                                                  (Calls Try.prog 14 #[s8.v, s7.v] w15 fun e16 w16 =>
                                                    ∃ s9 : Slc, ∃ x14 : Int, e16 = .returned (Value.tuple #[s9.v, Value.int .i64 x14]) ∧
                                                    (br (x11 == 0)
                                                      (br (x12 == 0)
                                                        (br (x13 == 0)
                                                          (br (x14 == 0)
                                                            (Calls Try.prog 22 #[s9.v, a0.v] w16 fun e17 w17 =>
                                                              ∃ x15 : Int, e17 = .returned (Value.int .i64 x15) ∧
                                                              (br (x15 == 0)
                                                                (Calls Try.prog 23 #[s7.v] w17 fun e18 w18 =>
                                                                  ∃ x16 : Int, e18 = .returned (Value.int .i64 x16) ∧
                                                                  (br (decide (x16 ≤ 17))
                                                                    (Calls Try.prog 11 #[] w18 fun e19 w19 =>
                                                                      ∃ b3 : Bool, e19 = .returned (Value.bool b3) ∧
                                                                      (R (.returned (Value.bool b3)) w19))
                                                                    (R (.returned (Value.bool false)) w18)))
                                                                (R (.returned (Value.bool false)) w17)))
                                                            (R (.returned (Value.bool false)) w16))
                                                          (R (.returned (Value.bool false)) w16))
                                                        (R (.returned (Value.bool false)) w16))
                                                      (R (.returned (Value.bool false)) w16))))))))))))))))))))))))))
    (br (decide (a2 > 1048576))
      (Calls Try.prog 23 #[a0.v] w fun e20 w20 =>
        ∃ x17 : Int, e20 = .returned (Value.int .i64 x17) ∧
        (br (decide (x17 > 33554432))
          (Calls Try.prog 11 #[] w20 fun e21 w21 =>
            ∃ b4 : Bool, e21 = .returned (Value.bool b4) ∧
            (R (.returned (Value.bool b4)) w21))
          (Calls Try.prog 23 #[a1.v] w20 fun e22 w22 =>
            ∃ x18 : Int, e22 = .returned (Value.int .i64 x18) ∧
            (br (decide (x18 > 33554432))
              (Calls Try.prog 11 #[] w22 fun e23 w23 =>
                ∃ b5 : Bool, e23 = .returned (Value.bool b5) ∧
                (R (.returned (Value.bool b5)) w23))
              (Calls Try.prog 14 #[a0.v, a1.v] w22 fun e24 w24 =>
                ∃ s10 : Slc, ∃ x19 : Int, e24 = .returned (Value.tuple #[s10.v, Value.int .i64 x19]) ∧
                (Calls Try.prog 14 #[a1.v, a0.v] w24 fun e25 w25 =>
                  ∃ s11 : Slc, ∃ x20 : Int, e25 = .returned (Value.tuple #[s11.v, Value.int .i64 x20]) ∧
                  (Calls Try.prog 18 #[s10.v, a1.v] w25 fun e26 w26 =>
                    ∃ s12 : Slc, ∃ x21 : Int, e26 = .returned (Value.tuple #[s12.v, Value.int .i64 x21]) ∧
                    (br (x19 != 0)
                      (R (.returned (Value.bool false)) w26)
                      (br (x20 != 0)
                        (R (.returned (Value.bool false)) w26)
                        (br (x21 != 0)
                          (R (.returned (Value.bool false)) w26)
                          (Calls Try.prog 22 #[s10.v, s11.v] w26 fun e27 w27 =>
                            ∃ x22 : Int, e27 = .returned (Value.int .i64 x22) ∧
                            (br (x22 != 0)
                              (R (.returned (Value.bool false)) w27)
                              (Calls Try.prog 22 #[s12.v, a0.v] w27 fun e28 w28 =>
                                ∃ x23 : Int, e28 = .returned (Value.int .i64 x23) ∧
                                (br (x23 != 0)
                                  (R (.returned (Value.bool false)) w28)
                                  (Calls Try.prog 24 #[a0.v, Value.int .i64 17] w28 fun e29 w29 =>
                                    ∃ s13 : Slc, ∃ x24 : Int, e29 = .returned (Value.tuple #[s13.v, Value.int .i64 x24]) ∧
                                    (Calls Try.prog 25 #[s13.v, Value.int .i64 17] w29 fun e30 w30 =>
                                      ∃ s14 : Slc, ∃ x25 : Int, e30 = .returned (Value.tuple #[s14.v, Value.int .i64 x25]) ∧
                                      (br (x24 != 0)
                                        (R (.returned (Value.bool false)) w30)
                                        (br (x25 != 0)
                                          (R (.returned (Value.bool false)) w30)
                                          (Calls Try.prog 22 #[s14.v, a0.v] w30 fun e31 w31 =>
                                            ∃ x26 : Int, e31 = .returned (Value.int .i64 x26) ∧
                                            (br (x26 != 0)
                                              (R (.returned (Value.bool false)) w31)
                                              (Calls Try.prog 25 #[a0.v, Value.int .i64 17] w31 fun e32 w32 =>
                                                ∃ s15 : Slc, ∃ x27 : Int, e32 = .returned (Value.tuple #[s15.v, Value.int .i64 x27]) ∧
                                                (Calls Try.prog 26 #[a0.v, Value.int .i64 17] w32 fun e33 w33 =>
                                                  ∃ s16 : Slc, ∃ x28 : Int, e33 = .returned (Value.tuple #[s16.v, Value.int .i64 x28]) ∧
                                                  (Calls Try.prog 24 #[s15.v, Value.int .i64 17] w33 fun e34 w34 =>
                                                    ∃ s17 : Slc, ∃ x29 : Int, e34 = .returned (Value.tuple #[s17.v, Value.int .i64 x29]) ∧
                                                    (Calls Try.prog 14 #[s17.v, s16.v] w34 fun e35 w35 =>
                                                      ∃ s18 : Slc, ∃ x30 : Int, e35 = .returned (Value.tuple #[s18.v, Value.int .i64 x30]) ∧
                                                      (br (x27 == 0)
                                                        (br (x28 == 0)
                                                          (br (x29 == 0)
                                                            (br (x30 == 0)
                                                              (Calls Try.prog 22 #[s18.v, a0.v] w35 fun e36 w36 =>
                                                                ∃ x31 : Int, e36 = .returned (Value.int .i64 x31) ∧
                                                                (br (x31 == 0)
                                                                  (Calls Try.prog 23 #[s16.v] w36 fun e37 w37 =>
                                                                    ∃ x32 : Int, e37 = .returned (Value.int .i64 x32) ∧
                                                                    (br (decide (x32 ≤ 17))
                                                                      (Calls Try.prog 11 #[] w37 fun e38 w38 =>
                                                                        ∃ b6 : Bool, e38 = .returned (Value.bool b6) ∧
                                                                        (R (.returned (Value.bool b6)) w38))
                                                                      (R (.returned (Value.bool false)) w37)))
                                                                  (R (.returned (Value.bool false)) w36)))
                                                              (R (.returned (Value.bool false)) w35))
                                                            (R (.returned (Value.bool false)) w35))
                                                          (R (.returned (Value.bool false)) w35))
                                                        (R (.returned (Value.bool false)) w35))))))))))))))))))))))))))
      (Calls Try.prog 23 #[a0.v] w fun e39 w39 =>
        ∃ x33 : Int, e39 = .returned (Value.int .i64 x33) ∧
        (br (decide (x33 > 33554432))
          (Calls Try.prog 11 #[] w39 fun e40 w40 =>
            ∃ b7 : Bool, e40 = .returned (Value.bool b7) ∧
            (R (.returned (Value.bool b7)) w40))
          (Calls Try.prog 23 #[a1.v] w39 fun e41 w41 =>
            ∃ x34 : Int, e41 = .returned (Value.int .i64 x34) ∧
            (br (decide (x34 > 33554432))
              (Calls Try.prog 11 #[] w41 fun e42 w42 =>
                ∃ b8 : Bool, e42 = .returned (Value.bool b8) ∧
                (R (.returned (Value.bool b8)) w42))
              (Calls Try.prog 14 #[a0.v, a1.v] w41 fun e43 w43 =>
                ∃ s19 : Slc, ∃ x35 : Int, e43 = .returned (Value.tuple #[s19.v, Value.int .i64 x35]) ∧
                (Calls Try.prog 14 #[a1.v, a0.v] w43 fun e44 w44 =>
                  ∃ s20 : Slc, ∃ x36 : Int, e44 = .returned (Value.tuple #[s20.v, Value.int .i64 x36]) ∧
                  (Calls Try.prog 18 #[s19.v, a1.v] w44 fun e45 w45 =>
                    ∃ s21 : Slc, ∃ x37 : Int, e45 = .returned (Value.tuple #[s21.v, Value.int .i64 x37]) ∧
                    (br (x35 != 0)
                      (R (.returned (Value.bool false)) w45)
                      (br (x36 != 0)
                        (R (.returned (Value.bool false)) w45)
                        (br (x37 != 0)
                          (R (.returned (Value.bool false)) w45)
                          (Calls Try.prog 22 #[s19.v, s20.v] w45 fun e46 w46 =>
                            ∃ x38 : Int, e46 = .returned (Value.int .i64 x38) ∧
                            (br (x38 != 0)
                              (R (.returned (Value.bool false)) w46)
                              (Calls Try.prog 22 #[s21.v, a0.v] w46 fun e47 w47 =>
                                ∃ x39 : Int, e47 = .returned (Value.int .i64 x39) ∧
                                (br (x39 != 0)
                                  (R (.returned (Value.bool false)) w47)
                                  (Calls Try.prog 24 #[a0.v, Value.int .i64 a2] w47 fun e48 w48 =>
                                    ∃ s22 : Slc, ∃ x40 : Int, e48 = .returned (Value.tuple #[s22.v, Value.int .i64 x40]) ∧
                                    (Calls Try.prog 25 #[s22.v, Value.int .i64 a2] w48 fun e49 w49 =>
                                      ∃ s23 : Slc, ∃ x41 : Int, e49 = .returned (Value.tuple #[s23.v, Value.int .i64 x41]) ∧
                                      (br (x40 != 0)
                                        (R (.returned (Value.bool false)) w49)
                                        (br (x41 != 0)
                                          (R (.returned (Value.bool false)) w49)
                                          (Calls Try.prog 22 #[s23.v, a0.v] w49 fun e50 w50 =>
                                            ∃ x42 : Int, e50 = .returned (Value.int .i64 x42) ∧
                                            (br (x42 != 0)
                                              (R (.returned (Value.bool false)) w50)
                                              (Calls Try.prog 25 #[a0.v, Value.int .i64 a2] w50 fun e51 w51 =>
                                                ∃ s24 : Slc, ∃ x43 : Int, e51 = .returned (Value.tuple #[s24.v, Value.int .i64 x43]) ∧
                                                (Calls Try.prog 26 #[a0.v, Value.int .i64 a2] w51 fun e52 w52 =>
                                                  ∃ s25 : Slc, ∃ x44 : Int, e52 = .returned (Value.tuple #[s25.v, Value.int .i64 x44]) ∧
                                                  (Calls Try.prog 24 #[s24.v, Value.int .i64 a2] w52 fun e53 w53 =>
                                                    ∃ s26 : Slc, ∃ x45 : Int, e53 = .returned (Value.tuple #[s26.v, Value.int .i64 x45]) ∧
                                                    (Calls Try.prog 14 #[s26.v, s25.v] w53 fun e54 w54 =>
                                                      ∃ s27 : Slc, ∃ x46 : Int, e54 = .returned (Value.tuple #[s27.v, Value.int .i64 x46]) ∧
                                                      (br (x43 == 0)
                                                        (br (x44 == 0)
                                                          (br (x45 == 0)
                                                            (br (x46 == 0)
                                                              (Calls Try.prog 22 #[s27.v, a0.v] w54 fun e55 w55 =>
                                                                ∃ x47 : Int, e55 = .returned (Value.int .i64 x47) ∧
                                                                (br (x47 == 0)
                                                                  (Calls Try.prog 23 #[s25.v] w55 fun e56 w56 =>
                                                                    ∃ x48 : Int, e56 = .returned (Value.int .i64 x48) ∧
                                                                    (br (decide (x48 ≤ a2))
                                                                      (Calls Try.prog 11 #[] w56 fun e57 w57 =>
                                                                        ∃ b9 : Bool, e57 = .returned (Value.bool b9) ∧
                                                                        (R (.returned (Value.bool b9)) w57))
                                                                      (R (.returned (Value.bool false)) w56)))
                                                                  (R (.returned (Value.bool false)) w55)))
                                                              (R (.returned (Value.bool false)) w54))
                                                            (R (.returned (Value.bool false)) w54))
                                                          (R (.returned (Value.bool false)) w54))
                                                        (R (.returned (Value.bool false)) w54)))))))))))))))))))))))))))) :
    Calls Try.prog 7 #[a0.v, a1.v, Value.int .i64 a2] w R := by
  refine calls_of_vc (fun _ => none) (by kernel_rfl) Try.func7 rfl ?_ ?_
  · refine kcast h ?_; kernel_rfl
  · exact (obl_seq rfl (obl_reg (obl_seq rfl (obl_seq rfl (obl_reg (obl_cond (obl_reg (obl_skip (obl_seq rfl (obl_seq rfl (obl_reg (obl_cond (obl_seq rfl (obl_reg (obl_ret (obl_skip (obl_seq rfl (obl_reg (obl_seq rfl (obl_reg (obl_seq rfl (obl_reg (obl_seq rfl (obl_seq rfl (obl_reg (obl_cond (obl_seq rfl (obl_reg (obl_ret (obl_skip (obl_seq rfl (obl_reg (obl_seq rfl (obl_reg (obl_seq rfl (obl_seq rfl (obl_reg (obl_cond (obl_seq rfl (obl_reg (obl_ret (obl_skip (obl_seq rfl (obl_reg (obl_seq rfl (obl_reg (obl_seq rfl (obl_reg (obl_seq rfl (obl_reg (obl_seq rfl (obl_reg (obl_ret trivial)))))))))))))))))))))))))))))))))))))))))))))))))))))

def surdlaw01_NatBits_cut (J0 : Slc → Slc → Slc → Slc → Slc → Slc → Slc → Int → Slc → Slc → Slc → Int → World → Prop) (m0 : Slc → Slc → Slc → Slc → Slc → Slc → Slc → Int → Slc → Slc → Slc → Int → World → Nat) : Nat → Option ((Act → World → Prop) × (Act → World → Nat))
  | 0 => some (fun a_ w_ => atSz a_ 130 (atS a_ 0 fun t0 => atS a_ 1 fun t1 => atS a_ 5 fun t5 => atS a_ 6 fun t6 => atS a_ 7 fun t7 => atS a_ 8 fun t8 => atS a_ 9 fun t9 => atI .i64 a_ 10 fun t10 => atS a_ 11 fun t11 => atS a_ 12 fun t12 => atS a_ 13 fun t13 => atI .i64 a_ 14 fun t14 => J0 t0 t1 t5 t6 t7 t8 t9 t10 t11 t12 t13 t14 w_), fun a_ w_ => mS a_ 0 fun t0 => mS a_ 1 fun t1 => mS a_ 5 fun t5 => mS a_ 6 fun t6 => mS a_ 7 fun t7 => mS a_ 8 fun t8 => mS a_ 9 fun t9 => mI a_ 10 fun t10 => mS a_ 11 fun t11 => mS a_ 12 fun t12 => mS a_ 13 fun t13 => mI a_ 14 fun t14 => m0 t0 t1 t5 t6 t7 t8 t9 t10 t11 t12 t13 t14 w_)
  | _ => none

set_option maxRecDepth 100000 in
/-- surd/surdlaw01.NatBits: function 8. -/
theorem surdlaw01_NatBits_vc (a0 : Slc) (a1 : Slc) (w : World) (R : Ending → World → Prop)
    (J0 : Slc → Slc → Slc → Slc → Slc → Slc → Slc → Int → Slc → Slc → Slc → Int → World → Prop) (m0 : Slc → Slc → Slc → Slc → Slc → Slc → Slc → Int → Slc → Slc → Slc → Int → World → Nat)
    (h : Calls Try.prog 32 #[a0.v, a1.v] w fun e1 w1 =>
    ∃ s1 : Slc, e1 = .returned s1.v ∧
    (Calls Try.prog 33 #[a0.v, a1.v] w1 fun e2 w2 =>
      ∃ s2 : Slc, e2 = .returned s2.v ∧
      (Calls Try.prog 34 #[a0.v, a1.v] w2 fun e3 w3 =>
        ∃ s3 : Slc, e3 = .returned s3.v ∧
        (Calls Try.prog 13 #[a0.v] w3 fun e4 w4 =>
          ∃ s4 : Slc, e4 = .returned s4.v ∧
          (Calls Try.prog 13 #[a1.v] w4 fun e5 w5 =>
            ∃ s5 : Slc, e5 = .returned s5.v ∧
            (Calls Try.prog 30 #[s4.v] w5 fun e6 w6 =>
              ∃ x1 : Int, e6 = .returned (Value.int .i64 x1) ∧
              (Calls Try.prog 30 #[s5.v] w6 fun e7 w7 =>
                ∃ x2 : Int, e7 = .returned (Value.int .i64 x2) ∧
                (br (decide (x2 > x1))
                  (Calls Try.prog 30 #[s5.v] w7 fun e8 w8 =>
                    ∃ x3 : Int, e8 = .returned (Value.int .i64 x3) ∧
                    (Calls Try.prog 23 #[s1.v] w8 fun e9 w9 =>
                      ∃ x4 : Int, e9 = .returned (Value.int .i64 x4) ∧
                      (br (decide (x4 > x3))
                        (R (.returned (Value.bool false)) w9)
                        (Calls Try.prog 23 #[s2.v] w9 fun e10 w10 =>
                          ∃ x5 : Int, e10 = .returned (Value.int .i64 x5) ∧
                          (br (x5 != x3)
                            (R (.returned (Value.bool false)) w10)
                            (Calls Try.prog 23 #[s3.v] w10 fun e11 w11 =>
                              ∃ x6 : Int, e11 = .returned (Value.int .i64 x6) ∧
                              (br (decide (x6 > x3))
                                (R (.returned (Value.bool false)) w11)
                                (Calls Try.prog 13 #[s1.v] w11 fun e12 w12 =>
                                  ∃ s6 : Slc, e12 = .returned s6.v ∧
                                  (Calls Try.prog 13 #[s2.v] w12 fun e13 w13 =>
                                    ∃ s7 : Slc, e13 = .returned s7.v ∧
                                    (Calls Try.prog 13 #[s3.v] w13 fun e14 w14 =>
                                      ∃ s8 : Slc, e14 = .returned s8.v ∧
                                      (J0 a0 a1 s1 s2 s3 s4 s5 x3 s6 s7 s8 0 w14)))))))))))
                  (Calls Try.prog 23 #[s1.v] w7 fun e29 w30 =>
                    ∃ x16 : Int, e29 = .returned (Value.int .i64 x16) ∧
                    (br (decide (x16 > x1))
                      (R (.returned (Value.bool false)) w30)
                      (Calls Try.prog 23 #[s2.v] w30 fun e30 w31 =>
                        ∃ x17 : Int, e30 = .returned (Value.int .i64 x17) ∧
                        (br (x17 != x1)
                          (R (.returned (Value.bool false)) w31)
                          (Calls Try.prog 23 #[s3.v] w31 fun e31 w32 =>
                            ∃ x18 : Int, e31 = .returned (Value.int .i64 x18) ∧
                            (br (decide (x18 > x1))
                              (R (.returned (Value.bool false)) w32)
                              (Calls Try.prog 13 #[s1.v] w32 fun e32 w33 =>
                                ∃ s9 : Slc, e32 = .returned s9.v ∧
                                (Calls Try.prog 13 #[s2.v] w33 fun e33 w34 =>
                                  ∃ s10 : Slc, e33 = .returned s10.v ∧
                                  (Calls Try.prog 13 #[s3.v] w34 fun e34 w35 =>
                                    ∃ s11 : Slc, e34 = .returned s11.v ∧
                                    (J0 a0 a1 s1 s2 s3 s4 s5 x1 s9 s10 s11 0 w35))))))))))))))))))
    (h0 : ∀ (t0 : Slc) (t1 : Slc) (t5 : Slc) (t6 : Slc) (t7 : Slc) (t8 : Slc) (t9 : Slc) (t10 : Int) (t11 : Slc) (t12 : Slc) (t13 : Slc) (t14 : Int) (w_ : World), J0 t0 t1 t5 t6 t7 t8 t9 t10 t11 t12 t13 t14 w_ → 
    br (decide (t14 < t10))
    (Calls Try.prog 35 #[t8.v, Value.int .i64 t14] w_ fun e15 w15 =>
      ∃ x7 : Int, e15 = .returned (Value.int .i64 x7) ∧
      (Calls Try.prog 35 #[t9.v, Value.int .i64 t14] w15 fun e16 w16 =>
        ∃ x8 : Int, e16 = .returned (Value.int .i64 x8) ∧
        (Calls Try.prog 35 #[t11.v, Value.int .i64 t14] w16 fun e17 w17 =>
          ∃ x9 : Int, e17 = .returned (Value.int .i64 x9) ∧
          (br (x9 != (IntKind.i64.wrap (Int.tdiv (IntKind.i64.wrap (x7 + x8)) 2)))
            (R (.returned (Value.bool false)) w17)
            (Calls Try.prog 35 #[t12.v, Value.int .i64 t14] w17 fun e18 w18 =>
              ∃ x10 : Int, e18 = .returned (Value.int .i64 x10) ∧
              (br (x10 != (IntKind.i64.wrap (Int.tdiv (IntKind.i64.wrap ((IntKind.i64.wrap (x7 + x8)) + 1)) 2)))
                (R (.returned (Value.bool false)) w18)
                (Calls Try.prog 35 #[t13.v, Value.int .i64 t14] w18 fun e19 w19 =>
                  ∃ x11 : Int, e19 = .returned (Value.int .i64 x11) ∧
                  (br (x11 != (Int.tmod (IntKind.i64.wrap (x7 + x8)) 2))
                    (R (.returned (Value.bool false)) w19)
                    (J0 t0 t1 t5 t6 t7 t8 t9 t10 t11 t12 t13 (IntKind.i64.wrap (t14 + 1)) w19 ∧
                      m0 t0 t1 t5 t6 t7 t8 t9 t10 t11 t12 t13 (IntKind.i64.wrap (t14 + 1)) w19 < m0 t0 t1 t5 t6 t7 t8 t9 t10 t11 t12 t13 t14 w_)))))))))
    (Calls Try.prog 36 #[t11.v, t5.v] w_ fun e20 w20 =>
      ∃ b1 : Bool, e20 = .returned (Value.bool b1) ∧
      (br b1
        (Calls Try.prog 36 #[t12.v, t6.v] w20 fun e21 w21 =>
          ∃ b2 : Bool, e21 = .returned (Value.bool b2) ∧
          (br b2
            (Calls Try.prog 36 #[t13.v, t7.v] w21 fun e22 w22 =>
              ∃ b3 : Bool, e22 = .returned (Value.bool b3) ∧
              (br b3
                (Calls Try.prog 37 #[t0.v] w22 fun e23 w23 =>
                  ∃ x12 : Int, e23 = .returned (Value.int .i64 x12) ∧
                  (Calls Try.prog 37 #[t1.v] w23 fun e24 w24 =>
                    ∃ x13 : Int, e24 = .returned (Value.int .i64 x13) ∧
                    (Calls Try.prog 37 #[t5.v] w24 fun e25 w25 =>
                      ∃ x14 : Int, e25 = .returned (Value.int .i64 x14) ∧
                      (Calls Try.prog 37 #[t6.v] w25 fun e26 w26 =>
                        ∃ x15 : Int, e26 = .returned (Value.int .i64 x15) ∧
                        (br ((IntKind.i64.wrap (x12 + x13)) == (IntKind.i64.wrap (x14 + x15)))
                          (newC w26 #[t5.v, t6.v, t7.v] 23 fun ad1 w27 =>
                            Calls Try.prog 17 #[(⟨some ad1, 3, 3⟩ : Slc).v] w27 fun e27 w28 =>
                            ∃ b4 : Bool, e27 = .returned (Value.bool b4) ∧
                            (br b4
                              (Calls Try.prog 11 #[] w28 fun e28 w29 =>
                                ∃ b5 : Bool, e28 = .returned (Value.bool b5) ∧
                                (R (.returned (Value.bool b5)) w29))
                              (R (.returned (Value.bool false)) w28)))
                          (R (.returned (Value.bool false)) w26))))))
                (R (.returned (Value.bool false)) w22)))
            (R (.returned (Value.bool false)) w21)))
        (R (.returned (Value.bool false)) w20)))) :
    Calls Try.prog 8 #[a0.v, a1.v] w R := by
  refine calls_of_vc (surdlaw01_NatBits_cut J0 m0) (by kernel_rfl) Try.func8 rfl ?_ ?_
  · refine kcast h ?_; kernel_rfl
  · exact (obl_seq rfl (obl_reg (obl_seq rfl (obl_reg (obl_seq rfl (obl_reg (obl_seq rfl (obl_reg (obl_seq rfl (obl_seq rfl (obl_reg (obl_cond (obl_reg (obl_skip (obl_seq rfl (obl_seq rfl (obl_reg (obl_cond (obl_seq rfl (obl_reg (obl_ret (obl_skip (obl_seq rfl (obl_reg (obl_seq rfl (obl_seq rfl (obl_reg (obl_loop _ rfl (fun a_ w_ hL_ => (by
    obtain ⟨hz_, hd_, hL_⟩ := atSz_out hL_
    obtain ⟨t0, h0_, hL_⟩ := atS_out hL_
    obtain ⟨t1, h1_, hL_⟩ := atS_out hL_
    obtain ⟨t5, h5_, hL_⟩ := atS_out hL_
    obtain ⟨t6, h6_, hL_⟩ := atS_out hL_
    obtain ⟨t7, h7_, hL_⟩ := atS_out hL_
    obtain ⟨t8, h8_, hL_⟩ := atS_out hL_
    obtain ⟨t9, h9_, hL_⟩ := atS_out hL_
    obtain ⟨t10, h10_, hL_⟩ := atI_out hL_
    obtain ⟨t11, h11_, hL_⟩ := atS_out hL_
    obtain ⟨t12, h12_, hL_⟩ := atS_out hL_
    obtain ⟨t13, h13_, hL_⟩ := atS_out hL_
    obtain ⟨t14, h14_, hL_⟩ := atI_out hL_
    obtain ⟨g0, rfl⟩ : ∃ g, a_ = Fr 130 [(0, t0.v), (1, t1.v), (5, t5.v), (6, t6.v), (7, t7.v), (8, t8.v), (9, t9.v), (10, Value.int .i64 t10), (11, t11.v), (12, t12.v), (13, t13.v), (14, Value.int .i64 t14)] g := ⟨_, fr_of hz_ hd_ [(0, t0.v), (1, t1.v), (5, t5.v), (6, t6.v), (7, t7.v), (8, t8.v), (9, t9.v), (10, Value.int .i64 t10), (11, t11.v), (12, t12.v), (13, t13.v), (14, Value.int .i64 t14)] (sel_cons h0_ (sel_cons h1_ (sel_cons h5_ (sel_cons h6_ (sel_cons h7_ (sel_cons h8_ (sel_cons h9_ (sel_cons h10_ (sel_cons h11_ (sel_cons h12_ (sel_cons h13_ (sel_cons h14_ sel_nil))))))))))))⟩
    clear hz_ hd_ h0_ h1_ h5_ h6_ h7_ h8_ h9_ h10_ h11_ h12_ h13_ h14_
    have hJ0_ := hL_
    refine ⟨(fun _ => none), kcast (h0 t0 t1 t5 t6 t7 t8 t9 t10 t11 t12 t13 t14 w_ hJ0_) ?_, ?_⟩
    · kernel_rfl
    · exact (obl_seq rfl (obl_seq rfl (obl_reg (obl_cond (obl_skip (obl_exit (obl_seq rfl (obl_blk rfl (obl_seq rfl (obl_reg (obl_seq rfl (obl_reg (obl_cond (obl_seq rfl (obl_reg (obl_ret (obl_skip (obl_reg trivial)))))))))))))))))))) (obl_seq rfl (obl_reg (obl_ret trivial)))))))))))))))))))))))))))))))

set_option maxRecDepth 100000 in
/-- surd/surdlaw01.NatLimbs: function 9. -/
theorem surdlaw01_NatLimbs_vc (a0 : Slc) (a1 : Int) (w : World) (R : Ending → World → Prop)
    
    (h : Calls Try.prog 12 #[a0.v] w fun e1 w1 =>
    ∃ s1 : Slc, ∃ s2 : Slc, e1 = .returned (Value.tuple #[s1.v, s2.v]) ∧
    (Calls Try.prog 13 #[a0.v] w1 fun e2 w2 =>
      ∃ s3 : Slc, e2 = .returned s3.v ∧
      (newC w2 #[Value.int .u64 a1] 49 fun ad1 w3 =>
        Calls Try.prog 13 #[(⟨some ad1, 1, 1⟩ : Slc).v] w3 fun e3 w4 =>
        ∃ s4 : Slc, e3 = .returned s4.v ∧
        (Calls Try.prog 38 #[s2.v, Value.int .u64 a1] w4 fun e4 w5 =>
          ∃ s5 : Slc, ∃ x1 : Int, e4 = .returned (Value.tuple #[s5.v, Value.int .i64 x1]) ∧
          (Calls Try.prog 39 #[s2.v, Value.int .u64 a1] w5 fun e5 w6 =>
            ∃ s6 : Slc, ∃ x2 : Int, ∃ x3 : Int, e5 = .returned (Value.tuple #[s6.v, Value.int .u64 x2, Value.int .i64 x3]) ∧
            (Calls Try.prog 40 #[s3.v, s4.v] w6 fun e6 w7 =>
              ∃ s7 : Slc, e6 = .returned s7.v ∧
              (Calls Try.prog 15 #[s5.v, Value.int .i64 x1, s7.v, Value.int .i64 0] w7 fun e7 w8 =>
                ∃ b1 : Bool, e7 = .returned (Value.bool b1) ∧
                (br (!b1)
                  (R (.returned (Value.bool false)) w8)
                  (br (a1 == 0)
                    (Calls Try.prog 15 #[s6.v, Value.int .i64 x3, (⟨none, 0, 0⟩ : Slc).v, Value.int .i64 1] w8 fun e8 w9 =>
                      ∃ b2 : Bool, e8 = .returned (Value.bool b2) ∧
                      (br b2
                        (br (x2 == 0)
                          (Calls Try.prog 11 #[] w9 fun e9 w10 =>
                            ∃ b3 : Bool, e9 = .returned (Value.bool b3) ∧
                            (R (.returned (Value.bool b3)) w10))
                          (R (.returned (Value.bool false)) w9))
                        (R (.returned (Value.bool false)) w9)))
                    (Calls Try.prog 41 #[s3.v, s4.v] w8 fun e10 w11 =>
                      ∃ s8 : Slc, ∃ s9 : Slc, e10 = .returned (Value.tuple #[s8.v, s9.v]) ∧
                      (Calls Try.prog 15 #[s6.v, Value.int .i64 x3, s8.v, Value.int .i64 0] w11 fun e11 w12 =>
                        ∃ b4 : Bool, e11 = .returned (Value.bool b4) ∧
                        (br (!b4)
                          (R (.returned (Value.bool false)) w12)
                          (br (x3 == 0)
                            (Calls Try.prog 42 #[Value.int .u64 x2] w12 fun e12 w13 =>
                              ∃ s10 : Slc, e12 = .returned s10.v ∧
                              (Calls Try.prog 36 #[s9.v, s10.v] w13 fun e13 w14 =>
                                ∃ b5 : Bool, e13 = .returned (Value.bool b5) ∧
                                (br (!b5)
                                  (R (.returned (Value.bool false)) w14)
                                  (newC w14 #[s5.v, s6.v] 23 fun ad2 w15 =>
                                    Calls Try.prog 17 #[(⟨some ad2, 2, 2⟩ : Slc).v] w15 fun e14 w16 =>
                                    ∃ b6 : Bool, e14 = .returned (Value.bool b6) ∧
                                    (br b6
                                      (Calls Try.prog 21 #[s1.v, a0.v] w16 fun e15 w17 =>
                                        ∃ b7 : Bool, e15 = .returned (Value.bool b7) ∧
                                        (br b7
                                          (Calls Try.prog 11 #[] w17 fun e16 w18 =>
                                            ∃ b8 : Bool, e16 = .returned (Value.bool b8) ∧
                                            (R (.returned (Value.bool b8)) w18))
                                          (R (.returned (Value.bool false)) w17)))
                                      (R (.returned (Value.bool false)) w16))))))
                            (newC w12 #[s5.v, s6.v] 23 fun ad3 w19 =>
                              Calls Try.prog 17 #[(⟨some ad3, 2, 2⟩ : Slc).v] w19 fun e17 w20 =>
                              ∃ b9 : Bool, e17 = .returned (Value.bool b9) ∧
                              (br b9
                                (Calls Try.prog 21 #[s1.v, a0.v] w20 fun e18 w21 =>
                                  ∃ b10 : Bool, e18 = .returned (Value.bool b10) ∧
                                  (br b10
                                    (Calls Try.prog 11 #[] w21 fun e19 w22 =>
                                      ∃ b11 : Bool, e19 = .returned (Value.bool b11) ∧
                                      (R (.returned (Value.bool b11)) w22))
                                    (R (.returned (Value.bool false)) w21)))
                                (R (.returned (Value.bool false)) w20)))))))))))))))) :
    Calls Try.prog 9 #[a0.v, Value.int .u64 a1] w R := by
  refine calls_of_vc (fun _ => none) (by kernel_rfl) Try.func9 rfl ?_ ?_
  · refine kcast h ?_; kernel_rfl
  · exact (obl_seq rfl (obl_reg (obl_seq rfl (obl_reg (obl_seq rfl (obl_reg (obl_seq rfl (obl_reg (obl_seq rfl (obl_reg (obl_seq rfl (obl_seq rfl (obl_reg (obl_cond (obl_seq rfl (obl_reg (obl_ret (obl_skip (obl_seq rfl (obl_seq rfl (obl_reg (obl_cond (obl_seq rfl (obl_reg (obl_ret (obl_skip (obl_seq rfl (obl_reg (obl_seq rfl (obl_seq rfl (obl_reg (obl_cond (obl_seq rfl (obl_reg (obl_ret (obl_skip (obl_seq rfl (obl_reg (obl_ret trivial)))))))))))))))))))))))))))))))))))))))

set_option maxRecDepth 100000 in
/-- surd/surdlaw01.NatThrough: function 10. -/
theorem surdlaw01_NatThrough_vc (a0_a : Slc) (a1_d : Int) (w : World) (R : Ending → World → Prop)
    
    (h : br (a1_d == 0)
    (Calls Try.prog 11 #[] w fun e1 w1 =>
      ∃ b1 : Bool, e1 = .returned (Value.bool b1) ∧
      (R (.returned (Value.bool b1)) w1))
    (Calls Try.prog 23 #[a0_a.v] w fun e2 w2 =>
      ∃ x1 : Int, e2 = .returned (Value.int .i64 x1) ∧
      (br (decide (x1 > 33554432))
        (Calls Try.prog 11 #[] w2 fun e3 w3 =>
          ∃ b2 : Bool, e3 = .returned (Value.bool b2) ∧
          (R (.returned (Value.bool b2)) w3))
        (Calls Try.prog 39 #[a0_a.v, Value.int .u64 a1_d] w2 fun e4 w4 =>
          ∃ s1 : Slc, ∃ x2 : Int, ∃ x3 : Int, e4 = .returned (Value.tuple #[s1.v, Value.int .u64 x2, Value.int .i64 x3]) ∧
          (Calls Try.prog 38 #[s1.v, Value.int .u64 a1_d] w4 fun e5 w5 =>
            ∃ s2 : Slc, ∃ x4 : Int, e5 = .returned (Value.tuple #[s2.v, Value.int .i64 x4]) ∧
            (Calls Try.prog 42 #[Value.int .u64 x2] w5 fun e6 w6 =>
              ∃ s3 : Slc, e6 = .returned s3.v ∧
              (Calls Try.prog 14 #[s2.v, s3.v] w6 fun e7 w7 =>
                ∃ s4 : Slc, ∃ x5 : Int, e7 = .returned (Value.tuple #[s4.v, Value.int .i64 x5]) ∧
                (br (x3 == 0)
                  (br (x4 == 0)
                    (br (x5 == 0)
                      (br (decide (x2 < a1_d))
                        (Calls Try.prog 22 #[s4.v, a0_a.v] w7 fun e8 w8 =>
                          ∃ x6 : Int, e8 = .returned (Value.int .i64 x6) ∧
                          (br (x6 == 0)
                            (Calls Try.prog 11 #[] w8 fun e9 w9 =>
                              ∃ b3 : Bool, e9 = .returned (Value.bool b3) ∧
                              (R (.returned (Value.bool b3)) w9))
                            (R (.returned (Value.bool false)) w8)))
                        (R (.returned (Value.bool false)) w7))
                      (R (.returned (Value.bool false)) w7))
                    (R (.returned (Value.bool false)) w7))
                  (R (.returned (Value.bool false)) w7))))))))) :
    Calls Try.prog 10 #[a0_a.v, Value.int .u64 a1_d] w R := by
  refine calls_of_vc (fun _ => none) (by kernel_rfl) Try.func10 rfl ?_ ?_
  · refine kcast h ?_; kernel_rfl
  · exact (obl_seq rfl (obl_reg (obl_seq rfl (obl_seq rfl (obl_reg (obl_cond (obl_seq rfl (obl_reg (obl_ret (obl_skip (obl_seq rfl (obl_reg (obl_seq rfl (obl_reg (obl_seq rfl (obl_reg (obl_seq rfl (obl_reg (obl_ret trivial)))))))))))))))))))

set_option maxRecDepth 100000 in
/-- surd/surdlaw01.lives: function 11. -/
theorem surdlaw01_lives_vc  (w : World) (R : Ending → World → Prop)
    
    (h : newC w #[Value.int .u64 18446744073709551615] 49 fun ad1 w1 =>
    newC w1 #[Value.int .u64 1] 49 fun ad2 w2 =>
    Calls Try.prog 14 #[(⟨some ad1, 1, 1⟩ : Slc).v, (⟨some ad2, 1, 1⟩ : Slc).v] w2 fun e1 w3 =>
    ∃ s1 : Slc, ∃ x1 : Int, e1 = .returned (Value.tuple #[s1.v, Value.int .i64 x1]) ∧
    (newC w3 #[Value.int .u64 5] 49 fun ad3 w4 =>
      newC w4 #[Value.int .u64 7] 49 fun ad4 w5 =>
      Calls Try.prog 18 #[(⟨some ad3, 1, 1⟩ : Slc).v, (⟨some ad4, 1, 1⟩ : Slc).v] w5 fun e2 w6 =>
      ∃ s2 : Slc, ∃ x2 : Int, e2 = .returned (Value.tuple #[s2.v, Value.int .i64 x2]) ∧
      (br (x1 == 0)
        (br ((s1.n : Int) == 2)
          (semA Try.prog (Instr.indexAt 24 s1.v (Value.int .i64 0)) w6 fun ad5 w7 =>
            ldI .u64 ad5 w7 fun x3 =>
            br (x3 == 0)
            (semA Try.prog (Instr.indexAt 24 s1.v (Value.int .i64 1)) w7 fun ad6 w8 =>
              ldI .u64 ad6 w8 fun x4 =>
              br (x4 == 1)
              (br (x2 == 10)
                (newC w8 #[Value.int .u64 255] 49 fun ad7 w9 =>
                  Calls Try.prog 23 #[(⟨some ad7, 1, 1⟩ : Slc).v] w9 fun e3 w10 =>
                  ∃ x5 : Int, e3 = .returned (Value.int .i64 x5) ∧
                  (R (.returned (Value.bool (x5 == 8))) w10))
                (R (.returned (Value.bool false)) w8))
              (R (.returned (Value.bool false)) w8))
            (R (.returned (Value.bool false)) w7))
          (R (.returned (Value.bool false)) w6))
        (R (.returned (Value.bool false)) w6)))) :
    Calls Try.prog 11 #[] w R := by
  refine calls_of_vc (fun _ => none) (by kernel_rfl) Try.func11 rfl ?_ ?_
  · refine kcast h ?_; kernel_rfl
  · exact (obl_seq rfl (obl_reg (obl_seq rfl (obl_reg (obl_seq rfl (obl_reg (obl_seq rfl (obl_reg (obl_ret trivial)))))))))

set_option maxRecDepth 100000 in
/-- surd/surdlaw01.same: function 15. -/
theorem surdlaw01_same_vc (a0_a : Slc) (a1_e : Int) (a2_want : Slc) (a3_code : Int) (w : World) (R : Ending → World → Prop)
    
    (h : br (a3_code == 0)
    (Calls Try.prog 30 #[a2_want.v] w fun e1 w1 =>
      ∃ x1 : Int, e1 = .returned (Value.int .i64 x1) ∧
      (br (decide (x1 > 67108864))
        (br (a1_e != 3)
          (R (.returned (Value.bool false)) w1)
          (br (3 != 0)
            (R (.returned (Value.bool ((a0_a.n : Int) == 0))) w1)
            (Calls Try.prog 36 #[a2_want.v, a0_a.v] w1 fun e2 w2 =>
              ∃ b1 : Bool, e2 = .returned (Value.bool b1) ∧
              (R (.returned (Value.bool b1)) w2))))
        (br (a1_e != a3_code)
          (R (.returned (Value.bool false)) w1)
          (br (a3_code != 0)
            (R (.returned (Value.bool ((a0_a.n : Int) == 0))) w1)
            (Calls Try.prog 36 #[a2_want.v, a0_a.v] w1 fun e3 w3 =>
              ∃ b2 : Bool, e3 = .returned (Value.bool b2) ∧
              (R (.returned (Value.bool b2)) w3))))))
    (br (a1_e != a3_code)
      (R (.returned (Value.bool false)) w)
      (br (a3_code != 0)
        (R (.returned (Value.bool ((a0_a.n : Int) == 0))) w)
        (Calls Try.prog 36 #[a2_want.v, a0_a.v] w fun e4 w4 =>
          ∃ b3 : Bool, e4 = .returned (Value.bool b3) ∧
          (R (.returned (Value.bool b3)) w4))))) :
    Calls Try.prog 15 #[a0_a.v, Value.int .i64 a1_e, a2_want.v, Value.int .i64 a3_code] w R := by
  refine calls_of_vc (fun _ => none) (by kernel_rfl) Try.func15 rfl ?_ ?_
  · refine kcast h ?_; kernel_rfl
  · exact (obl_seq rfl (obl_reg (obl_seq rfl (obl_seq rfl (obl_reg (obl_cond (obl_reg (obl_skip (obl_seq rfl (obl_seq rfl (obl_reg (obl_cond (obl_seq rfl (obl_reg (obl_ret (obl_skip (obl_seq rfl (obl_seq rfl (obl_reg (obl_cond (obl_seq rfl (obl_reg (obl_ret (obl_skip (obl_seq rfl (obl_reg (obl_ret trivial)))))))))))))))))))))))))))

end Go.Proofs.Ytaflfjbhlgbmdaa
