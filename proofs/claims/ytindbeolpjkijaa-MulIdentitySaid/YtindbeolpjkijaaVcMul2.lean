/- Verification conditions of some of the program's functions, printed by a program of this session. No condition. -/
import Derived.Test.YtindbeolpjkijaaProg
import Derived.Test.YtindbeolpjkijaaEng
namespace Go.Proofs.Ytindbeolpjkijaa
open Go Go.RowKit Eng
set_option linter.unusedVariables false

set_option maxRecDepth 100000 in
/-- surd/surdlaw02.MulRing: function 5. -/
theorem surdlaw02_MulRing_vc (a0 : Slc) (a1 : Slc) (a2 : Slc) (w : World) (R : Ending → World → Prop)
    
    (h : Calls Try.prog 21 #[a0.v, a1.v] w fun e1 w1 =>
    ∃ s1 : Slc, ∃ x1 : Int, e1 = .returned (Value.tuple #[s1.v, Value.int .i64 x1]) ∧
    (Calls Try.prog 21 #[a1.v, a0.v] w1 fun e2 w2 =>
      ∃ s2 : Slc, ∃ x2 : Int, e2 = .returned (Value.tuple #[s2.v, Value.int .i64 x2]) ∧
      (Calls Try.prog 21 #[a0.v, a2.v] w2 fun e3 w3 =>
        ∃ s3 : Slc, ∃ x3 : Int, e3 = .returned (Value.tuple #[s3.v, Value.int .i64 x3]) ∧
        (Calls Try.prog 21 #[a1.v, a2.v] w3 fun e4 w4 =>
          ∃ s4 : Slc, ∃ x4 : Int, e4 = .returned (Value.tuple #[s4.v, Value.int .i64 x4]) ∧
          (newC w4 #[Value.int .i64 x1, Value.int .i64 x2, Value.int .i64 x3, Value.int .i64 x4] 23 fun ad1 w5 =>
            Calls Try.prog 22 #[(⟨some ad1, 4, 4⟩ : Slc).v] w5 fun e5 w6 =>
            ∃ b1 : Bool, e5 = .returned (Value.bool b1) ∧
            (br (!b1)
              (Calls Try.prog 14 #[] w6 fun e6 w7 =>
                ∃ b2 : Bool, e6 = .returned (Value.bool b2) ∧
                (R (.returned (Value.bool b2)) w7))
              (Calls Try.prog 21 #[s1.v, a2.v] w6 fun e7 w8 =>
                ∃ s5 : Slc, ∃ x5 : Int, e7 = .returned (Value.tuple #[s5.v, Value.int .i64 x5]) ∧
                (Calls Try.prog 21 #[a0.v, s4.v] w8 fun e8 w9 =>
                  ∃ s6 : Slc, ∃ x6 : Int, e8 = .returned (Value.tuple #[s6.v, Value.int .i64 x6]) ∧
                  (Calls Try.prog 23 #[a1.v, a2.v] w9 fun e9 w10 =>
                    ∃ s7 : Slc, e9 = .returned s7.v ∧
                    (Calls Try.prog 21 #[a0.v, s7.v] w10 fun e10 w11 =>
                      ∃ s8 : Slc, ∃ x7 : Int, e10 = .returned (Value.tuple #[s8.v, Value.int .i64 x7]) ∧
                      (newC w11 #[Value.int .i64 x5, Value.int .i64 x6, Value.int .i64 x7] 23 fun ad2 w12 =>
                        Calls Try.prog 22 #[(⟨some ad2, 3, 3⟩ : Slc).v] w12 fun e11 w13 =>
                        ∃ b3 : Bool, e11 = .returned (Value.bool b3) ∧
                        (br (!b3)
                          (Calls Try.prog 24 #[s1.v, s2.v] w13 fun e12 w14 =>
                            ∃ b4 : Bool, e12 = .returned (Value.bool b4) ∧
                            (br b4
                              (Calls Try.prog 14 #[] w14 fun e13 w15 =>
                                ∃ b5 : Bool, e13 = .returned (Value.bool b5) ∧
                                (R (.returned (Value.bool b5)) w15))
                              (R (.returned (Value.bool false)) w14)))
                          (Calls Try.prog 23 #[a0.v, a1.v] w13 fun e14 w16 =>
                            ∃ s9 : Slc, e14 = .returned s9.v ∧
                            (Calls Try.prog 18 #[s9.v] w16 fun e15 w17 =>
                              ∃ s10 : Slc, ∃ x8 : Int, e15 = .returned (Value.tuple #[s10.v, Value.int .i64 x8]) ∧
                              (Calls Try.prog 18 #[a0.v] w17 fun e16 w18 =>
                                ∃ s11 : Slc, ∃ x9 : Int, e16 = .returned (Value.tuple #[s11.v, Value.int .i64 x9]) ∧
                                (Calls Try.prog 18 #[a1.v] w18 fun e17 w19 =>
                                  ∃ s12 : Slc, ∃ x10 : Int, e17 = .returned (Value.tuple #[s12.v, Value.int .i64 x10]) ∧
                                  (newC w19 #[Value.int .i64 x8, Value.int .i64 x9, Value.int .i64 x10] 23 fun ad3 w20 =>
                                    Calls Try.prog 22 #[(⟨some ad3, 3, 3⟩ : Slc).v] w20 fun e18 w21 =>
                                    ∃ b6 : Bool, e18 = .returned (Value.bool b6) ∧
                                    (br (!b6)
                                      (Calls Try.prog 24 #[s1.v, s2.v] w21 fun e19 w22 =>
                                        ∃ b7 : Bool, e19 = .returned (Value.bool b7) ∧
                                        (br b7
                                          (Calls Try.prog 24 #[s5.v, s6.v] w22 fun e20 w23 =>
                                            ∃ b8 : Bool, e20 = .returned (Value.bool b8) ∧
                                            (br b8
                                              (Calls Try.prog 23 #[s1.v, s3.v] w23 fun e21 w24 =>
                                                ∃ s13 : Slc, e21 = .returned s13.v ∧
                                                (Calls Try.prog 24 #[s8.v, s13.v] w24 fun e22 w25 =>
                                                  ∃ b9 : Bool, e22 = .returned (Value.bool b9) ∧
                                                  (br b9
                                                    (Calls Try.prog 14 #[] w25 fun e23 w26 =>
                                                      ∃ b10 : Bool, e23 = .returned (Value.bool b10) ∧
                                                      (R (.returned (Value.bool b10)) w26))
                                                    (R (.returned (Value.bool false)) w25))))
                                              (R (.returned (Value.bool false)) w23)))
                                          (R (.returned (Value.bool false)) w22)))
                                      (Calls Try.prog 24 #[s1.v, s2.v] w21 fun e24 w27 =>
                                        ∃ b11 : Bool, e24 = .returned (Value.bool b11) ∧
                                        (br b11
                                          (Calls Try.prog 24 #[s5.v, s6.v] w27 fun e25 w28 =>
                                            ∃ b12 : Bool, e25 = .returned (Value.bool b12) ∧
                                            (br b12
                                              (Calls Try.prog 23 #[s1.v, s3.v] w28 fun e26 w29 =>
                                                ∃ s14 : Slc, e26 = .returned s14.v ∧
                                                (Calls Try.prog 24 #[s8.v, s14.v] w29 fun e27 w30 =>
                                                  ∃ b13 : Bool, e27 = .returned (Value.bool b13) ∧
                                                  (br b13
                                                    (Calls Try.prog 23 #[s11.v, s12.v] w30 fun e28 w31 =>
                                                      ∃ s15 : Slc, e28 = .returned s15.v ∧
                                                      (Calls Try.prog 23 #[s1.v, s1.v] w31 fun e29 w32 =>
                                                        ∃ s16 : Slc, e29 = .returned s16.v ∧
                                                        (Calls Try.prog 23 #[s15.v, s16.v] w32 fun e30 w33 =>
                                                          ∃ s17 : Slc, e30 = .returned s17.v ∧
                                                          (Calls Try.prog 24 #[s10.v, s17.v] w33 fun e31 w34 =>
                                                            ∃ b14 : Bool, e31 = .returned (Value.bool b14) ∧
                                                            (br b14
                                                              (Calls Try.prog 14 #[] w34 fun e32 w35 =>
                                                                ∃ b15 : Bool, e32 = .returned (Value.bool b15) ∧
                                                                (R (.returned (Value.bool b15)) w35))
                                                              (R (.returned (Value.bool false)) w34))))))
                                                    (R (.returned (Value.bool false)) w30))))
                                              (R (.returned (Value.bool false)) w28)))
                                          (R (.returned (Value.bool false)) w27))))))))))))))))))))) :
    Calls Try.prog 5 #[a0.v, a1.v, a2.v] w R := by
  refine calls_of_vc (fun _ => none) (by kernel_rfl) Try.func5 rfl ?_ ?_
  · refine kcast h ?_; kernel_rfl
  · exact (obl_seq (obl_reg (obl_seq (obl_reg (obl_seq (obl_reg (obl_seq (obl_reg (obl_seq (obl_reg (obl_seq (obl_seq (obl_reg (obl_cond (obl_seq (obl_reg (obl_ret (obl_skip (obl_seq (obl_reg (obl_seq (obl_reg (obl_seq (obl_reg (obl_seq (obl_seq (obl_reg (obl_cond (obl_seq (obl_reg (obl_ret (obl_skip (obl_seq (obl_reg (obl_seq (obl_reg (obl_seq (obl_reg (obl_seq (obl_seq (obl_reg (obl_cond (obl_seq (obl_reg (obl_ret (obl_skip (obl_seq (obl_reg (obl_ret trivial)))))))))))))))))))))))))))))))))))))))))))))))))

def surdlaw02_all_cut (J0 : Slc → Int → Int → World → Prop) (m0 : Slc → Int → Int → World → Nat) : Nat → Option ((Act → World → Prop) × (Act → World → Nat))
  | 0 => some (fun a_ w_ => atSz a_ 15 (atS a_ 5 fun t5 => atI .i64 a_ 6 fun t6 => atI .i64 a_ 7 fun t7 => J0 t5 t6 t7 w_), fun a_ w_ => mS a_ 5 fun t5 => mI a_ 6 fun t6 => mI a_ 7 fun t7 => m0 t5 t6 t7 w_)
  | _ => none

set_option maxRecDepth 100000 in
/-- surd/surdlaw02.all: function 22. -/
theorem surdlaw02_all_vc (a0_l : Slc) (w : World) (R : Ending → World → Prop)
    (J0 : Slc → Int → Int → World → Prop) (m0 : Slc → Int → Int → World → Nat)
    (h : J0 a0_l (a0_l.n : Int) 0 w)
    (h0 : ∀ (t5 : Slc) (t6 : Int) (t7 : Int) (w_ : World), J0 t5 t6 t7 w_ → 
    br (decide (t7 < t6))
    (semA Try.prog (Instr.indexAt 75 t5.v (Value.int .i64 t7)) w_ fun ad1 w1 =>
      ldI .i64 ad1 w1 fun x1 =>
      Calls Try.prog 13 #[Value.int .i64 x1] w1 fun e1 w2 =>
      ∃ x2 : Int, e1 = .returned (Value.int .i64 x2) ∧
      (br (x2 != 0)
        (R (.returned (Value.bool false)) w2)
        (J0 t5 t6 (IntKind.i64.wrap (t7 + 1)) w2 ∧
          m0 t5 t6 (IntKind.i64.wrap (t7 + 1)) w2 < m0 t5 t6 t7 w_)))
    (R (.returned (Value.bool true)) w_)) :
    Calls Try.prog 22 #[a0_l.v] w R := by
  refine calls_of_vc (surdlaw02_all_cut J0 m0) (by kernel_rfl) Try.func22 rfl ?_ ?_
  · refine kcast h ?_; kernel_rfl
  · exact (obl_seq (obl_reg (obl_seq (obl_seq (obl_reg (obl_loop _ rfl (fun a_ w_ hL_ => (by
    obtain ⟨hz_, hd_, hL_⟩ := atSz_out hL_
    obtain ⟨t5, h5_, hL_⟩ := atS_out hL_
    obtain ⟨t6, h6_, hL_⟩ := atI_out hL_
    obtain ⟨t7, h7_, hL_⟩ := atI_out hL_
    obtain ⟨g0, rfl⟩ : ∃ g, a_ = Fr 15 [(5, t5.v), (6, Value.int .i64 t6), (7, Value.int .i64 t7)] g := ⟨_, fr_of hz_ hd_ [(5, t5.v), (6, Value.int .i64 t6), (7, Value.int .i64 t7)] (sel_cons h5_ (sel_cons h6_ (sel_cons h7_ sel_nil)))⟩
    clear hz_ hd_ h5_ h6_ h7_
    have hJ0_ := hL_
    refine ⟨(fun _ => none), kcast (h0 t5 t6 t7 w_ hJ0_) ?_, ?_⟩
    · kernel_rfl
    · exact (obl_seq (obl_reg (obl_seq (obl_cond (obl_skip (obl_exit (obl_seq (obl_blk rfl (obl_seq (obl_reg (obl_seq (obl_reg (obl_cond (obl_seq (obl_reg (obl_ret (obl_skip (obl_reg trivial)))))))))))))))))))) (obl_seq (obl_reg (obl_ret trivial)))))))))

set_option maxRecDepth 100000 in
/-- surd/surdlaw02.same: function 24. -/
theorem surdlaw02_same_vc (a0_a : Slc) (a1_b : Slc) (w : World) (R : Ending → World → Prop)
    
    (h : Calls Try.prog 16 #[a0_a.v] w fun e1 w1 =>
    ∃ s1 : Slc, e1 = .returned s1.v ∧
    (Calls Try.prog 16 #[a1_b.v] w1 fun e2 w2 =>
      ∃ s2 : Slc, e2 = .returned s2.v ∧
      (Calls Try.prog 52 #[s1.v, s2.v] w2 fun e3 w3 =>
        ∃ x1 : Int, e3 = .returned (Value.int .i64 x1) ∧
        (R (.returned (Value.bool (x1 == 0))) w3)))) :
    Calls Try.prog 24 #[a0_a.v, a1_b.v] w R := by
  refine calls_of_vc (fun _ => none) (by kernel_rfl) Try.func24 rfl ?_ ?_
  · refine kcast h ?_; kernel_rfl
  · exact (obl_seq (obl_reg (obl_seq (obl_reg (obl_ret trivial)))))

set_option maxRecDepth 100000 in
/-- surd/surdlaw02.sum: function 23. -/
theorem surdlaw02_sum_vc (a0_a : Slc) (a1_b : Slc) (w : World) (R : Ending → World → Prop)
    
    (h : Calls Try.prog 16 #[a0_a.v] w fun e1 w1 =>
    ∃ s1 : Slc, e1 = .returned s1.v ∧
    (Calls Try.prog 16 #[a1_b.v] w1 fun e2 w2 =>
      ∃ s2 : Slc, e2 = .returned s2.v ∧
      (Calls Try.prog 38 #[s1.v, s2.v] w2 fun e3 w3 =>
        ∃ s3 : Slc, e3 = .returned s3.v ∧
        (Calls Try.prog 40 #[s3.v] w3 fun e4 w4 =>
          ∃ s4 : Slc, e4 = .returned s4.v ∧
          (R (.returned s4.v) w4))))) :
    Calls Try.prog 23 #[a0_a.v, a1_b.v] w R := by
  refine calls_of_vc (fun _ => none) (by kernel_rfl) Try.func23 rfl ?_ ?_
  · refine kcast h ?_; kernel_rfl
  · exact (obl_seq (obl_reg (obl_seq (obl_reg (obl_ret trivial)))))

set_option maxRecDepth 100000 in
/-- surd/surdlaw02.MulProducts: function 6. -/
theorem surdlaw02_MulProducts_vc (a0 : Slc) (a1 : Slc) (a2 : Int) (w : World) (R : Ending → World → Prop)
    
    (h : Calls Try.prog 15 #[a0.v] w fun e1 w1 =>
    ∃ s1 : Slc, ∃ s2 : Slc, e1 = .returned (Value.tuple #[s1.v, s2.v]) ∧
    (Calls Try.prog 15 #[a1.v] w1 fun e2 w2 =>
      ∃ s3 : Slc, ∃ s4 : Slc, e2 = .returned (Value.tuple #[s3.v, s4.v]) ∧
      (Calls Try.prog 16 #[a0.v] w2 fun e3 w3 =>
        ∃ s5 : Slc, e3 = .returned s5.v ∧
        (Calls Try.prog 16 #[a1.v] w3 fun e4 w4 =>
          ∃ s6 : Slc, e4 = .returned s6.v ∧
          (Calls Try.prog 17 #[s5.v, s6.v] w4 fun e5 w5 =>
            ∃ s7 : Slc, ∃ x1 : Int, e5 = .returned (Value.tuple #[s7.v, Value.int .i64 x1]) ∧
            (Calls Try.prog 21 #[s2.v, s4.v] w5 fun e6 w6 =>
              ∃ s8 : Slc, ∃ x2 : Int, e6 = .returned (Value.tuple #[s8.v, Value.int .i64 x2]) ∧
              (Calls Try.prog 25 #[s2.v, s4.v] w6 fun e7 w7 =>
                ∃ s9 : Slc, ∃ x3 : Int, e7 = .returned (Value.tuple #[s9.v, Value.int .i64 x3]) ∧
                (Calls Try.prog 26 #[s2.v, s4.v, Value.int .i64 a2] w7 fun e8 w8 =>
                  ∃ s10 : Slc, ∃ x4 : Int, e8 = .returned (Value.tuple #[s10.v, Value.int .i64 x4]) ∧
                  (Calls Try.prog 19 #[s8.v, Value.int .i64 x2, s7.v, Value.int .i64 x1] w8 fun e9 w9 =>
                    ∃ b1 : Bool, e9 = .returned (Value.bool b1) ∧
                    (br (!b1)
                      (R (.returned (Value.bool false)) w9)
                      (Calls Try.prog 19 #[s9.v, Value.int .i64 x3, s7.v, Value.int .i64 x1] w9 fun e10 w10 =>
                        ∃ b2 : Bool, e10 = .returned (Value.bool b2) ∧
                        (br (!b2)
                          (R (.returned (Value.bool false)) w10)
                          (Calls Try.prog 20 #[s1.v, a0.v] w10 fun e11 w11 =>
                            ∃ b3 : Bool, e11 = .returned (Value.bool b3) ∧
                            (br (!b3)
                              (R (.returned (Value.bool false)) w11)
                              (Calls Try.prog 20 #[s3.v, a1.v] w11 fun e12 w12 =>
                                ∃ b4 : Bool, e12 = .returned (Value.bool b4) ∧
                                (br (!b4)
                                  (R (.returned (Value.bool false)) w12)
                                  (Calls Try.prog 14 #[] w12 fun e13 w13 =>
                                    ∃ b5 : Bool, e13 = .returned (Value.bool b5) ∧
                                    (br (!b5)
                                      (R (.returned (Value.bool false)) w13)
                                      (br (decide (a2 < 2))
                                        (Calls Try.prog 13 #[Value.int .i64 x4] w13 fun e14 w14 =>
                                          ∃ x5 : Int, e14 = .returned (Value.int .i64 x5) ∧
                                          (br (x5 == 1)
                                            (R (.returned (Value.bool ((s10.n : Int) == 0))) w14)
                                            (R (.returned (Value.bool false)) w14)))
                                        (Calls Try.prog 19 #[s10.v, Value.int .i64 x4, s7.v, Value.int .i64 x1] w13 fun e15 w15 =>
                                          ∃ b6 : Bool, e15 = .returned (Value.bool b6) ∧
                                          (br b6
                                            (newC w15 #[s8.v, s9.v, s10.v] 25 fun ad1 w16 =>
                                              Calls Try.prog 27 #[(⟨some ad1, 3, 3⟩ : Slc).v] w16 fun e16 w17 =>
                                              ∃ b7 : Bool, e16 = .returned (Value.bool b7) ∧
                                              (R (.returned (Value.bool b7)) w17))
                                            (R (.returned (Value.bool false)) w15)))))))))))))))))))))) :
    Calls Try.prog 6 #[a0.v, a1.v, Value.int .i64 a2] w R := by
  refine calls_of_vc (fun _ => none) (by kernel_rfl) Try.func6 rfl ?_ ?_
  · refine kcast h ?_; kernel_rfl
  · exact (obl_seq (obl_reg (obl_seq (obl_reg (obl_seq (obl_reg (obl_seq (obl_reg (obl_seq (obl_reg (obl_seq (obl_reg (obl_seq (obl_reg (obl_seq (obl_seq (obl_reg (obl_cond (obl_seq (obl_reg (obl_ret (obl_skip (obl_seq (obl_seq (obl_reg (obl_cond (obl_seq (obl_reg (obl_ret (obl_skip (obl_seq (obl_reg (obl_ret trivial)))))))))))))))))))))))))))))))))

set_option maxRecDepth 100000 in
/-- surd/mul.School: function 25. -/
theorem mul_School_vc (a0_a : Slc) (a1_b : Slc) (w : World) (R : Ending → World → Prop)
    
    (h : Calls Try.prog 49 #[a0_a.v, a1_b.v, Value.func (Fn.func 53) #[] #[]] w fun e1 w1 =>
    ∃ s1 : Slc, ∃ x1 : Int, e1 = .returned (Value.tuple #[s1.v, Value.int .i64 x1]) ∧
    (R (.returned (Value.tuple #[s1.v, Value.int .i64 x1])) w1)) :
    Calls Try.prog 25 #[a0_a.v, a1_b.v] w R := by
  refine calls_of_vc (fun _ => none) (by kernel_rfl) Try.func25 rfl ?_ ?_
  · refine kcast h ?_; kernel_rfl
  · exact (obl_seq (obl_reg (obl_seq (obl_reg (obl_ret trivial)))))

set_option maxRecDepth 100000 in
/-- surd/mul.product: function 49. -/
theorem mul_product__mul_school_vc (a0_a : Slc) (a1_b : Slc) (w : World) (R : Ending → World → Prop)
    
    (h : Calls Try.prog 56 #[a0_a.v] w fun e1 w1 =>
    ∃ s1 : Slc, e1 = .returned s1.v ∧
    (Calls Try.prog 56 #[a1_b.v] w1 fun e2 w2 =>
      ∃ s2 : Slc, e2 = .returned s2.v ∧
      (Calls Try.prog 59 #[s1.v, s2.v] w2 fun e3 w3 =>
        ∃ b1 : Bool, e3 = .returned (Value.bool b1) ∧
        (br b1
          (R (.returned (Value.tuple #[(⟨none, 0, 0⟩ : Slc).v, Value.int .i64 3])) w3)
          (Calls Try.prog 53 #[s1.v, s2.v] w3 fun e4 w4 =>
            ∃ s3 : Slc, e4 = .returned s3.v ∧
            (Calls Try.prog 57 #[s3.v] w4 fun e5 w5 =>
              ∃ s4 : Slc, ∃ x1 : Int, e5 = .returned (Value.tuple #[s4.v, Value.int .i64 x1]) ∧
              (R (.returned (Value.tuple #[s4.v, Value.int .i64 x1])) w5))))))) :
    Calls Try.prog 49 #[a0_a.v, a1_b.v, Value.func (Fn.func 53) #[] #[]] w R := by
  refine calls_of_vc (fun _ => none) (by kernel_rfl) Try.func49 rfl ?_ ?_
  · refine kcast h ?_; kernel_rfl
  · exact (obl_seq (obl_reg (obl_seq (obl_reg (obl_seq (obl_seq (obl_reg (obl_cond (obl_seq (obl_reg (obl_ret (obl_skip (obl_seq (obl_reg (obl_ret trivial)))))))))))))))

set_option maxRecDepth 100000 in
/-- surd/mul.Karatsuba: function 26. -/
theorem mul_Karatsuba_vc (a0_a : Slc) (a1_b : Slc) (a2_cut : Int) (w : World) (R : Ending → World → Prop)
    
    (h : newC w #[Value.int .i64 a2_cut] 3 fun ad1 w1 =>
    ldI .i64 ad1 w1 fun x1 =>
    br (decide (x1 < 2))
    (R (.returned (Value.tuple #[(⟨none, 0, 0⟩ : Slc).v, Value.int .i64 1])) w1)
    (Calls Try.prog 49 #[a0_a.v, a1_b.v, Value.func (Fn.func 54) #[] #[Value.pointer (some ad1)]] w1 fun e1 w2 =>
      ∃ s1 : Slc, ∃ x2 : Int, e1 = .returned (Value.tuple #[s1.v, Value.int .i64 x2]) ∧
      (R (.returned (Value.tuple #[s1.v, Value.int .i64 x2])) w2))) :
    Calls Try.prog 26 #[a0_a.v, a1_b.v, Value.int .i64 a2_cut] w R := by
  refine calls_of_vc (fun _ => none) (by kernel_rfl) Try.func26 rfl ?_ ?_
  · refine kcast h ?_; kernel_rfl
  · exact (obl_seq (obl_reg (obl_seq (obl_seq (obl_reg (obl_cond (obl_seq (obl_reg (obl_ret (obl_skip (obl_seq (obl_reg (obl_ret trivial)))))))))))))

set_option maxRecDepth 100000 in
/-- surd/mul.product: function 49. -/
theorem mul_product__mul_Karatsuba_1_vc (a0_a : Slc) (a1_b : Slc) (c2_0 : Addr) (w : World) (R : Ending → World → Prop)
    
    (h : Calls Try.prog 56 #[a0_a.v] w fun e1 w1 =>
    ∃ s1 : Slc, e1 = .returned s1.v ∧
    (Calls Try.prog 56 #[a1_b.v] w1 fun e2 w2 =>
      ∃ s2 : Slc, e2 = .returned s2.v ∧
      (Calls Try.prog 59 #[s1.v, s2.v] w2 fun e3 w3 =>
        ∃ b1 : Bool, e3 = .returned (Value.bool b1) ∧
        (br b1
          (R (.returned (Value.tuple #[(⟨none, 0, 0⟩ : Slc).v, Value.int .i64 3])) w3)
          (Calls Try.prog 54 #[s1.v, s2.v, Value.pointer (some c2_0)] w3 fun e4 w4 =>
            ∃ s3 : Slc, e4 = .returned s3.v ∧
            (Calls Try.prog 57 #[s3.v] w4 fun e5 w5 =>
              ∃ s4 : Slc, ∃ x1 : Int, e5 = .returned (Value.tuple #[s4.v, Value.int .i64 x1]) ∧
              (R (.returned (Value.tuple #[s4.v, Value.int .i64 x1])) w5))))))) :
    Calls Try.prog 49 #[a0_a.v, a1_b.v, Value.func (Fn.func 54) #[] #[Value.pointer (some c2_0)]] w R := by
  refine calls_of_vc (fun _ => none) (by kernel_rfl) Try.func49 rfl ?_ ?_
  · refine kcast h ?_; kernel_rfl
  · exact (obl_seq (obl_reg (obl_seq (obl_reg (obl_seq (obl_seq (obl_reg (obl_cond (obl_seq (obl_reg (obl_ret (obl_skip (obl_seq (obl_reg (obl_ret trivial)))))))))))))))

set_option maxRecDepth 100000 in
/-- surd/mul.Karatsuba$1: function 54. -/
theorem mul_Karatsuba_1_vc (a0_a : Slc) (a1_b : Slc) (c2 : Addr) (w : World) (R : Ending → World → Prop)
    
    (h : ldI .i64 c2 w fun x1 =>
    Calls Try.prog 51 #[a0_a.v, a1_b.v, Value.int .i64 (maxI x1 4)] w fun e1 w1 =>
    ∃ s1 : Slc, e1 = .returned s1.v ∧
    (R (.returned s1.v) w1)) :
    Calls Try.prog 54 #[a0_a.v, a1_b.v, Value.pointer (some c2)] w R := by
  refine calls_of_vc (fun _ => none) (by kernel_rfl) Try.func54 rfl ?_ ?_
  · refine kcast h ?_; kernel_rfl
  · exact (obl_seq (obl_reg (obl_seq (obl_reg (obl_ret trivial)))))

set_option maxRecDepth 100000 in
/-- surd/surdlaw02.MulSplits: function 7. -/
theorem surdlaw02_MulSplits_vc (a0_a : Slc) (a1_k : Int) (w : World) (R : Ending → World → Prop)
    
    (h : Calls Try.prog 15 #[a0_a.v] w fun e1 w1 =>
    ∃ s1 : Slc, ∃ s2 : Slc, e1 = .returned (Value.tuple #[s1.v, s2.v]) ∧
    (Calls Try.prog 16 #[a0_a.v] w1 fun e2 w2 =>
      ∃ s3 : Slc, e2 = .returned s3.v ∧
      (Calls Try.prog 28 #[s3.v, Value.int .i64 a1_k] w2 fun e3 w3 =>
        ∃ s4 : Slc, ∃ s5 : Slc, ∃ x1 : Int, e3 = .returned (Value.tuple #[s4.v, s5.v, Value.int .i64 x1]) ∧
        (Calls Try.prog 29 #[s2.v, Value.int .i64 a1_k] w3 fun e4 w4 =>
          ∃ s6 : Slc, ∃ s7 : Slc, ∃ x2 : Int, e4 = .returned (Value.tuple #[s6.v, s7.v, Value.int .i64 x2]) ∧
          (Calls Try.prog 19 #[s6.v, Value.int .i64 x2, s4.v, Value.int .i64 x1] w4 fun e5 w5 =>
            ∃ b1 : Bool, e5 = .returned (Value.bool b1) ∧
            (br b1
              (Calls Try.prog 19 #[s7.v, Value.int .i64 x2, s5.v, Value.int .i64 x1] w5 fun e6 w6 =>
                ∃ b2 : Bool, e6 = .returned (Value.bool b2) ∧
                (br b2
                  (Calls Try.prog 20 #[s1.v, a0_a.v] w6 fun e7 w7 =>
                    ∃ b3 : Bool, e7 = .returned (Value.bool b3) ∧
                    (br b3
                      (newC w7 #[s6.v, s7.v] 25 fun ad1 w8 =>
                        Calls Try.prog 27 #[(⟨some ad1, 2, 2⟩ : Slc).v] w8 fun e8 w9 =>
                        ∃ b4 : Bool, e8 = .returned (Value.bool b4) ∧
                        (br b4
                          (Calls Try.prog 20 #[s1.v, a0_a.v] w9 fun e9 w10 =>
                            ∃ b5 : Bool, e9 = .returned (Value.bool b5) ∧
                            (br b5
                              (Calls Try.prog 14 #[] w10 fun e10 w11 =>
                                ∃ b6 : Bool, e10 = .returned (Value.bool b6) ∧
                                (R (.returned (Value.bool b6)) w11))
                              (R (.returned (Value.bool false)) w10)))
                          (R (.returned (Value.bool false)) w9)))
                      (R (.returned (Value.bool false)) w7)))
                  (R (.returned (Value.bool false)) w6)))
              (R (.returned (Value.bool false)) w5))))))) :
    Calls Try.prog 7 #[a0_a.v, Value.int .i64 a1_k] w R := by
  refine calls_of_vc (fun _ => none) (by kernel_rfl) Try.func7 rfl ?_ ?_
  · refine kcast h ?_; kernel_rfl
  · exact (obl_seq (obl_reg (obl_seq (obl_reg (obl_seq (obl_reg (obl_seq (obl_reg (obl_seq (obl_reg (obl_ret trivial)))))))))))

set_option maxRecDepth 100000 in
/-- surd/mul.Split: function 29. -/
theorem mul_Split_vc (a0_a : Slc) (a1_k : Int) (w : World) (R : Ending → World → Prop)
    
    (h : br (decide (a1_k < 0))
    (R (.returned (Value.tuple #[(⟨none, 0, 0⟩ : Slc).v, (⟨none, 0, 0⟩ : Slc).v, Value.int .i64 1])) w)
    (Calls Try.prog 56 #[a0_a.v] w fun e1 w1 =>
      ∃ s1 : Slc, e1 = .returned s1.v ∧
      (Calls Try.prog 58 #[s1.v, Value.int .i64 0, Value.int .i64 a1_k] w1 fun e2 w2 =>
        ∃ s2 : Slc, e2 = .returned s2.v ∧
        (Calls Try.prog 57 #[s2.v] w2 fun e3 w3 =>
          ∃ s3 : Slc, ∃ x1 : Int, e3 = .returned (Value.tuple #[s3.v, Value.int .i64 x1]) ∧
          (Calls Try.prog 58 #[s1.v, Value.int .i64 a1_k, Value.int .i64 (s1.n : Int)] w3 fun e4 w4 =>
            ∃ s4 : Slc, e4 = .returned s4.v ∧
            (Calls Try.prog 57 #[s4.v] w4 fun e5 w5 =>
              ∃ s5 : Slc, ∃ x2 : Int, e5 = .returned (Value.tuple #[s5.v, Value.int .i64 x2]) ∧
              (br (x1 != 0)
                (R (.returned (Value.tuple #[(⟨none, 0, 0⟩ : Slc).v, (⟨none, 0, 0⟩ : Slc).v, Value.int .i64 3])) w5)
                (br (x2 != 0)
                  (R (.returned (Value.tuple #[(⟨none, 0, 0⟩ : Slc).v, (⟨none, 0, 0⟩ : Slc).v, Value.int .i64 3])) w5)
                  (R (.returned (Value.tuple #[s3.v, s5.v, Value.int .i64 0])) w5))))))))) :
    Calls Try.prog 29 #[a0_a.v, Value.int .i64 a1_k] w R := by
  refine calls_of_vc (fun _ => none) (by kernel_rfl) Try.func29 rfl ?_ ?_
  · refine kcast h ?_; kernel_rfl
  · exact (obl_seq (obl_reg (obl_seq (obl_seq (obl_reg (obl_cond (obl_seq (obl_reg (obl_ret (obl_skip (obl_seq (obl_reg (obl_seq (obl_reg (obl_seq (obl_reg (obl_seq (obl_seq (obl_reg (obl_cond (obl_seq (obl_reg (obl_ret (obl_skip (obl_seq (obl_reg (obl_ret trivial)))))))))))))))))))))))))))

set_option maxRecDepth 100000 in
/-- surd/surdref02.Split: function 28. -/
theorem surdref02_Split_vc (a0_a : Slc) (a1_k : Int) (w : World) (R : Ending → World → Prop)
    
    (h : br (decide (a1_k < 0))
    (R (.returned (Value.tuple #[(⟨none, 0, 0⟩ : Slc).v, (⟨none, 0, 0⟩ : Slc).v, Value.int .i64 1])) w)
    (Calls Try.prog 55 #[a0_a.v, Value.int .i64 a1_k] w fun e1 w1 =>
      ∃ s1 : Slc, ∃ s2 : Slc, e1 = .returned (Value.tuple #[s1.v, s2.v]) ∧
      (Calls Try.prog 44 #[s1.v] w1 fun e2 w2 =>
        ∃ x1 : Int, e2 = .returned (Value.int .i64 x1) ∧
        (br (decide (x1 > 67108864))
          (R (.returned (Value.tuple #[(⟨none, 0, 0⟩ : Slc).v, (⟨none, 0, 0⟩ : Slc).v, Value.int .i64 3])) w2)
          (Calls Try.prog 44 #[s2.v] w2 fun e3 w3 =>
            ∃ x2 : Int, e3 = .returned (Value.int .i64 x2) ∧
            (br (decide (x2 > 67108864))
              (R (.returned (Value.tuple #[(⟨none, 0, 0⟩ : Slc).v, (⟨none, 0, 0⟩ : Slc).v, Value.int .i64 3])) w3)
              (R (.returned (Value.tuple #[s1.v, s2.v, Value.int .i64 0])) w3))))))) :
    Calls Try.prog 28 #[a0_a.v, Value.int .i64 a1_k] w R := by
  refine calls_of_vc (fun _ => none) (by kernel_rfl) Try.func28 rfl ?_ ?_
  · refine kcast h ?_; kernel_rfl
  · exact (obl_seq (obl_reg (obl_seq (obl_seq (obl_reg (obl_cond (obl_seq (obl_reg (obl_ret (obl_skip (obl_seq (obl_reg (obl_seq (obl_seq (obl_reg (obl_cond (obl_seq (obl_reg (obl_ret (obl_skip (obl_seq (obl_reg (obl_ret trivial)))))))))))))))))))))))

set_option maxRecDepth 100000 in
/-- surd/surdref02.Halves: function 55. -/
theorem surdref02_Halves_vc (a0_a : Slc) (a1_k : Int) (w : World) (R : Ending → World → Prop)
    
    (h : br (decide (a1_k ≥ (a0_a.n : Int)))
    (R (.returned (Value.tuple #[a0_a.v, (⟨none, 0, 0⟩ : Slc).v])) w)
    (Calls Try.prog 65 #[a0_a.v, Value.int .i64 (IntKind.i64.wrap (64 * a1_k))] w fun e1 w1 =>
      ∃ s1 : Slc, e1 = .returned s1.v ∧
      (Calls Try.prog 66 #[a0_a.v, Value.int .i64 (IntKind.i64.wrap (64 * a1_k))] w1 fun e2 w2 =>
        ∃ s2 : Slc, e2 = .returned s2.v ∧
        (R (.returned (Value.tuple #[s1.v, s2.v])) w2)))) :
    Calls Try.prog 55 #[a0_a.v, Value.int .i64 a1_k] w R := by
  refine calls_of_vc (fun _ => none) (by kernel_rfl) Try.func55 rfl ?_ ?_
  · refine kcast h ?_; kernel_rfl
  · exact (obl_seq (obl_reg (obl_seq (obl_seq (obl_reg (obl_cond (obl_seq (obl_reg (obl_ret (obl_skip (obl_seq (obl_reg (obl_ret trivial)))))))))))))

def surdlaw02_MulOwn_cut (J0 : Slc → Slc → Slc → Slc → Slc → Int → Int → World → Prop) (m0 : Slc → Slc → Slc → Slc → Slc → Int → Int → World → Nat) (J2 : Slc → Slc → Slc → Slc → Int → Slc → Int → Int → Int → World → Prop) (m2 : Slc → Slc → Slc → Slc → Int → Slc → Int → Int → Int → World → Nat) : Nat → Option ((Act → World → Prop) × (Act → World → Nat))
  | 0 => some (fun a_ w_ => atSz a_ 196 (atS a_ 0 fun t0 => atS a_ 1 fun t1 => atS a_ 7 fun t7 => atS a_ 11 fun t11 => atS a_ 95 fun t95 => atI .i64 a_ 96 fun t96 => atI .i64 a_ 97 fun t97 => J0 t0 t1 t7 t11 t95 t96 t97 w_), fun a_ w_ => mS a_ 0 fun t0 => mS a_ 1 fun t1 => mS a_ 7 fun t7 => mS a_ 11 fun t11 => mS a_ 95 fun t95 => mI a_ 96 fun t96 => mI a_ 97 fun t97 => m0 t0 t1 t7 t11 t95 t96 t97 w_)
  | 2 => some (fun a_ w_ => atSz a_ 196 (atS a_ 1 fun t1 => atS a_ 7 fun t7 => atS a_ 14 fun t14 => atS a_ 15 fun t15 => atI .i64 a_ 16 fun t16 => atS a_ 17 fun t17 => atI .i64 a_ 18 fun t18 => atI .i64 a_ 123 fun t123 => atI .i64 a_ 124 fun t124 => J2 t1 t7 t14 t15 t16 t17 t18 t123 t124 w_), fun a_ w_ => mS a_ 1 fun t1 => mS a_ 7 fun t7 => mS a_ 14 fun t14 => mS a_ 15 fun t15 => mI a_ 16 fun t16 => mS a_ 17 fun t17 => mI a_ 18 fun t18 => mI a_ 123 fun t123 => mI a_ 124 fun t124 => m2 t1 t7 t14 t15 t16 t17 t18 t123 t124 w_)
  | _ => none

set_option maxRecDepth 100000 in
/-- surd/surdlaw02.MulOwn: function 12. -/
theorem surdlaw02_MulOwn_vc (a0 : Slc) (a1 : Slc) (a2 : Int) (w : World) (R : Ending → World → Prop)
    (J0 : Slc → Slc → Slc → Slc → Slc → Int → Int → World → Prop) (m0 : Slc → Slc → Slc → Slc → Slc → Int → Int → World → Nat) (J2 : Slc → Slc → Slc → Slc → Int → Slc → Int → Int → Int → World → Prop) (m2 : Slc → Slc → Slc → Slc → Int → Slc → Int → Int → Int → World → Nat)
    (h : Calls Try.prog 16 #[a0.v] w fun e1 w1 =>
    ∃ s1 : Slc, e1 = .returned s1.v ∧
    (Calls Try.prog 16 #[a1.v] w1 fun e2 w2 =>
      ∃ s2 : Slc, e2 = .returned s2.v ∧
      (Calls Try.prog 42 #[s1.v, s2.v] w2 fun e3 w3 =>
        ∃ s3 : Slc, e3 = .returned s3.v ∧
        (Calls Try.prog 40 #[s3.v] w3 fun e4 w4 =>
          ∃ s4 : Slc, e4 = .returned s4.v ∧
          (Calls Try.prog 41 #[s4.v] w4 fun e5 w5 =>
            ∃ s5 : Slc, e5 = .returned s5.v ∧
            (Calls Try.prog 43 #[a0.v, a1.v, Value.int .i64 (Int.tmod (IntKind.i64.wrap ((Int.tmod a2 5) + 5)) 5)] w5 fun e6 w6 =>
              ∃ s6 : Slc, e6 = .returned s6.v ∧
              (Calls Try.prog 43 #[a1.v, a0.v, Value.int .i64 (Int.tmod (IntKind.i64.wrap ((Int.tmod a2 5) + 5)) 5)] w6 fun e7 w7 =>
                ∃ s7 : Slc, e7 = .returned s7.v ∧
                (Calls Try.prog 43 #[a0.v, a1.v, Value.int .i64 (Int.tmod (IntKind.i64.wrap ((Int.tmod a2 5) + 5)) 5)] w7 fun e8 w8 =>
                  ∃ s8 : Slc, e8 = .returned s8.v ∧
                  (br ((s6.n : Int) == 0)
                    (Calls Try.prog 16 #[a0.v] w8 fun e9 w9 =>
                      ∃ s9 : Slc, e9 = .returned s9.v ∧
                      (Calls Try.prog 44 #[s9.v] w9 fun e10 w10 =>
                        ∃ x1 : Int, e10 = .returned (Value.int .i64 x1) ∧
                        (Calls Try.prog 16 #[a1.v] w10 fun e11 w11 =>
                          ∃ s10 : Slc, e11 = .returned s10.v ∧
                          (Calls Try.prog 44 #[s10.v] w11 fun e12 w12 =>
                            ∃ x2 : Int, e12 = .returned (Value.int .i64 x2) ∧
                            (R (.returned (Value.bool (decide ((IntKind.i64.wrap (x1 + x2)) > 8388608)))) w12)))))
                    (br ((s7.n : Int) == 0)
                      (Calls Try.prog 16 #[a0.v] w8 fun e13 w13 =>
                        ∃ s11 : Slc, e13 = .returned s11.v ∧
                        (Calls Try.prog 44 #[s11.v] w13 fun e14 w14 =>
                          ∃ x3 : Int, e14 = .returned (Value.int .i64 x3) ∧
                          (Calls Try.prog 16 #[a1.v] w14 fun e15 w15 =>
                            ∃ s12 : Slc, e15 = .returned s12.v ∧
                            (Calls Try.prog 44 #[s12.v] w15 fun e16 w16 =>
                              ∃ x4 : Int, e16 = .returned (Value.int .i64 x4) ∧
                              (R (.returned (Value.bool (decide ((IntKind.i64.wrap (x3 + x4)) > 8388608)))) w16)))))
                      (br ((s8.n : Int) == 0)
                        (Calls Try.prog 16 #[a0.v] w8 fun e17 w17 =>
                          ∃ s13 : Slc, e17 = .returned s13.v ∧
                          (Calls Try.prog 44 #[s13.v] w17 fun e18 w18 =>
                            ∃ x5 : Int, e18 = .returned (Value.int .i64 x5) ∧
                            (Calls Try.prog 16 #[a1.v] w18 fun e19 w19 =>
                              ∃ s14 : Slc, e19 = .returned s14.v ∧
                              (Calls Try.prog 44 #[s14.v] w19 fun e20 w20 =>
                                ∃ x6 : Int, e20 = .returned (Value.int .i64 x6) ∧
                                (R (.returned (Value.bool (decide ((IntKind.i64.wrap (x5 + x6)) > 8388608)))) w20)))))
                        (∃ s15 : Slc, (∀ w21, Ahead w8 w21 → Calls Try.prog 16 #[s5.v] w21 fun e21 w22 => e21 = .returned s15.v ∧ Ahead w21 w22) ∧
                          (fixA Try.prog (Instr.indexAt 55 s6.v (Value.int .i64 0)) w8 fun ad1 =>
                            ldS ad1 w8 fun s16 =>
                            ∃ b1 : Bool, (∀ w23, Ahead w8 w23 → Calls Try.prog 45 #[s15.v, s16.v] w23 fun e22 w24 => e22 = .returned (Value.bool b1) ∧ Ahead w23 w24) ∧
                            (br (!b1)
                              (∀ w25, Ahead w8 w25 →
                                (R (.returned (Value.bool false)) w25))
                              (∃ s17 : Slc, (∀ w26, Ahead w8 w26 → Calls Try.prog 16 #[s5.v] w26 fun e23 w27 => e23 = .returned s17.v ∧ Ahead w26 w27) ∧
                                (fixA Try.prog (Instr.indexAt 55 s8.v (Value.int .i64 0)) w8 fun ad2 =>
                                  ldS ad2 w8 fun s18 =>
                                  ∃ b2 : Bool, (∀ w28, Ahead w8 w28 → Calls Try.prog 45 #[s17.v, s18.v] w28 fun e24 w29 => e24 = .returned (Value.bool b2) ∧ Ahead w28 w29) ∧
                                  (br (!b2)
                                    (∀ w30, Ahead w8 w30 →
                                      (R (.returned (Value.bool false)) w30))
                                    (∃ s19 : Slc, (∀ w31, Ahead w8 w31 → Calls Try.prog 16 #[s5.v] w31 fun e25 w32 => e25 = .returned s19.v ∧ Ahead w31 w32) ∧
                                      (fixA Try.prog (Instr.indexAt 55 s7.v (Value.int .i64 0)) w8 fun ad3 =>
                                        ldS ad3 w8 fun s20 =>
                                        ∃ b3 : Bool, (∀ w33, Ahead w8 w33 → Calls Try.prog 45 #[s19.v, s20.v] w33 fun e26 w34 => e26 = .returned (Value.bool b3) ∧ Ahead w33 w34) ∧
                                        (∀ w35, Ahead w8 w35 →
                                          (br (!b3)
                                            (R (.returned (Value.bool false)) w35)
                                            (newC w35 #[s6.v, s7.v, s8.v] 55 fun ad4 w36 =>
                                              J0 a0 a1 s5 (⟨none, 0, 0⟩ : Slc) (⟨some ad4, 3, 3⟩ : Slc) ((⟨some ad4, 3, 3⟩ : Slc).n : Int) 0 w36))))))))))))))))))))))
    (h0 : ∀ (t0 : Slc) (t1 : Slc) (t7 : Slc) (t11 : Slc) (t95 : Slc) (t96 : Int) (t97 : Int) (w_ : World), J0 t0 t1 t7 t11 t95 t96 t97 w_ → 
    br (decide (t97 < t96))
    (semA Try.prog (Instr.indexAt 68 t95.v (Value.int .i64 t97)) w_ fun ad5 w37 =>
      ldS ad5 w37 fun s21 =>
      semS Try.prog (Builtin.append_ #[55, 55] 55 #[t11.v, s21.v]) w37 fun s22 w38 =>
      J0 t0 t1 t7 s22 t95 t96 (IntKind.i64.wrap (t97 + 1)) w38 ∧
      m0 t0 t1 t7 s22 t95 t96 (IntKind.i64.wrap (t97 + 1)) w38 < m0 t0 t1 t7 t11 t95 t96 t97 w_)
    (Calls Try.prog 27 #[t11.v] w_ fun e27 w39 =>
      ∃ b4 : Bool, e27 = .returned (Value.bool b4) ∧
      (br (!b4)
        (R (.returned (Value.bool false)) w39)
        (Calls Try.prog 41 #[t0.v] w39 fun e28 w40 =>
          ∃ s23 : Slc, e28 = .returned s23.v ∧
          (Calls Try.prog 21 #[s23.v, t1.v] w40 fun e29 w41 =>
            ∃ s24 : Slc, ∃ x7 : Int, e29 = .returned (Value.tuple #[s24.v, Value.int .i64 x7]) ∧
            (Calls Try.prog 21 #[s23.v, t1.v] w41 fun e30 w42 =>
              ∃ s25 : Slc, ∃ x8 : Int, e30 = .returned (Value.tuple #[s25.v, Value.int .i64 x8]) ∧
              (J2 t1 t7 s23 s24 x7 s25 x8 (s23.n : Int) 0 w42)))))))
    (h2 : ∀ (t1 : Slc) (t7 : Slc) (t14 : Slc) (t15 : Slc) (t16 : Int) (t17 : Slc) (t18 : Int) (t123 : Int) (t124 : Int) (w_ : World), J2 t1 t7 t14 t15 t16 t17 t18 t123 t124 w_ → 
    br (decide (t124 < t123))
    (semA Try.prog (Instr.indexAt 32 t14.v (Value.int .i64 t124)) w_ fun ad6 w43 =>
      ldI .u64 ad6 w43 fun x9 =>
      semA Try.prog (Instr.indexAt 32 t14.v (Value.int .i64 t124)) w43 fun ad7 w44 =>
      stC ad7 (Value.int .u64 (xorI .u64 x9 1)) w44 fun w45 =>
      J2 t1 t7 t14 t15 t16 t17 t18 t123 (IntKind.i64.wrap (t124 + 1)) w45 ∧
      m2 t1 t7 t14 t15 t16 t17 t18 t123 (IntKind.i64.wrap (t124 + 1)) w45 < m2 t1 t7 t14 t15 t16 t17 t18 t123 t124 w_)
    (Calls Try.prog 21 #[t14.v, t1.v] w_ fun e31 w46 =>
      ∃ s26 : Slc, ∃ x10 : Int, e31 = .returned (Value.tuple #[s26.v, Value.int .i64 x10]) ∧
      (Calls Try.prog 13 #[Value.int .i64 x10] w46 fun e32 w47 =>
        ∃ x11 : Int, e32 = .returned (Value.int .i64 x11) ∧
        (br (x11 != 0)
          (Calls Try.prog 13 #[Value.int .i64 x10] w47 fun e33 w48 =>
            ∃ x12 : Int, e33 = .returned (Value.int .i64 x12) ∧
            (br (x12 == 3)
              (Calls Try.prog 16 #[t14.v] w48 fun e34 w49 =>
                ∃ s27 : Slc, e34 = .returned s27.v ∧
                (Calls Try.prog 44 #[s27.v] w49 fun e35 w50 =>
                  ∃ x13 : Int, e35 = .returned (Value.int .i64 x13) ∧
                  (Calls Try.prog 16 #[t1.v] w50 fun e36 w51 =>
                    ∃ s28 : Slc, e36 = .returned s28.v ∧
                    (Calls Try.prog 44 #[s28.v] w51 fun e37 w52 =>
                      ∃ x14 : Int, e37 = .returned (Value.int .i64 x14) ∧
                      (br (decide ((IntKind.i64.wrap (x13 + x14)) > 67108864))
                        (newC w52 #[Value.int .i64 t16, Value.int .i64 t18] 23 fun ad8 w53 =>
                          Calls Try.prog 22 #[(⟨some ad8, 2, 2⟩ : Slc).v] w53 fun e38 w54 =>
                          ∃ b5 : Bool, e38 = .returned (Value.bool b5) ∧
                          (br b5
                            (Calls Try.prog 14 #[] w54 fun e39 w55 =>
                              ∃ b6 : Bool, e39 = .returned (Value.bool b6) ∧
                              (R (.returned (Value.bool b6)) w55))
                            (R (.returned (Value.bool false)) w54)))
                        (R (.returned (Value.bool false)) w52))))))
              (R (.returned (Value.bool false)) w48)))
          (Calls Try.prog 16 #[t14.v] w47 fun e40 w56 =>
            ∃ s29 : Slc, e40 = .returned s29.v ∧
            (Calls Try.prog 16 #[t1.v] w56 fun e41 w57 =>
              ∃ s30 : Slc, e41 = .returned s30.v ∧
              (Calls Try.prog 42 #[s29.v, s30.v] w57 fun e42 w58 =>
                ∃ s31 : Slc, e42 = .returned s31.v ∧
                (newC w58 #[Value.int .i64 t16, Value.int .i64 t18] 23 fun ad9 w59 =>
                  Calls Try.prog 22 #[(⟨some ad9, 2, 2⟩ : Slc).v] w59 fun e43 w60 =>
                  ∃ b7 : Bool, e43 = .returned (Value.bool b7) ∧
                  (br b7
                    (Calls Try.prog 16 #[t7.v] w60 fun e44 w61 =>
                      ∃ s32 : Slc, e44 = .returned s32.v ∧
                      (Calls Try.prog 45 #[s32.v, t15.v] w61 fun e45 w62 =>
                        ∃ b8 : Bool, e45 = .returned (Value.bool b8) ∧
                        (br b8
                          (Calls Try.prog 16 #[t7.v] w62 fun e46 w63 =>
                            ∃ s33 : Slc, e46 = .returned s33.v ∧
                            (Calls Try.prog 45 #[s33.v, t17.v] w63 fun e47 w64 =>
                              ∃ b9 : Bool, e47 = .returned (Value.bool b9) ∧
                              (br b9
                                (Calls Try.prog 45 #[s31.v, s26.v] w64 fun e48 w65 =>
                                  ∃ b10 : Bool, e48 = .returned (Value.bool b10) ∧
                                  (br b10
                                    (Calls Try.prog 14 #[] w65 fun e49 w66 =>
                                      ∃ b11 : Bool, e49 = .returned (Value.bool b11) ∧
                                      (R (.returned (Value.bool b11)) w66))
                                    (R (.returned (Value.bool false)) w65)))
                                (R (.returned (Value.bool false)) w64))))
                          (R (.returned (Value.bool false)) w62))))
                    (R (.returned (Value.bool false)) w60)))))))))) :
    Calls Try.prog 12 #[a0.v, a1.v, Value.int .i64 a2] w R := by
  refine calls_of_vc (surdlaw02_MulOwn_cut J0 m0 J2 m2) (by kernel_rfl) Try.func12 rfl ?_ ?_
  · refine kcast h ?_; kernel_rfl
  · exact (obl_seq (obl_reg (obl_seq (obl_reg (obl_seq (obl_reg (obl_seq (obl_reg (obl_seq (obl_reg (obl_seq (obl_reg (obl_seq (obl_seq (obl_reg (obl_cond (obl_seq (obl_reg (obl_ret (obl_skip (obl_seq (obl_seq (obl_quiet (by kernel_rfl) (by kernel_rfl) (obl_cond (obl_seq (obl_reg (obl_ret (obl_skip (obl_seq (obl_reg (obl_seq (obl_seq (obl_reg (obl_loop _ rfl (fun a_ w_ hL_ => (by
    obtain ⟨hz_, hd_, hL_⟩ := atSz_out hL_
    obtain ⟨t0, h0_, hL_⟩ := atS_out hL_
    obtain ⟨t1, h1_, hL_⟩ := atS_out hL_
    obtain ⟨t7, h7_, hL_⟩ := atS_out hL_
    obtain ⟨t11, h11_, hL_⟩ := atS_out hL_
    obtain ⟨t95, h95_, hL_⟩ := atS_out hL_
    obtain ⟨t96, h96_, hL_⟩ := atI_out hL_
    obtain ⟨t97, h97_, hL_⟩ := atI_out hL_
    obtain ⟨g0, rfl⟩ : ∃ g, a_ = Fr 196 [(0, t0.v), (1, t1.v), (7, t7.v), (11, t11.v), (95, t95.v), (96, Value.int .i64 t96), (97, Value.int .i64 t97)] g := ⟨_, fr_of hz_ hd_ [(0, t0.v), (1, t1.v), (7, t7.v), (11, t11.v), (95, t95.v), (96, Value.int .i64 t96), (97, Value.int .i64 t97)] (sel_cons h0_ (sel_cons h1_ (sel_cons h7_ (sel_cons h11_ (sel_cons h95_ (sel_cons h96_ (sel_cons h97_ sel_nil)))))))⟩
    clear hz_ hd_ h0_ h1_ h7_ h11_ h95_ h96_ h97_
    have hJ0_ := hL_
    refine ⟨(fun _ => none), kcast (h0 t0 t1 t7 t11 t95 t96 t97 w_ hJ0_) ?_, ?_⟩
    · kernel_rfl
    · exact (obl_seq (obl_reg (obl_seq (obl_cond (obl_skip (obl_exit (obl_seq (obl_blk rfl (obl_seq (obl_reg (obl_reg (obl_reg trivial)))))))))))))) (obl_seq (obl_seq (obl_reg (obl_cond (obl_seq (obl_reg (obl_ret (obl_skip (obl_seq (obl_reg (obl_seq (obl_reg (obl_seq (obl_reg (obl_seq (obl_seq (obl_reg (obl_loop _ rfl (fun a_ w_ hL_ => (by
    obtain ⟨hz_, hd_, hL_⟩ := atSz_out hL_
    obtain ⟨t1, h1_, hL_⟩ := atS_out hL_
    obtain ⟨t7, h7_, hL_⟩ := atS_out hL_
    obtain ⟨t14, h14_, hL_⟩ := atS_out hL_
    obtain ⟨t15, h15_, hL_⟩ := atS_out hL_
    obtain ⟨t16, h16_, hL_⟩ := atI_out hL_
    obtain ⟨t17, h17_, hL_⟩ := atS_out hL_
    obtain ⟨t18, h18_, hL_⟩ := atI_out hL_
    obtain ⟨t123, h123_, hL_⟩ := atI_out hL_
    obtain ⟨t124, h124_, hL_⟩ := atI_out hL_
    obtain ⟨g2, rfl⟩ : ∃ g, a_ = Fr 196 [(1, t1.v), (7, t7.v), (14, t14.v), (15, t15.v), (16, Value.int .i64 t16), (17, t17.v), (18, Value.int .i64 t18), (123, Value.int .i64 t123), (124, Value.int .i64 t124)] g := ⟨_, fr_of hz_ hd_ [(1, t1.v), (7, t7.v), (14, t14.v), (15, t15.v), (16, Value.int .i64 t16), (17, t17.v), (18, Value.int .i64 t18), (123, Value.int .i64 t123), (124, Value.int .i64 t124)] (sel_cons h1_ (sel_cons h7_ (sel_cons h14_ (sel_cons h15_ (sel_cons h16_ (sel_cons h17_ (sel_cons h18_ (sel_cons h123_ (sel_cons h124_ sel_nil)))))))))⟩
    clear hz_ hd_ h1_ h7_ h14_ h15_ h16_ h17_ h18_ h123_ h124_
    have hJ2_ := hL_
    refine ⟨(fun _ => none), kcast (h2 t1 t7 t14 t15 t16 t17 t18 t123 t124 w_ hJ2_) ?_, ?_⟩
    · kernel_rfl
    · exact (obl_seq (obl_reg (obl_seq (obl_cond (obl_skip (obl_exit (obl_seq (obl_blk rfl (obl_seq (obl_reg (obl_reg (obl_reg trivial)))))))))))))) (obl_seq (obl_reg (obl_seq (obl_seq (obl_reg (obl_cond (obl_seq (obl_reg (obl_ret (obl_skip (obl_seq (obl_reg (obl_seq (obl_reg (obl_ret trivial)))))))))))))))))))))))))))))))))))))))))))))))))))))))))))))))))))

set_option maxRecDepth 100000 in
/-- surd/surdlaw02.MulIdentity: function 11. -/
theorem surdlaw02_MulIdentity_vc (a0 : Slc) (a1 : Slc) (a2 : Int) (w : World) (R : Ending → World → Prop)
    
    (h : br (decide (a2 < 0))
    (Calls Try.prog 14 #[] w fun e1 w1 =>
      ∃ b1 : Bool, e1 = .returned (Value.bool b1) ∧
      (R (.returned (Value.bool b1)) w1))
    (br (decide (a2 > 1048576))
      (Calls Try.prog 14 #[] w fun e2 w2 =>
        ∃ b2 : Bool, e2 = .returned (Value.bool b2) ∧
        (R (.returned (Value.bool b2)) w2))
      (Calls Try.prog 21 #[a0.v, a1.v] w fun e3 w3 =>
        ∃ s1 : Slc, ∃ x1 : Int, e3 = .returned (Value.tuple #[s1.v, Value.int .i64 x1]) ∧
        (Calls Try.prog 31 #[a0.v, a1.v, Value.int .i64 a2] w3 fun e4 w4 =>
          ∃ s2 : Slc, ∃ s3 : Slc, ∃ s4 : Slc, ∃ x2 : Int, e4 = .returned (Value.tuple #[s2.v, s3.v, s4.v, Value.int .i64 x2]) ∧
          (Calls Try.prog 29 #[a0.v, Value.int .i64 a2] w4 fun e5 w5 =>
            ∃ s5 : Slc, ∃ s6 : Slc, ∃ x3 : Int, e5 = .returned (Value.tuple #[s5.v, s6.v, Value.int .i64 x3]) ∧
            (Calls Try.prog 29 #[a1.v, Value.int .i64 a2] w5 fun e6 w6 =>
              ∃ s7 : Slc, ∃ s8 : Slc, ∃ x4 : Int, e6 = .returned (Value.tuple #[s7.v, s8.v, Value.int .i64 x4]) ∧
              (Calls Try.prog 36 #[a0.v, a1.v, Value.int .i64 a2] w6 fun e7 w7 =>
                ∃ s9 : Slc, ∃ x5 : Int, e7 = .returned (Value.tuple #[s9.v, Value.int .i64 x5]) ∧
                (Calls Try.prog 37 #[a0.v, a1.v, Value.int .i64 a2] w7 fun e8 w8 =>
                  ∃ s10 : Slc, ∃ x6 : Int, e8 = .returned (Value.tuple #[s10.v, Value.int .i64 x6]) ∧
                  (newC w8 #[Value.int .i64 x1, Value.int .i64 x2, Value.int .i64 x3, Value.int .i64 x4, Value.int .i64 x5, Value.int .i64 x6] 23 fun ad1 w9 =>
                    Calls Try.prog 22 #[(⟨some ad1, 6, 6⟩ : Slc).v] w9 fun e9 w10 =>
                    ∃ b3 : Bool, e9 = .returned (Value.bool b3) ∧
                    (br (!b3)
                      (Calls Try.prog 14 #[] w10 fun e10 w11 =>
                        ∃ b4 : Bool, e10 = .returned (Value.bool b4) ∧
                        (R (.returned (Value.bool b4)) w11))
                      (Calls Try.prog 23 #[s5.v, s6.v] w10 fun e11 w12 =>
                        ∃ s11 : Slc, e11 = .returned s11.v ∧
                        (Calls Try.prog 23 #[s7.v, s8.v] w12 fun e12 w13 =>
                          ∃ s12 : Slc, e12 = .returned s12.v ∧
                          (Calls Try.prog 21 #[s11.v, s12.v] w13 fun e13 w14 =>
                            ∃ s13 : Slc, ∃ x7 : Int, e13 = .returned (Value.tuple #[s13.v, Value.int .i64 x7]) ∧
                            (newC w14 #[Value.int .i64 x7] 23 fun ad2 w15 =>
                              Calls Try.prog 22 #[(⟨some ad2, 1, 1⟩ : Slc).v] w15 fun e14 w16 =>
                              ∃ b5 : Bool, e14 = .returned (Value.bool b5) ∧
                              (br (!b5)
                                (Calls Try.prog 14 #[] w16 fun e15 w17 =>
                                  ∃ b6 : Bool, e15 = .returned (Value.bool b6) ∧
                                  (R (.returned (Value.bool b6)) w17))
                                (Calls Try.prog 16 #[s4.v] w16 fun e16 w18 =>
                                  ∃ s14 : Slc, e16 = .returned s14.v ∧
                                  (Calls Try.prog 39 #[s14.v, Value.int .i64 (IntKind.i64.wrap (128 * a2))] w18 fun e17 w19 =>
                                    ∃ s15 : Slc, e17 = .returned s15.v ∧
                                    (Calls Try.prog 16 #[s3.v] w19 fun e18 w20 =>
                                      ∃ s16 : Slc, e18 = .returned s16.v ∧
                                      (Calls Try.prog 39 #[s16.v, Value.int .i64 (IntKind.i64.wrap (64 * a2))] w20 fun e19 w21 =>
                                        ∃ s17 : Slc, e19 = .returned s17.v ∧
                                        (Calls Try.prog 38 #[s15.v, s17.v] w21 fun e20 w22 =>
                                          ∃ s18 : Slc, e20 = .returned s18.v ∧
                                          (Calls Try.prog 40 #[s18.v] w22 fun e21 w23 =>
                                            ∃ s19 : Slc, e21 = .returned s19.v ∧
                                            (Calls Try.prog 16 #[s10.v] w23 fun e22 w24 =>
                                              ∃ s20 : Slc, e22 = .returned s20.v ∧
                                              (Calls Try.prog 39 #[s20.v, Value.int .i64 a2] w24 fun e23 w25 =>
                                                ∃ s21 : Slc, e23 = .returned s21.v ∧
                                                (Calls Try.prog 16 #[s9.v] w25 fun e24 w26 =>
                                                  ∃ s22 : Slc, e24 = .returned s22.v ∧
                                                  (Calls Try.prog 38 #[s21.v, s22.v] w26 fun e25 w27 =>
                                                    ∃ s23 : Slc, e25 = .returned s23.v ∧
                                                    (Calls Try.prog 40 #[s23.v] w27 fun e26 w28 =>
                                                      ∃ s24 : Slc, e26 = .returned s24.v ∧
                                                      (Calls Try.prog 23 #[s19.v, s2.v] w28 fun e27 w29 =>
                                                        ∃ s25 : Slc, e27 = .returned s25.v ∧
                                                        (Calls Try.prog 24 #[s1.v, s25.v] w29 fun e28 w30 =>
                                                          ∃ b7 : Bool, e28 = .returned (Value.bool b7) ∧
                                                          (br b7
                                                            (Calls Try.prog 23 #[s3.v, s2.v] w30 fun e29 w31 =>
                                                              ∃ s26 : Slc, e29 = .returned s26.v ∧
                                                              (Calls Try.prog 23 #[s26.v, s4.v] w31 fun e30 w32 =>
                                                                ∃ s27 : Slc, e30 = .returned s27.v ∧
                                                                (Calls Try.prog 24 #[s13.v, s27.v] w32 fun e31 w33 =>
                                                                  ∃ b8 : Bool, e31 = .returned (Value.bool b8) ∧
                                                                  (br b8
                                                                    (Calls Try.prog 24 #[s1.v, s24.v] w33 fun e32 w34 =>
                                                                      ∃ b9 : Bool, e32 = .returned (Value.bool b9) ∧
                                                                      (br b9
                                                                        (Calls Try.prog 14 #[] w34 fun e33 w35 =>
                                                                          ∃ b10 : Bool, e33 = .returned (Value.bool b10) ∧
                                                                          (R (.returned (Value.bool b10)) w35))
                                                                        (R (.returned (Value.bool false)) w34)))
                                                                    (R (.returned (Value.bool false)) w33)))))
                                                            (R (.returned (Value.bool false)) w30)))))))))))))))))))))))))))))) :
    Calls Try.prog 11 #[a0.v, a1.v, Value.int .i64 a2] w R := by
  refine calls_of_vc (fun _ => none) (by kernel_rfl) Try.func11 rfl ?_ ?_
  · refine kcast h ?_; kernel_rfl
  · exact (obl_seq (obl_reg (obl_seq (obl_seq (obl_reg (obl_cond (obl_seq (obl_reg (obl_ret (obl_skip (obl_seq (obl_reg (obl_seq (obl_reg (obl_seq (obl_reg (obl_seq (obl_reg (obl_seq (obl_reg (obl_seq (obl_reg (obl_seq (obl_seq (obl_reg (obl_cond (obl_seq (obl_reg (obl_ret (obl_skip (obl_seq (obl_reg (obl_seq (obl_seq (obl_reg (obl_cond (obl_seq (obl_reg (obl_ret (obl_skip (obl_seq (obl_reg (obl_seq (obl_reg (obl_seq (obl_reg (obl_ret trivial)))))))))))))))))))))))))))))))))))))))))))))))

set_option maxRecDepth 100000 in
/-- surd/surdlaw02.MulParts: function 8. -/
theorem surdlaw02_MulParts_vc (a0 : Slc) (a1 : Slc) (a2 : Int) (w : World) (R : Ending → World → Prop)
    
    (h : Calls Try.prog 15 #[a0.v] w fun e1 w1 =>
    ∃ s1 : Slc, ∃ s2 : Slc, e1 = .returned (Value.tuple #[s1.v, s2.v]) ∧
    (Calls Try.prog 15 #[a1.v] w1 fun e2 w2 =>
      ∃ s3 : Slc, ∃ s4 : Slc, e2 = .returned (Value.tuple #[s3.v, s4.v]) ∧
      (Calls Try.prog 16 #[a0.v] w2 fun e3 w3 =>
        ∃ s5 : Slc, e3 = .returned s5.v ∧
        (Calls Try.prog 16 #[a1.v] w3 fun e4 w4 =>
          ∃ s6 : Slc, e4 = .returned s6.v ∧
          (Calls Try.prog 30 #[s5.v, s6.v, Value.int .i64 a2] w4 fun e5 w5 =>
            ∃ s7 : Slc, ∃ s8 : Slc, ∃ s9 : Slc, ∃ x1 : Int, e5 = .returned (Value.tuple #[s7.v, s8.v, s9.v, Value.int .i64 x1]) ∧
            (Calls Try.prog 31 #[s2.v, s4.v, Value.int .i64 a2] w5 fun e6 w6 =>
              ∃ s10 : Slc, ∃ s11 : Slc, ∃ s12 : Slc, ∃ x2 : Int, e6 = .returned (Value.tuple #[s10.v, s11.v, s12.v, Value.int .i64 x2]) ∧
              (Calls Try.prog 19 #[s10.v, Value.int .i64 x2, s7.v, Value.int .i64 x1] w6 fun e7 w7 =>
                ∃ b1 : Bool, e7 = .returned (Value.bool b1) ∧
                (br b1
                  (Calls Try.prog 19 #[s11.v, Value.int .i64 x2, s8.v, Value.int .i64 x1] w7 fun e8 w8 =>
                    ∃ b2 : Bool, e8 = .returned (Value.bool b2) ∧
                    (br b2
                      (Calls Try.prog 19 #[s12.v, Value.int .i64 x2, s9.v, Value.int .i64 x1] w8 fun e9 w9 =>
                        ∃ b3 : Bool, e9 = .returned (Value.bool b3) ∧
                        (br b3
                          (newC w9 #[s10.v, s11.v, s12.v] 25 fun ad1 w10 =>
                            Calls Try.prog 27 #[(⟨some ad1, 3, 3⟩ : Slc).v] w10 fun e10 w11 =>
                            ∃ b4 : Bool, e10 = .returned (Value.bool b4) ∧
                            (br b4
                              (Calls Try.prog 20 #[s1.v, a0.v] w11 fun e11 w12 =>
                                ∃ b5 : Bool, e11 = .returned (Value.bool b5) ∧
                                (br b5
                                  (Calls Try.prog 20 #[s3.v, a1.v] w12 fun e12 w13 =>
                                    ∃ b6 : Bool, e12 = .returned (Value.bool b6) ∧
                                    (br b6
                                      (Calls Try.prog 14 #[] w13 fun e13 w14 =>
                                        ∃ b7 : Bool, e13 = .returned (Value.bool b7) ∧
                                        (R (.returned (Value.bool b7)) w14))
                                      (R (.returned (Value.bool false)) w13)))
                                  (R (.returned (Value.bool false)) w12)))
                              (R (.returned (Value.bool false)) w11)))
                          (R (.returned (Value.bool false)) w9)))
                      (R (.returned (Value.bool false)) w8)))
                  (R (.returned (Value.bool false)) w7))))))))) :
    Calls Try.prog 8 #[a0.v, a1.v, Value.int .i64 a2] w R := by
  refine calls_of_vc (fun _ => none) (by kernel_rfl) Try.func8 rfl ?_ ?_
  · refine kcast h ?_; kernel_rfl
  · exact (obl_seq (obl_reg (obl_seq (obl_reg (obl_seq (obl_reg (obl_seq (obl_reg (obl_seq (obl_reg (obl_seq (obl_reg (obl_ret trivial)))))))))))))

set_option maxRecDepth 100000 in
/-- surd/mul.Parts: function 31. -/
theorem mul_Parts_vc (a0 : Slc) (a1 : Slc) (a2 : Int) (w : World) (R : Ending → World → Prop)
    
    (h : br (decide (a2 < 0))
    (R (.returned (Value.tuple #[(⟨none, 0, 0⟩ : Slc).v, (⟨none, 0, 0⟩ : Slc).v, (⟨none, 0, 0⟩ : Slc).v, Value.int .i64 1])) w)
    (Calls Try.prog 56 #[a0.v] w fun e1 w1 =>
      ∃ s1 : Slc, e1 = .returned s1.v ∧
      (Calls Try.prog 56 #[a1.v] w1 fun e2 w2 =>
        ∃ s2 : Slc, e2 = .returned s2.v ∧
        (Calls Try.prog 58 #[s1.v, Value.int .i64 0, Value.int .i64 a2] w2 fun e3 w3 =>
          ∃ s3 : Slc, e3 = .returned s3.v ∧
          (Calls Try.prog 58 #[s1.v, Value.int .i64 a2, Value.int .i64 (s1.n : Int)] w3 fun e4 w4 =>
            ∃ s4 : Slc, e4 = .returned s4.v ∧
            (Calls Try.prog 58 #[s2.v, Value.int .i64 0, Value.int .i64 a2] w4 fun e5 w5 =>
              ∃ s5 : Slc, e5 = .returned s5.v ∧
              (Calls Try.prog 58 #[s2.v, Value.int .i64 a2, Value.int .i64 (s2.n : Int)] w5 fun e6 w6 =>
                ∃ s6 : Slc, e6 = .returned s6.v ∧
                (Calls Try.prog 21 #[s3.v, s5.v] w6 fun e7 w7 =>
                  ∃ s7 : Slc, ∃ x1 : Int, e7 = .returned (Value.tuple #[s7.v, Value.int .i64 x1]) ∧
                  (Calls Try.prog 21 #[s4.v, s6.v] w7 fun e8 w8 =>
                    ∃ s8 : Slc, ∃ x2 : Int, e8 = .returned (Value.tuple #[s8.v, Value.int .i64 x2]) ∧
                    (br (x1 != 0)
                      (R (.returned (Value.tuple #[(⟨none, 0, 0⟩ : Slc).v, (⟨none, 0, 0⟩ : Slc).v, (⟨none, 0, 0⟩ : Slc).v, Value.int .i64 3])) w8)
                      (br (x2 != 0)
                        (R (.returned (Value.tuple #[(⟨none, 0, 0⟩ : Slc).v, (⟨none, 0, 0⟩ : Slc).v, (⟨none, 0, 0⟩ : Slc).v, Value.int .i64 3])) w8)
                        (Calls Try.prog 59 #[s3.v, s6.v] w8 fun e9 w9 =>
                          ∃ b1 : Bool, e9 = .returned (Value.bool b1) ∧
                          (br b1
                            (R (.returned (Value.tuple #[(⟨none, 0, 0⟩ : Slc).v, (⟨none, 0, 0⟩ : Slc).v, (⟨none, 0, 0⟩ : Slc).v, Value.int .i64 3])) w9)
                            (Calls Try.prog 59 #[s4.v, s5.v] w9 fun e10 w10 =>
                              ∃ b2 : Bool, e10 = .returned (Value.bool b2) ∧
                              (br b2
                                (R (.returned (Value.tuple #[(⟨none, 0, 0⟩ : Slc).v, (⟨none, 0, 0⟩ : Slc).v, (⟨none, 0, 0⟩ : Slc).v, Value.int .i64 3])) w10)
                                (Calls Try.prog 51 #[s3.v, s6.v, Value.int .i64 40] w10 fun e11 w11 =>
                                  ∃ s9 : Slc, e11 = .returned s9.v ∧
                                  (Calls Try.prog 51 #[s4.v, s5.v, Value.int .i64 40] w11 fun e12 w12 =>
                                    ∃ s10 : Slc, e12 = .returned s10.v ∧
                                    (Calls Try.prog 60 #[s9.v, s10.v] w12 fun e13 w13 =>
                                      ∃ s11 : Slc, e13 = .returned s11.v ∧
                                      (Calls Try.prog 57 #[s11.v] w13 fun e14 w14 =>
                                        ∃ s12 : Slc, ∃ x3 : Int, e14 = .returned (Value.tuple #[s12.v, Value.int .i64 x3]) ∧
                                        (br (x3 != 0)
                                          (R (.returned (Value.tuple #[(⟨none, 0, 0⟩ : Slc).v, (⟨none, 0, 0⟩ : Slc).v, (⟨none, 0, 0⟩ : Slc).v, Value.int .i64 x3])) w14)
                                          (R (.returned (Value.tuple #[s7.v, s12.v, s8.v, Value.int .i64 0])) w14))))))))))))))))))))) :
    Calls Try.prog 31 #[a0.v, a1.v, Value.int .i64 a2] w R := by
  refine calls_of_vc (fun _ => none) (by kernel_rfl) Try.func31 rfl ?_ ?_
  · refine kcast h ?_; kernel_rfl
  · exact (obl_seq (obl_reg (obl_seq (obl_seq (obl_reg (obl_cond (obl_seq (obl_reg (obl_ret (obl_skip (obl_seq (obl_reg (obl_seq (obl_reg (obl_seq (obl_reg (obl_seq (obl_reg (obl_seq (obl_seq (obl_reg (obl_cond (obl_seq (obl_reg (obl_ret (obl_skip (obl_seq (obl_reg (obl_seq (obl_seq (obl_reg (obl_cond (obl_seq (obl_reg (obl_ret (obl_skip (obl_seq (obl_reg (obl_ret trivial)))))))))))))))))))))))))))))))))))))))

set_option maxRecDepth 100000 in
/-- surd/surdref02.Parts: function 30. -/
theorem surdref02_Parts_vc (a0_a : Slc) (a1_b : Slc) (a2_k : Int) (w : World) (R : Ending → World → Prop)
    
    (h : br (decide (a2_k < 0))
    (R (.returned (Value.tuple #[(⟨none, 0, 0⟩ : Slc).v, (⟨none, 0, 0⟩ : Slc).v, (⟨none, 0, 0⟩ : Slc).v, Value.int .i64 1])) w)
    (Calls Try.prog 55 #[a0_a.v, Value.int .i64 a2_k] w fun e1 w1 =>
      ∃ s1 : Slc, ∃ s2 : Slc, e1 = .returned (Value.tuple #[s1.v, s2.v]) ∧
      (Calls Try.prog 55 #[a1_b.v, Value.int .i64 a2_k] w1 fun e2 w2 =>
        ∃ s3 : Slc, ∃ s4 : Slc, e2 = .returned (Value.tuple #[s3.v, s4.v]) ∧
        (Calls Try.prog 42 #[s1.v, s3.v] w2 fun e3 w3 =>
          ∃ s5 : Slc, e3 = .returned s5.v ∧
          (Calls Try.prog 42 #[s1.v, s4.v] w3 fun e4 w4 =>
            ∃ s6 : Slc, e4 = .returned s6.v ∧
            (Calls Try.prog 42 #[s2.v, s3.v] w4 fun e5 w5 =>
              ∃ s7 : Slc, e5 = .returned s7.v ∧
              (Calls Try.prog 38 #[s6.v, s7.v] w5 fun e6 w6 =>
                ∃ s8 : Slc, e6 = .returned s8.v ∧
                (Calls Try.prog 42 #[s2.v, s4.v] w6 fun e7 w7 =>
                  ∃ s9 : Slc, e7 = .returned s9.v ∧
                  (Calls Try.prog 44 #[s5.v] w7 fun e8 w8 =>
                    ∃ x1 : Int, e8 = .returned (Value.int .i64 x1) ∧
                    (br (decide (x1 > 67108864))
                      (R (.returned (Value.tuple #[(⟨none, 0, 0⟩ : Slc).v, (⟨none, 0, 0⟩ : Slc).v, (⟨none, 0, 0⟩ : Slc).v, Value.int .i64 3])) w8)
                      (Calls Try.prog 44 #[s8.v] w8 fun e9 w9 =>
                        ∃ x2 : Int, e9 = .returned (Value.int .i64 x2) ∧
                        (br (decide (x2 > 67108864))
                          (R (.returned (Value.tuple #[(⟨none, 0, 0⟩ : Slc).v, (⟨none, 0, 0⟩ : Slc).v, (⟨none, 0, 0⟩ : Slc).v, Value.int .i64 3])) w9)
                          (Calls Try.prog 44 #[s9.v] w9 fun e10 w10 =>
                            ∃ x3 : Int, e10 = .returned (Value.int .i64 x3) ∧
                            (br (decide (x3 > 67108864))
                              (R (.returned (Value.tuple #[(⟨none, 0, 0⟩ : Slc).v, (⟨none, 0, 0⟩ : Slc).v, (⟨none, 0, 0⟩ : Slc).v, Value.int .i64 3])) w10)
                              (R (.returned (Value.tuple #[s5.v, s8.v, s9.v, Value.int .i64 0])) w10))))))))))))))) :
    Calls Try.prog 30 #[a0_a.v, a1_b.v, Value.int .i64 a2_k] w R := by
  refine calls_of_vc (fun _ => none) (by kernel_rfl) Try.func30 rfl ?_ ?_
  · refine kcast h ?_; kernel_rfl
  · exact (obl_seq (obl_reg (obl_seq (obl_seq (obl_reg (obl_cond (obl_seq (obl_reg (obl_ret (obl_skip (obl_seq (obl_reg (obl_seq (obl_reg (obl_seq (obl_reg (obl_seq (obl_reg (obl_seq (obl_reg (obl_seq (obl_seq (obl_reg (obl_cond (obl_seq (obl_reg (obl_ret (obl_skip (obl_seq (obl_reg (obl_ret trivial)))))))))))))))))))))))))))))))

set_option maxRecDepth 100000 in
/-- surd/surdlaw02.MulHalves: function 10. -/
theorem surdlaw02_MulHalves_vc (a0 : Slc) (a1 : Slc) (a2 : Int) (w : World) (R : Ending → World → Prop)
    
    (h : Calls Try.prog 15 #[a0.v] w fun e1 w1 =>
    ∃ s1 : Slc, ∃ s2 : Slc, e1 = .returned (Value.tuple #[s1.v, s2.v]) ∧
    (Calls Try.prog 15 #[a1.v] w1 fun e2 w2 =>
      ∃ s3 : Slc, ∃ s4 : Slc, e2 = .returned (Value.tuple #[s3.v, s4.v]) ∧
      (Calls Try.prog 16 #[a0.v] w2 fun e3 w3 =>
        ∃ s5 : Slc, e3 = .returned s5.v ∧
        (Calls Try.prog 16 #[a1.v] w3 fun e4 w4 =>
          ∃ s6 : Slc, e4 = .returned s6.v ∧
          (Calls Try.prog 34 #[s5.v, s6.v, Value.int .i64 a2] w4 fun e5 w5 =>
            ∃ s7 : Slc, ∃ x1 : Int, e5 = .returned (Value.tuple #[s7.v, Value.int .i64 x1]) ∧
            (Calls Try.prog 16 #[a0.v] w5 fun e6 w6 =>
              ∃ s8 : Slc, e6 = .returned s8.v ∧
              (Calls Try.prog 16 #[a1.v] w6 fun e7 w7 =>
                ∃ s9 : Slc, e7 = .returned s9.v ∧
                (Calls Try.prog 35 #[s8.v, s9.v, Value.int .i64 a2] w7 fun e8 w8 =>
                  ∃ s10 : Slc, ∃ x2 : Int, e8 = .returned (Value.tuple #[s10.v, Value.int .i64 x2]) ∧
                  (Calls Try.prog 36 #[s2.v, s4.v, Value.int .i64 a2] w8 fun e9 w9 =>
                    ∃ s11 : Slc, ∃ x3 : Int, e9 = .returned (Value.tuple #[s11.v, Value.int .i64 x3]) ∧
                    (Calls Try.prog 37 #[s2.v, s4.v, Value.int .i64 a2] w9 fun e10 w10 =>
                      ∃ s12 : Slc, ∃ x4 : Int, e10 = .returned (Value.tuple #[s12.v, Value.int .i64 x4]) ∧
                      (Calls Try.prog 19 #[s11.v, Value.int .i64 x3, s7.v, Value.int .i64 x1] w10 fun e11 w11 =>
                        ∃ b1 : Bool, e11 = .returned (Value.bool b1) ∧
                        (br b1
                          (Calls Try.prog 19 #[s12.v, Value.int .i64 x4, s10.v, Value.int .i64 x2] w11 fun e12 w12 =>
                            ∃ b2 : Bool, e12 = .returned (Value.bool b2) ∧
                            (br b2
                              (newC w12 #[s11.v, s12.v] 25 fun ad1 w13 =>
                                Calls Try.prog 27 #[(⟨some ad1, 2, 2⟩ : Slc).v] w13 fun e13 w14 =>
                                ∃ b3 : Bool, e13 = .returned (Value.bool b3) ∧
                                (br b3
                                  (Calls Try.prog 20 #[s1.v, a0.v] w14 fun e14 w15 =>
                                    ∃ b4 : Bool, e14 = .returned (Value.bool b4) ∧
                                    (br b4
                                      (Calls Try.prog 20 #[s3.v, a1.v] w15 fun e15 w16 =>
                                        ∃ b5 : Bool, e15 = .returned (Value.bool b5) ∧
                                        (br b5
                                          (Calls Try.prog 14 #[] w16 fun e16 w17 =>
                                            ∃ b6 : Bool, e16 = .returned (Value.bool b6) ∧
                                            (R (.returned (Value.bool b6)) w17))
                                          (R (.returned (Value.bool false)) w16)))
                                      (R (.returned (Value.bool false)) w15)))
                                  (R (.returned (Value.bool false)) w14)))
                              (R (.returned (Value.bool false)) w12)))
                          (R (.returned (Value.bool false)) w11))))))))))))) :
    Calls Try.prog 10 #[a0.v, a1.v, Value.int .i64 a2] w R := by
  refine calls_of_vc (fun _ => none) (by kernel_rfl) Try.func10 rfl ?_ ?_
  · refine kcast h ?_; kernel_rfl
  · exact (obl_seq (obl_reg (obl_seq (obl_reg (obl_seq (obl_reg (obl_seq (obl_reg (obl_seq (obl_reg (obl_seq (obl_reg (obl_seq (obl_reg (obl_seq (obl_reg (obl_ret trivial)))))))))))))))))

set_option maxRecDepth 100000 in
/-- surd/mul.Low: function 36. -/
theorem mul_Low_vc (a0_a : Slc) (a1_b : Slc) (a2_k : Int) (w : World) (R : Ending → World → Prop)
    
    (h : br (decide (a2_k < 0))
    (R (.returned (Value.tuple #[(⟨none, 0, 0⟩ : Slc).v, Value.int .i64 1])) w)
    (Calls Try.prog 58 #[a0_a.v, Value.int .i64 0, Value.int .i64 (minI (IntKind.i64.wrap ((IntKind.i64.wrap (Int.tdiv a2_k 64)) + 1)) (a0_a.n : Int))] w fun e1 w1 =>
      ∃ s1 : Slc, e1 = .returned s1.v ∧
      (Calls Try.prog 58 #[a1_b.v, Value.int .i64 0, Value.int .i64 (minI (IntKind.i64.wrap ((IntKind.i64.wrap (Int.tdiv a2_k 64)) + 1)) (a1_b.n : Int))] w1 fun e2 w2 =>
        ∃ s2 : Slc, e2 = .returned s2.v ∧
        (Calls Try.prog 51 #[s1.v, s2.v, Value.int .i64 40] w2 fun e3 w3 =>
          ∃ s3 : Slc, e3 = .returned s3.v ∧
          (Calls Try.prog 56 #[s3.v] w3 fun e4 w4 =>
            ∃ s4 : Slc, e4 = .returned s4.v ∧
            (Calls Try.prog 62 #[s4.v] w4 fun e5 w5 =>
              ∃ x1 : Int, e5 = .returned (Value.int .i64 x1) ∧
              (br (decide (x1 ≤ a2_k))
                (Calls Try.prog 57 #[s4.v] w5 fun e6 w6 =>
                  ∃ s5 : Slc, ∃ x2 : Int, e6 = .returned (Value.tuple #[s5.v, Value.int .i64 x2]) ∧
                  (R (.returned (Value.tuple #[s5.v, Value.int .i64 x2])) w6))
                (semS Try.prog (Instr.sliceAt 32 s4.v none (some (Value.int .i64 (IntKind.i64.wrap ((IntKind.i64.wrap (Int.tdiv a2_k 64)) + 1)))) none) w5 fun s6 w7 =>
                  semS Try.prog (Builtin.append_ #[32, 32] 32 #[(⟨none, 0, 0⟩ : Slc).v, s6.v]) w7 fun s7 w8 =>
                  fixA Try.prog (Instr.indexAt 32 s7.v (Value.int .i64 (IntKind.i64.wrap ((IntKind.i64.wrap ((IntKind.i64.wrap (Int.tdiv a2_k 64)) + 1)) - 1)))) w8 fun ad1 =>
                  ldI .u64 ad1 w8 fun x3 =>
                  fixI Try.prog .u64 (binOp .shl 69 (Value.int .u64 1) (Value.int .i64 (Int.tmod a2_k 64))) w8 fun x4 =>
                  fixA Try.prog (Instr.indexAt 32 s7.v (Value.int .i64 (IntKind.i64.wrap ((IntKind.i64.wrap ((IntKind.i64.wrap (Int.tdiv a2_k 64)) + 1)) - 1)))) w8 fun ad2 =>
                  stC ad2 (Value.int .u64 (andI .u64 x3 (IntKind.u64.wrap (x4 - 1)))) w8.drew fun w9 =>
                  Calls Try.prog 57 #[s7.v] w9 fun e7 w10 =>
                  ∃ s8 : Slc, ∃ x5 : Int, e7 = .returned (Value.tuple #[s8.v, Value.int .i64 x5]) ∧
                  (R (.returned (Value.tuple #[s8.v, Value.int .i64 x5])) w10))))))))) :
    Calls Try.prog 36 #[a0_a.v, a1_b.v, Value.int .i64 a2_k] w R := by
  refine calls_of_vc (fun _ => none) (by kernel_rfl) Try.func36 rfl ?_ ?_
  · refine kcast h ?_; kernel_rfl
  · exact (obl_seq (obl_reg (obl_seq (obl_seq (obl_reg (obl_cond (obl_seq (obl_reg (obl_ret (obl_skip (obl_seq (obl_reg (obl_seq (obl_reg (obl_seq (obl_reg (obl_seq (obl_seq (obl_reg (obl_cond (obl_seq (obl_reg (obl_ret (obl_skip (obl_seq (obl_reg (obl_seq (obl_tail 11 (by kernel_rfl) (by kernel_rfl) (by kernel_rfl) (obl_seq (obl_reg (obl_ret trivial)))))))))))))))))))))))))))))))

def mul_High_cut (J0 : Slc → Int → Slc → Int → World → Prop) (m0 : Slc → Int → Slc → Int → World → Nat) : Nat → Option ((Act → World → Prop) × (Act → World → Nat))
  | 0 => some (fun a_ w_ => atSz a_ 98 (atS a_ 10 fun t10 => atI .u64 a_ 12 fun t12 => atS a_ 13 fun t13 => atI .i64 a_ 14 fun t14 => J0 t10 t12 t13 t14 w_), fun a_ w_ => mS a_ 10 fun t10 => mI a_ 12 fun t12 => mS a_ 13 fun t13 => mI a_ 14 fun t14 => m0 t10 t12 t13 t14 w_)
  | _ => none

set_option maxRecDepth 100000 in
/-- surd/mul.High: function 37. -/
theorem mul_High_vc (a0 : Slc) (a1 : Slc) (a2 : Int) (w : World) (R : Ending → World → Prop)
    (J0 : Slc → Int → Slc → Int → World → Prop) (m0 : Slc → Int → Slc → Int → World → Nat)
    (h : br (decide (a2 < 0))
    (R (.returned (Value.tuple #[(⟨none, 0, 0⟩ : Slc).v, Value.int .i64 1])) w)
    (Calls Try.prog 56 #[a0.v] w fun e1 w1 =>
      ∃ s1 : Slc, e1 = .returned s1.v ∧
      (Calls Try.prog 56 #[a1.v] w1 fun e2 w2 =>
        ∃ s2 : Slc, e2 = .returned s2.v ∧
        (Calls Try.prog 62 #[s1.v] w2 fun e3 w3 =>
          ∃ x1 : Int, e3 = .returned (Value.int .i64 x1) ∧
          (Calls Try.prog 62 #[s2.v] w3 fun e4 w4 =>
            ∃ x2 : Int, e4 = .returned (Value.int .i64 x2) ∧
            (br (x1 == 0)
              (R (.returned (Value.tuple #[(⟨none, 0, 0⟩ : Slc).v, Value.int .i64 0])) w4)
              (br (x2 == 0)
                (R (.returned (Value.tuple #[(⟨none, 0, 0⟩ : Slc).v, Value.int .i64 0])) w4)
                (br (decide ((IntKind.i64.wrap (x1 + x2)) ≤ a2))
                  (R (.returned (Value.tuple #[(⟨none, 0, 0⟩ : Slc).v, Value.int .i64 0])) w4)
                  (br (decide ((IntKind.i64.wrap ((IntKind.i64.wrap ((IntKind.i64.wrap (x1 + x2)) - 1)) - a2)) > 67108864))
                    (R (.returned (Value.tuple #[(⟨none, 0, 0⟩ : Slc).v, Value.int .i64 3])) w4)
                    (Calls Try.prog 51 #[s1.v, s2.v, Value.int .i64 40] w4 fun e5 w5 =>
                      ∃ s3 : Slc, e5 = .returned s3.v ∧
                      (Calls Try.prog 56 #[s3.v] w5 fun e6 w6 =>
                        ∃ s4 : Slc, e6 = .returned s4.v ∧
                        (semS Try.prog (Instr.makeSlice 32 (Value.int .i64 0) (Value.int .i64 (s4.n : Int))) w6 fun s5 w7 =>
                          J0 s4 (IntKind.u64.wrap (Int.tmod a2 64)) s5 (IntKind.i64.wrap (Int.tdiv a2 64)) w7))))))))))))
    (h0 : ∀ (t10 : Slc) (t12 : Int) (t13 : Slc) (t14 : Int) (w_ : World), J0 t10 t12 t13 t14 w_ → 
    br (decide (t14 < (t10.n : Int)))
    (semA Try.prog (Instr.indexAt 32 t10.v (Value.int .i64 t14)) w_ fun ad1 w8 =>
      ldI .u64 ad1 w8 fun x3 =>
      semI Try.prog .u64 (binOp .shr 69 (Value.int .u64 x3) (Value.int .u64 t12)) w8 fun x4 w9 =>
      br (decide ((IntKind.i64.wrap (t14 + 1)) < (t10.n : Int)))
      (br (decide (t12 > 0))
        (semA Try.prog (Instr.indexAt 32 t10.v (Value.int .i64 (IntKind.i64.wrap (t14 + 1)))) w9 fun ad2 w10 =>
          ldI .u64 ad2 w10 fun x5 =>
          semI Try.prog .u64 (binOp .shl 69 (Value.int .u64 x5) (Value.int .u64 (IntKind.u64.wrap (64 - t12)))) w10 fun x6 w11 =>
          newC w11 #[Value.int .u64 (orI .u64 x4 x6)] 69 fun ad3 w12 =>
          semS Try.prog (Builtin.append_ #[32, 32] 32 #[t13.v, (⟨some ad3, 1, 1⟩ : Slc).v]) w12 fun s6 w13 =>
          J0 t10 t12 s6 (IntKind.i64.wrap (t14 + 1)) w13 ∧
          m0 t10 t12 s6 (IntKind.i64.wrap (t14 + 1)) w13 < m0 t10 t12 t13 t14 w_)
        (newC w9 #[Value.int .u64 x4] 69 fun ad4 w14 =>
          semS Try.prog (Builtin.append_ #[32, 32] 32 #[t13.v, (⟨some ad4, 1, 1⟩ : Slc).v]) w14 fun s7 w15 =>
          J0 t10 t12 s7 (IntKind.i64.wrap (t14 + 1)) w15 ∧
          m0 t10 t12 s7 (IntKind.i64.wrap (t14 + 1)) w15 < m0 t10 t12 t13 t14 w_))
      (newC w9 #[Value.int .u64 x4] 69 fun ad5 w16 =>
        semS Try.prog (Builtin.append_ #[32, 32] 32 #[t13.v, (⟨some ad5, 1, 1⟩ : Slc).v]) w16 fun s8 w17 =>
        J0 t10 t12 s8 (IntKind.i64.wrap (t14 + 1)) w17 ∧
        m0 t10 t12 s8 (IntKind.i64.wrap (t14 + 1)) w17 < m0 t10 t12 t13 t14 w_))
    (Calls Try.prog 57 #[t13.v] w_ fun e7 w18 =>
      ∃ s9 : Slc, ∃ x7 : Int, e7 = .returned (Value.tuple #[s9.v, Value.int .i64 x7]) ∧
      (R (.returned (Value.tuple #[s9.v, Value.int .i64 x7])) w18))) :
    Calls Try.prog 37 #[a0.v, a1.v, Value.int .i64 a2] w R := by
  refine calls_of_vc (mul_High_cut J0 m0) (by kernel_rfl) Try.func37 rfl ?_ ?_
  · refine kcast h ?_; kernel_rfl
  · exact (obl_seq (obl_reg (obl_seq (obl_seq (obl_reg (obl_cond (obl_seq (obl_reg (obl_ret (obl_skip (obl_seq (obl_reg (obl_seq (obl_reg (obl_seq (obl_seq (obl_reg (obl_cond (obl_seq (obl_reg (obl_ret (obl_skip (obl_seq (obl_seq (obl_reg (obl_cond (obl_seq (obl_reg (obl_ret (obl_skip (obl_seq (obl_reg (obl_seq (obl_reg (obl_seq (obl_reg (obl_seq (obl_seq (obl_reg (obl_loop _ rfl (fun a_ w_ hL_ => (by
    obtain ⟨hz_, hd_, hL_⟩ := atSz_out hL_
    obtain ⟨t10, h10_, hL_⟩ := atS_out hL_
    obtain ⟨t12, h12_, hL_⟩ := atI_out hL_
    obtain ⟨t13, h13_, hL_⟩ := atS_out hL_
    obtain ⟨t14, h14_, hL_⟩ := atI_out hL_
    obtain ⟨g0, rfl⟩ : ∃ g, a_ = Fr 98 [(10, t10.v), (12, Value.int .u64 t12), (13, t13.v), (14, Value.int .i64 t14)] g := ⟨_, fr_of hz_ hd_ [(10, t10.v), (12, Value.int .u64 t12), (13, t13.v), (14, Value.int .i64 t14)] (sel_cons h10_ (sel_cons h12_ (sel_cons h13_ (sel_cons h14_ sel_nil))))⟩
    clear hz_ hd_ h10_ h12_ h13_ h14_
    have hJ0_ := hL_
    refine ⟨(fun _ => none), kcast (h0 t10 t12 t13 t14 w_ hJ0_) ?_, ?_⟩
    · kernel_rfl
    · exact (obl_seq (obl_seq (obl_reg (obl_cond (obl_skip (obl_exit (obl_seq (obl_blk rfl (obl_seq (obl_reg (obl_seq (obl_seq (obl_reg (obl_cond (obl_reg (obl_skip (obl_reg (obl_reg trivial)))))))))))))))))))) (obl_seq (obl_reg (obl_ret trivial)))))))))))))))))))))))))))))))))))))))))))

set_option maxRecDepth 100000 in
/-- surd/surdref02.Low: function 34. -/
theorem surdref02_Low_vc (a0_a : Slc) (a1_b : Slc) (a2_k : Int) (w : World) (R : Ending → World → Prop)
    
    (h : br (decide (a2_k < 0))
    (R (.returned (Value.tuple #[(⟨none, 0, 0⟩ : Slc).v, Value.int .i64 1])) w)
    (Calls Try.prog 42 #[a0_a.v, a1_b.v] w fun e1 w1 =>
      ∃ s1 : Slc, e1 = .returned s1.v ∧
      (Calls Try.prog 65 #[s1.v, Value.int .i64 a2_k] w1 fun e2 w2 =>
        ∃ s2 : Slc, e2 = .returned s2.v ∧
        (Calls Try.prog 48 #[s2.v] w2 fun e3 w3 =>
          ∃ s3 : Slc, ∃ x1 : Int, e3 = .returned (Value.tuple #[s3.v, Value.int .i64 x1]) ∧
          (R (.returned (Value.tuple #[s3.v, Value.int .i64 x1])) w3))))) :
    Calls Try.prog 34 #[a0_a.v, a1_b.v, Value.int .i64 a2_k] w R := by
  refine calls_of_vc (fun _ => none) (by kernel_rfl) Try.func34 rfl ?_ ?_
  · refine kcast h ?_; kernel_rfl
  · exact (obl_seq (obl_reg (obl_seq (obl_seq (obl_reg (obl_cond (obl_seq (obl_reg (obl_ret (obl_skip (obl_seq (obl_reg (obl_ret trivial)))))))))))))

set_option maxRecDepth 100000 in
/-- surd/surdref02.High: function 35. -/
theorem surdref02_High_vc (a0_a : Slc) (a1_b : Slc) (a2_k : Int) (w : World) (R : Ending → World → Prop)
    
    (h : br (decide (a2_k < 0))
    (R (.returned (Value.tuple #[(⟨none, 0, 0⟩ : Slc).v, Value.int .i64 1])) w)
    (Calls Try.prog 42 #[a0_a.v, a1_b.v] w fun e1 w1 =>
      ∃ s1 : Slc, e1 = .returned s1.v ∧
      (Calls Try.prog 66 #[s1.v, Value.int .i64 a2_k] w1 fun e2 w2 =>
        ∃ s2 : Slc, e2 = .returned s2.v ∧
        (Calls Try.prog 48 #[s2.v] w2 fun e3 w3 =>
          ∃ s3 : Slc, ∃ x1 : Int, e3 = .returned (Value.tuple #[s3.v, Value.int .i64 x1]) ∧
          (R (.returned (Value.tuple #[s3.v, Value.int .i64 x1])) w3))))) :
    Calls Try.prog 35 #[a0_a.v, a1_b.v, Value.int .i64 a2_k] w R := by
  refine calls_of_vc (fun _ => none) (by kernel_rfl) Try.func35 rfl ?_ ?_
  · refine kcast h ?_; kernel_rfl
  · exact (obl_seq (obl_reg (obl_seq (obl_seq (obl_reg (obl_cond (obl_seq (obl_reg (obl_ret (obl_skip (obl_seq (obl_reg (obl_ret trivial)))))))))))))

def surdlaw02_MulMany_cut (J0 : Slc → Slc → Slc → Slc → Slc → Int → Int → World → Prop) (m0 : Slc → Slc → Slc → Slc → Slc → Int → Int → World → Nat) (J2 : Slc → Slc → Slc → Int → Int → World → Prop) (m2 : Slc → Slc → Slc → Int → Int → World → Nat) : Nat → Option ((Act → World → Prop) × (Act → World → Nat))
  | 0 => some (fun a_ w_ => atSz a_ 89 (atS a_ 0 fun t0 => atS a_ 3 fun t3 => atS a_ 4 fun t4 => atS a_ 5 fun t5 => atS a_ 16 fun t16 => atI .i64 a_ 17 fun t17 => atI .i64 a_ 18 fun t18 => J0 t0 t3 t4 t5 t16 t17 t18 w_), fun a_ w_ => mS a_ 0 fun t0 => mS a_ 3 fun t3 => mS a_ 4 fun t4 => mS a_ 5 fun t5 => mS a_ 16 fun t16 => mI a_ 17 fun t17 => mI a_ 18 fun t18 => m0 t0 t3 t4 t5 t16 t17 t18 w_)
  | 2 => some (fun a_ w_ => atSz a_ 89 (atS a_ 3 fun t3 => atS a_ 4 fun t4 => atS a_ 63 fun t63 => atI .i64 a_ 64 fun t64 => atI .i64 a_ 65 fun t65 => J2 t3 t4 t63 t64 t65 w_), fun a_ w_ => mS a_ 3 fun t3 => mS a_ 4 fun t4 => mS a_ 63 fun t63 => mI a_ 64 fun t64 => mI a_ 65 fun t65 => m2 t3 t4 t63 t64 t65 w_)
  | _ => none

set_option maxRecDepth 100000 in
/-- surd/surdlaw02.MulMany: function 9. -/
theorem surdlaw02_MulMany_vc (a0 : Slc) (w : World) (R : Ending → World → Prop)
    (J0 : Slc → Slc → Slc → Slc → Slc → Int → Int → World → Prop) (m0 : Slc → Slc → Slc → Slc → Slc → Int → Int → World → Nat) (J2 : Slc → Slc → Slc → Int → Int → World → Prop) (m2 : Slc → Slc → Slc → Int → Int → World → Nat)
    (h : J0 a0 (⟨none, 0, 0⟩ : Slc) (⟨none, 0, 0⟩ : Slc) (⟨none, 0, 0⟩ : Slc) a0 (a0.n : Int) 0 w)
    (h0 : ∀ (t0 : Slc) (t3 : Slc) (t4 : Slc) (t5 : Slc) (t16 : Slc) (t17 : Int) (t18 : Int) (w_ : World), J0 t0 t3 t4 t5 t16 t17 t18 w_ → 
    br (decide (t18 < t17))
    (semA Try.prog (Instr.indexAt 55 t16.v (Value.int .i64 t18)) w_ fun ad1 w1 =>
      ldS ad1 w1 fun s1 =>
      Calls Try.prog 15 #[s1.v] w1 fun e1 w2 =>
      ∃ s2 : Slc, ∃ s3 : Slc, e1 = .returned (Value.tuple #[s2.v, s3.v]) ∧
      (newC w2 #[s2.v] 25 fun ad2 w3 =>
        semS Try.prog (Builtin.append_ #[55, 55] 55 #[t3.v, (⟨some ad2, 1, 1⟩ : Slc).v]) w3 fun s4 w4 =>
        newC w4 #[s3.v] 32 fun ad3 w5 =>
        semS Try.prog (Builtin.append_ #[56, 56] 56 #[t4.v, (⟨some ad3, 1, 1⟩ : Slc).v]) w5 fun s5 w6 =>
        Calls Try.prog 16 #[s1.v] w6 fun e2 w7 =>
        ∃ s6 : Slc, e2 = .returned s6.v ∧
        (newC w7 #[s6.v] 28 fun ad4 w8 =>
          semS Try.prog (Builtin.append_ #[57, 57] 57 #[t5.v, (⟨some ad4, 1, 1⟩ : Slc).v]) w8 fun s7 w9 =>
          J0 t0 s4 s5 s7 t16 t17 (IntKind.i64.wrap (t18 + 1)) w9 ∧
          m0 t0 s4 s5 s7 t16 t17 (IntKind.i64.wrap (t18 + 1)) w9 < m0 t0 t3 t4 t5 t16 t17 t18 w_)))
    (Calls Try.prog 32 #[t5.v] w_ fun e3 w10 =>
      ∃ s8 : Slc, ∃ x1 : Int, e3 = .returned (Value.tuple #[s8.v, Value.int .i64 x1]) ∧
      (Calls Try.prog 33 #[t4.v] w10 fun e4 w11 =>
        ∃ s9 : Slc, ∃ x2 : Int, e4 = .returned (Value.tuple #[s9.v, Value.int .i64 x2]) ∧
        (Calls Try.prog 19 #[s9.v, Value.int .i64 x2, s8.v, Value.int .i64 x1] w11 fun e5 w12 =>
          ∃ b1 : Bool, e5 = .returned (Value.bool b1) ∧
          (br (!b1)
            (R (.returned (Value.bool false)) w12)
            (newC w12 #[s9.v] 25 fun ad5 w13 =>
              Calls Try.prog 27 #[(⟨some ad5, 1, 1⟩ : Slc).v] w13 fun e6 w14 =>
              ∃ b2 : Bool, e6 = .returned (Value.bool b2) ∧
              (br (!b2)
                (R (.returned (Value.bool false)) w14)
                (J2 t3 t4 t0 (t0.n : Int) 0 w14))))))))
    (h2 : ∀ (t3 : Slc) (t4 : Slc) (t63 : Slc) (t64 : Int) (t65 : Int) (w_ : World), J2 t3 t4 t63 t64 t65 w_ → 
    br (decide (t65 < t64))
    (semA Try.prog (Instr.indexAt 55 t63.v (Value.int .i64 t65)) w_ fun ad6 w15 =>
      ldS ad6 w15 fun s10 =>
      semA Try.prog (Instr.indexAt 55 t3.v (Value.int .i64 t65)) w15 fun ad7 w16 =>
      ldS ad7 w16 fun s11 =>
      Calls Try.prog 20 #[s11.v, s10.v] w16 fun e7 w17 =>
      ∃ b3 : Bool, e7 = .returned (Value.bool b3) ∧
      (br (!b3)
        (R (.returned (Value.bool false)) w17)
        (semA Try.prog (Instr.indexAt 56 t4.v (Value.int .i64 t65)) w17 fun ad8 w18 =>
          ldS ad8 w18 fun s12 =>
          br ((s12.n : Int) != (s10.n : Int))
          (R (.returned (Value.bool false)) w18)
          (J2 t3 t4 t63 t64 (IntKind.i64.wrap (t65 + 1)) w18 ∧
            m2 t3 t4 t63 t64 (IntKind.i64.wrap (t65 + 1)) w18 < m2 t3 t4 t63 t64 t65 w_))))
    (Calls Try.prog 14 #[] w_ fun e8 w19 =>
      ∃ b4 : Bool, e8 = .returned (Value.bool b4) ∧
      (R (.returned (Value.bool b4)) w19))) :
    Calls Try.prog 9 #[a0.v] w R := by
  refine calls_of_vc (surdlaw02_MulMany_cut J0 m0 J2 m2) (by kernel_rfl) Try.func9 rfl ?_ ?_
  · refine kcast h ?_; kernel_rfl
  · exact (obl_seq (obl_reg (obl_seq (obl_reg (obl_seq (obl_reg (obl_seq (obl_reg (obl_seq (obl_seq (obl_reg (obl_loop _ rfl (fun a_ w_ hL_ => (by
    obtain ⟨hz_, hd_, hL_⟩ := atSz_out hL_
    obtain ⟨t0, h0_, hL_⟩ := atS_out hL_
    obtain ⟨t3, h3_, hL_⟩ := atS_out hL_
    obtain ⟨t4, h4_, hL_⟩ := atS_out hL_
    obtain ⟨t5, h5_, hL_⟩ := atS_out hL_
    obtain ⟨t16, h16_, hL_⟩ := atS_out hL_
    obtain ⟨t17, h17_, hL_⟩ := atI_out hL_
    obtain ⟨t18, h18_, hL_⟩ := atI_out hL_
    obtain ⟨g0, rfl⟩ : ∃ g, a_ = Fr 89 [(0, t0.v), (3, t3.v), (4, t4.v), (5, t5.v), (16, t16.v), (17, Value.int .i64 t17), (18, Value.int .i64 t18)] g := ⟨_, fr_of hz_ hd_ [(0, t0.v), (3, t3.v), (4, t4.v), (5, t5.v), (16, t16.v), (17, Value.int .i64 t17), (18, Value.int .i64 t18)] (sel_cons h0_ (sel_cons h3_ (sel_cons h4_ (sel_cons h5_ (sel_cons h16_ (sel_cons h17_ (sel_cons h18_ sel_nil)))))))⟩
    clear hz_ hd_ h0_ h3_ h4_ h5_ h16_ h17_ h18_
    have hJ0_ := hL_
    refine ⟨(fun _ => none), kcast (h0 t0 t3 t4 t5 t16 t17 t18 w_ hJ0_) ?_, ?_⟩
    · kernel_rfl
    · exact (obl_seq (obl_reg (obl_seq (obl_cond (obl_skip (obl_exit (obl_seq (obl_blk rfl (obl_seq (obl_reg (obl_seq (obl_reg (obl_seq (obl_reg (obl_seq (obl_reg (obl_reg (obl_reg trivial)))))))))))))))))))) (obl_seq (obl_reg (obl_seq (obl_reg (obl_seq (obl_seq (obl_reg (obl_cond (obl_seq (obl_reg (obl_ret (obl_skip (obl_seq (obl_seq (obl_reg (obl_loop _ rfl (fun a_ w_ hL_ => (by
    obtain ⟨hz_, hd_, hL_⟩ := atSz_out hL_
    obtain ⟨t3, h3_, hL_⟩ := atS_out hL_
    obtain ⟨t4, h4_, hL_⟩ := atS_out hL_
    obtain ⟨t63, h63_, hL_⟩ := atS_out hL_
    obtain ⟨t64, h64_, hL_⟩ := atI_out hL_
    obtain ⟨t65, h65_, hL_⟩ := atI_out hL_
    obtain ⟨g2, rfl⟩ : ∃ g, a_ = Fr 89 [(3, t3.v), (4, t4.v), (63, t63.v), (64, Value.int .i64 t64), (65, Value.int .i64 t65)] g := ⟨_, fr_of hz_ hd_ [(3, t3.v), (4, t4.v), (63, t63.v), (64, Value.int .i64 t64), (65, Value.int .i64 t65)] (sel_cons h3_ (sel_cons h4_ (sel_cons h63_ (sel_cons h64_ (sel_cons h65_ sel_nil)))))⟩
    clear hz_ hd_ h3_ h4_ h63_ h64_ h65_
    have hJ2_ := hL_
    refine ⟨(fun _ => none), kcast (h2 t3 t4 t63 t64 t65 w_ hJ2_) ?_, ?_⟩
    · kernel_rfl
    · exact (obl_seq (obl_reg (obl_seq (obl_cond (obl_skip (obl_exit (obl_seq (obl_blk rfl (obl_seq (obl_reg (obl_seq (obl_reg (obl_cond (obl_seq (obl_reg (obl_ret (obl_skip (obl_reg trivial)))))))))))))))))))) (obl_seq (obl_reg (obl_ret trivial)))))))))))))))))))))))))))))))

def surdref02_Product_cut (J0 : Slc → Slc → Int → Int → World → Prop) (m0 : Slc → Slc → Int → Int → World → Nat) (J2 : Slc → Slc → Int → Int → World → Prop) (m2 : Slc → Slc → Int → Int → World → Nat) : Nat → Option ((Act → World → Prop) × (Act → World → Nat))
  | 0 => some (fun a_ w_ => atSz a_ 39 (atS a_ 0 fun t0_l => atS a_ 11 fun t11 => atI .i64 a_ 12 fun t12 => atI .i64 a_ 13 fun t13 => J0 t0_l t11 t12 t13 w_), fun a_ w_ => mS a_ 0 fun t0_l => mS a_ 11 fun t11 => mI a_ 12 fun t12 => mI a_ 13 fun t13 => m0 t0_l t11 t12 t13 w_)
  | 2 => some (fun a_ w_ => atSz a_ 39 (atS a_ 6 fun t6_out => atS a_ 21 fun t21 => atI .i64 a_ 22 fun t22 => atI .i64 a_ 23 fun t23 => J2 t6_out t21 t22 t23 w_), fun a_ w_ => mS a_ 6 fun t6_out => mS a_ 21 fun t21 => mI a_ 22 fun t22 => mI a_ 23 fun t23 => m2 t6_out t21 t22 t23 w_)
  | _ => none

set_option maxRecDepth 100000 in
/-- surd/surdref02.Product: function 32. -/
theorem surdref02_Product_vc (a0_l : Slc) (w : World) (R : Ending → World → Prop)
    (J0 : Slc → Slc → Int → Int → World → Prop) (m0 : Slc → Slc → Int → Int → World → Nat) (J2 : Slc → Slc → Int → Int → World → Prop) (m2 : Slc → Slc → Int → Int → World → Nat)
    (h : J0 a0_l a0_l (a0_l.n : Int) 0 w)
    (h0 : ∀ (t0_l : Slc) (t11 : Slc) (t12 : Int) (t13 : Int) (w_ : World), J0 t0_l t11 t12 t13 w_ → 
    br (decide (t13 < t12))
    (semA Try.prog (Instr.indexAt 57 t11.v (Value.int .i64 t13)) w_ fun ad1 w1 =>
      ldS ad1 w1 fun s1 =>
      Calls Try.prog 47 #[s1.v] w1 fun e1 w2 =>
      ∃ b1 : Bool, e1 = .returned (Value.bool b1) ∧
      (br b1
        (R (.returned (Value.tuple #[(⟨none, 0, 0⟩ : Slc).v, Value.int .i64 0])) w2)
        (J0 t0_l t11 t12 (IntKind.i64.wrap (t13 + 1)) w2 ∧
          m0 t0_l t11 t12 (IntKind.i64.wrap (t13 + 1)) w2 < m0 t0_l t11 t12 t13 w_)))
    (Calls Try.prog 61 #[Value.int .i64 1] w_ fun e2 w3 =>
      ∃ s2 : Slc, e2 = .returned s2.v ∧
      (J2 s2 t0_l (t0_l.n : Int) 0 w3)))
    (h2 : ∀ (t6_out : Slc) (t21 : Slc) (t22 : Int) (t23 : Int) (w_ : World), J2 t6_out t21 t22 t23 w_ → 
    br (decide (t23 < t22))
    (semA Try.prog (Instr.indexAt 57 t21.v (Value.int .i64 t23)) w_ fun ad2 w4 =>
      ldS ad2 w4 fun s3 =>
      Calls Try.prog 17 #[t6_out.v, s3.v] w4 fun e3 w5 =>
      ∃ s4 : Slc, ∃ x1 : Int, e3 = .returned (Value.tuple #[s4.v, Value.int .i64 x1]) ∧
      (br (x1 != 0)
        (R (.returned (Value.tuple #[(⟨none, 0, 0⟩ : Slc).v, Value.int .i64 x1])) w5)
        (J2 s4 t21 t22 (IntKind.i64.wrap (t23 + 1)) w5 ∧
          m2 s4 t21 t22 (IntKind.i64.wrap (t23 + 1)) w5 < m2 t6_out t21 t22 t23 w_)))
    (R (.returned (Value.tuple #[t6_out.v, Value.int .i64 0])) w_)) :
    Calls Try.prog 32 #[a0_l.v] w R := by
  refine calls_of_vc (surdref02_Product_cut J0 m0 J2 m2) (by kernel_rfl) Try.func32 rfl ?_ ?_
  · refine kcast h ?_; kernel_rfl
  · exact (obl_seq (obl_reg (obl_seq (obl_seq (obl_reg (obl_loop _ rfl (fun a_ w_ hL_ => (by
    obtain ⟨hz_, hd_, hL_⟩ := atSz_out hL_
    obtain ⟨t0_l, h0_, hL_⟩ := atS_out hL_
    obtain ⟨t11, h11_, hL_⟩ := atS_out hL_
    obtain ⟨t12, h12_, hL_⟩ := atI_out hL_
    obtain ⟨t13, h13_, hL_⟩ := atI_out hL_
    obtain ⟨g0, rfl⟩ : ∃ g, a_ = Fr 39 [(0, t0_l.v), (11, t11.v), (12, Value.int .i64 t12), (13, Value.int .i64 t13)] g := ⟨_, fr_of hz_ hd_ [(0, t0_l.v), (11, t11.v), (12, Value.int .i64 t12), (13, Value.int .i64 t13)] (sel_cons h0_ (sel_cons h11_ (sel_cons h12_ (sel_cons h13_ sel_nil))))⟩
    clear hz_ hd_ h0_ h11_ h12_ h13_
    have hJ0_ := hL_
    refine ⟨(fun _ => none), kcast (h0 t0_l t11 t12 t13 w_ hJ0_) ?_, ?_⟩
    · kernel_rfl
    · exact (obl_seq (obl_reg (obl_seq (obl_cond (obl_skip (obl_exit (obl_seq (obl_blk rfl (obl_seq (obl_reg (obl_seq (obl_reg (obl_cond (obl_seq (obl_reg (obl_ret (obl_skip (obl_reg trivial)))))))))))))))))))) (obl_seq (obl_reg (obl_seq (obl_seq (obl_reg (obl_loop _ rfl (fun a_ w_ hL_ => (by
    obtain ⟨hz_, hd_, hL_⟩ := atSz_out hL_
    obtain ⟨t6_out, h6_, hL_⟩ := atS_out hL_
    obtain ⟨t21, h21_, hL_⟩ := atS_out hL_
    obtain ⟨t22, h22_, hL_⟩ := atI_out hL_
    obtain ⟨t23, h23_, hL_⟩ := atI_out hL_
    obtain ⟨g2, rfl⟩ : ∃ g, a_ = Fr 39 [(6, t6_out.v), (21, t21.v), (22, Value.int .i64 t22), (23, Value.int .i64 t23)] g := ⟨_, fr_of hz_ hd_ [(6, t6_out.v), (21, t21.v), (22, Value.int .i64 t22), (23, Value.int .i64 t23)] (sel_cons h6_ (sel_cons h21_ (sel_cons h22_ (sel_cons h23_ sel_nil))))⟩
    clear hz_ hd_ h6_ h21_ h22_ h23_
    have hJ2_ := hL_
    refine ⟨(fun _ => none), kcast (h2 t6_out t21 t22 t23 w_ hJ2_) ?_, ?_⟩
    · kernel_rfl
    · exact (obl_seq (obl_reg (obl_seq (obl_cond (obl_skip (obl_exit (obl_seq (obl_blk rfl (obl_seq (obl_reg (obl_seq (obl_reg (obl_seq (obl_seq (obl_reg (obl_cond (obl_seq (obl_reg (obl_ret (obl_skip (obl_reg (obl_reg trivial)))))))))))))))))))))))) (obl_seq (obl_reg (obl_ret trivial)))))))))))))))

end Go.Proofs.Ytindbeolpjkijaa
