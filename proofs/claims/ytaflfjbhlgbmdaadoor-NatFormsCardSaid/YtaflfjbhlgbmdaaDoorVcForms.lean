/- Verification conditions of some of the program's functions, printed by a program of this session. No condition. -/
import Derived.Test.YtaflfjbhlgbmdaaDoorProg
import Derived.Test.YtaflfjbhlgbmdaaDoorEng
namespace Go.Proofs.YtaflfjbhlgbmdaaDoor
open Go Go.RowKit Eng
set_option linter.unusedVariables false

set_option maxRecDepth 100000 in
/-- surd/nat.Small: function 20. -/
theorem nat_Small_vc (a0_a : Slc) (w : World) (R : Ending → World → Prop)
    
    (h : Calls Tryd.prog 24 #[a0_a.v] w fun e1 w1 =>
    ∃ s1 : Slc, e1 = .returned s1.v ∧
    (br ((s1.n : Int) == 0)
      (R (.returned (Value.tuple #[Value.int .u64 0, Value.bool true])) w1)
      (br ((s1.n : Int) == 1)
        (semA Tryd.prog (Instr.indexAt 23 s1.v (Value.int .i64 0)) w1 fun ad1 w2 =>
          ldI .u64 ad1 w2 fun x1 =>
          R (.returned (Value.tuple #[Value.int .u64 x1, Value.bool true])) w2)
        (R (.returned (Value.tuple #[Value.int .u64 0, Value.bool false])) w1)))) :
    Calls Tryd.prog 20 #[a0_a.v] w R := by
  refine calls_of_vc (fun _ => none) (by kernel_rfl) Tryd.func20 rfl ?_ ?_
  · refine kcast h ?_; kernel_rfl
  · exact (obl_seq (obl_reg (obl_seq (obl_reg (obl_seq (obl_seq (obl_reg (obl_blk rfl (obl_seq (obl_reg (obl_cond (obl_seq (obl_reg (obl_ret (obl_seq (obl_reg (obl_cond (obl_seq (obl_reg (obl_ret (obl_skip (obl_seq (obl_reg (obl_ret trivial))))))))))))))))))))))))

def surdref01_Num_Count_cut (J0 : Slc → Int → Int → World → Prop) (m0 : Slc → Int → Int → World → Nat) : Nat → Option ((Act → World → Prop) × (Act → World → Nat))
  | 0 => some (fun a_ w_ => atSz a_ 17 (atS a_ 0 fun t0_a => atI .i64 a_ 3 fun t3_n => atI .i64 a_ 4 fun t4_i => J0 t0_a t3_n t4_i w_), fun a_ w_ => mS a_ 0 fun t0_a => mI a_ 3 fun t3_n => mI a_ 4 fun t4_i => m0 t0_a t3_n t4_i w_)
  | _ => none

set_option maxRecDepth 100000 in
/-- (surd/surdref01.Num).Count: function 19. -/
theorem surdref01_Num_Count_vc (a0_a : Slc) (w : World) (R : Ending → World → Prop)
    (J0 : Slc → Int → Int → World → Prop) (m0 : Slc → Int → Int → World → Nat)
    (h : J0 a0_a 0 0 w)
    (h0 : ∀ (t0_a : Slc) (t3_n : Int) (t4_i : Int) (w_ : World), J0 t0_a t3_n t4_i w_ → 
    Calls Tryd.prog 13 #[t0_a.v] w_ fun e1 w1 =>
    ∃ x1 : Int, e1 = .returned (Value.int .i64 x1) ∧
    (br (decide (t4_i < x1))
      (Calls Tryd.prog 15 #[t0_a.v, Value.int .i64 t4_i] w1 fun e2 w2 =>
        ∃ x2 : Int, e2 = .returned (Value.int .i64 x2) ∧
        (J0 t0_a (IntKind.i64.wrap (t3_n + x2)) (IntKind.i64.wrap (t4_i + 1)) w2 ∧
          m0 t0_a (IntKind.i64.wrap (t3_n + x2)) (IntKind.i64.wrap (t4_i + 1)) w2 < m0 t0_a t3_n t4_i w_))
      (R (.returned (Value.int .i64 t3_n)) w1))) :
    Calls Tryd.prog 19 #[a0_a.v] w R := by
  refine calls_of_vc (surdref01_Num_Count_cut J0 m0) (by kernel_rfl) Tryd.func19 rfl ?_ ?_
  · refine kcast h ?_; kernel_rfl
  · exact (obl_seq (obl_reg (obl_seq (obl_reg (obl_seq (obl_seq (obl_reg (obl_loop _ rfl (fun a_ w_ hL_ => (by
    obtain ⟨hz_, hd_, hL_⟩ := atSz_out hL_
    obtain ⟨t0_a, h0_, hL_⟩ := atS_out hL_
    obtain ⟨t3_n, h3_, hL_⟩ := atI_out hL_
    obtain ⟨t4_i, h4_, hL_⟩ := atI_out hL_
    obtain ⟨g0, rfl⟩ : ∃ g, a_ = Fr 17 [(0, t0_a.v), (3, Value.int .i64 t3_n), (4, Value.int .i64 t4_i)] g := ⟨_, fr_of hz_ hd_ [(0, t0_a.v), (3, Value.int .i64 t3_n), (4, Value.int .i64 t4_i)] (sel_cons h0_ (sel_cons h3_ (sel_cons h4_ sel_nil)))⟩
    clear hz_ hd_ h0_ h3_ h4_
    have hJ0_ := hL_
    refine ⟨(fun _ => none), kcast (h0 t0_a t3_n t4_i w_ hJ0_) ?_, ?_⟩
    · kernel_rfl
    · exact (obl_seq (obl_seq (obl_reg (obl_cond (obl_skip (obl_exit (obl_seq (obl_blk rfl (obl_reg (obl_reg trivial)))))))))))) (obl_seq (obl_reg (obl_ret trivial)))))))))))

set_option maxRecDepth 100000 in
/-- surd/surdlaw01.NatForms: function 3. -/
theorem surdlaw01_NatForms_vc (a0 : Slc) (a1 : Slc) (a2 : Int) (w : World) (R : Ending → World → Prop)
    
    (h : Calls Tryd.prog 4 #[a0.v] w fun e1 w1 =>
    ∃ s1 : Slc, ∃ s2 : Slc, e1 = .returned (Value.tuple #[s1.v, s2.v]) ∧
    (Calls Tryd.prog 5 #[a0.v] w1 fun e2 w2 =>
      ∃ s3 : Slc, e2 = .returned s3.v ∧
      (Calls Tryd.prog 5 #[a1.v] w2 fun e3 w3 =>
        ∃ s4 : Slc, e3 = .returned s4.v ∧
        (Calls Tryd.prog 6 #[s2.v] w3 fun e4 w4 =>
          ∃ s5 : Slc, e4 = .returned s5.v ∧
          (Calls Tryd.prog 6 #[s2.v] w4 fun e5 w5 =>
            ∃ s6 : Slc, e5 = .returned s6.v ∧
            (Calls Tryd.prog 7 #[s3.v, s5.v] w5 fun e6 w6 =>
              ∃ b1 : Bool, e6 = .returned (Value.bool b1) ∧
              (br (!b1)
                (R (.returned (Value.bool false)) w6)
                (newC w6 #[s5.v, s6.v] 22 fun ad1 w7 =>
                  Calls Tryd.prog 8 #[(⟨some ad1, 2, 2⟩ : Slc).v] w7 fun e7 w8 =>
                  ∃ b2 : Bool, e7 = .returned (Value.bool b2) ∧
                  (br (!b2)
                    (R (.returned (Value.bool false)) w8)
                    (Calls Tryd.prog 9 #[s1.v, a0.v] w8 fun e8 w9 =>
                      ∃ b3 : Bool, e8 = .returned (Value.bool b3) ∧
                      (br (!b3)
                        (R (.returned (Value.bool false)) w9)
                        (Calls Tryd.prog 10 #[s2.v, a1.v] w9 fun e9 w10 =>
                          ∃ x1 : Int, e9 = .returned (Value.int .i64 x1) ∧
                          (Calls Tryd.prog 11 #[s3.v, s4.v] w10 fun e10 w11 =>
                            ∃ x2 : Int, e10 = .returned (Value.int .i64 x2) ∧
                            (br (x1 != x2)
                              (R (.returned (Value.bool false)) w11)
                              (Calls Tryd.prog 12 #[s2.v] w11 fun e11 w12 =>
                                ∃ x3 : Int, e11 = .returned (Value.int .i64 x3) ∧
                                (Calls Tryd.prog 13 #[s3.v] w12 fun e12 w13 =>
                                  ∃ x4 : Int, e12 = .returned (Value.int .i64 x4) ∧
                                  (br (x3 != x4)
                                    (R (.returned (Value.bool false)) w13)
                                    (Calls Tryd.prog 14 #[s2.v, Value.int .i64 a2] w13 fun e13 w14 =>
                                      ∃ x5 : Int, e13 = .returned (Value.int .i64 x5) ∧
                                      (Calls Tryd.prog 15 #[s3.v, Value.int .i64 a2] w14 fun e14 w15 =>
                                        ∃ x6 : Int, e14 = .returned (Value.int .i64 x6) ∧
                                        (br (x5 != x6)
                                          (R (.returned (Value.bool false)) w15)
                                          (Calls Tryd.prog 16 #[s2.v] w15 fun e15 w16 =>
                                            ∃ x7 : Int, e15 = .returned (Value.int .i64 x7) ∧
                                            (Calls Tryd.prog 17 #[s3.v] w16 fun e16 w17 =>
                                              ∃ x8 : Int, e16 = .returned (Value.int .i64 x8) ∧
                                              (br (x7 != x8)
                                                (R (.returned (Value.bool false)) w17)
                                                (Calls Tryd.prog 18 #[s2.v] w17 fun e17 w18 =>
                                                  ∃ x9 : Int, e17 = .returned (Value.int .i64 x9) ∧
                                                  (Calls Tryd.prog 19 #[s3.v] w18 fun e18 w19 =>
                                                    ∃ x10 : Int, e18 = .returned (Value.int .i64 x10) ∧
                                                    (br (x9 != x10)
                                                      (R (.returned (Value.bool false)) w19)
                                                      (Calls Tryd.prog 20 #[s2.v] w19 fun e19 w20 =>
                                                        ∃ x11 : Int, ∃ b4 : Bool, e19 = .returned (Value.tuple #[Value.int .u64 x11, Value.bool b4]) ∧
                                                        (Calls Tryd.prog 13 #[s3.v] w20 fun e20 w21 =>
                                                          ∃ x12 : Int, e20 = .returned (Value.int .i64 x12) ∧
                                                          (br (!(b4 == (decide (x12 ≤ 64))))
                                                            (R (.returned (Value.bool false)) w21)
                                                            (br b4
                                                              (newC w21 #[Value.int .u64 x11] 38 fun ad2 w22 =>
                                                                Calls Tryd.prog 5 #[(⟨some ad2, 1, 1⟩ : Slc).v] w22 fun e21 w23 =>
                                                                ∃ s7 : Slc, e21 = .returned s7.v ∧
                                                                (Calls Tryd.prog 6 #[a0.v] w23 fun e22 w24 =>
                                                                  ∃ s8 : Slc, e22 = .returned s8.v ∧
                                                                  (Calls Tryd.prog 7 #[s7.v, s8.v] w24 fun e23 w25 =>
                                                                    ∃ b5 : Bool, e23 = .returned (Value.bool b5) ∧
                                                                    (br (!b5)
                                                                      (R (.returned (Value.bool false)) w25)
                                                                      (br (!b4)
                                                                        (br (x11 != 0)
                                                                          (R (.returned (Value.bool false)) w25)
                                                                          (newC w25 #[Value.int .u64 (IntKind.u64.wrap a2)] 38 fun ad3 w26 =>
                                                                            Calls Tryd.prog 5 #[(⟨some ad3, 1, 1⟩ : Slc).v] w26 fun e24 w27 =>
                                                                            ∃ s9 : Slc, e24 = .returned s9.v ∧
                                                                            (Calls Tryd.prog 21 #[Value.int .u64 (IntKind.u64.wrap a2)] w27 fun e25 w28 =>
                                                                              ∃ s10 : Slc, e25 = .returned s10.v ∧
                                                                              (Calls Tryd.prog 7 #[s9.v, s10.v] w28 fun e26 w29 =>
                                                                                ∃ b6 : Bool, e26 = .returned (Value.bool b6) ∧
                                                                                (br b6
                                                                                  (Calls Tryd.prog 9 #[s1.v, a0.v] w29 fun e27 w30 =>
                                                                                    ∃ b7 : Bool, e27 = .returned (Value.bool b7) ∧
                                                                                    (br b7
                                                                                      (Calls Tryd.prog 22 #[] w30 fun e28 w31 =>
                                                                                        ∃ b8 : Bool, e28 = .returned (Value.bool b8) ∧
                                                                                        (R (.returned (Value.bool b8)) w31))
                                                                                      (R (.returned (Value.bool false)) w30)))
                                                                                  (R (.returned (Value.bool false)) w29))))))
                                                                        (newC w25 #[Value.int .u64 (IntKind.u64.wrap a2)] 38 fun ad4 w32 =>
                                                                          Calls Tryd.prog 5 #[(⟨some ad4, 1, 1⟩ : Slc).v] w32 fun e29 w33 =>
                                                                          ∃ s11 : Slc, e29 = .returned s11.v ∧
                                                                          (Calls Tryd.prog 21 #[Value.int .u64 (IntKind.u64.wrap a2)] w33 fun e30 w34 =>
                                                                            ∃ s12 : Slc, e30 = .returned s12.v ∧
                                                                            (Calls Tryd.prog 7 #[s11.v, s12.v] w34 fun e31 w35 =>
                                                                              ∃ b9 : Bool, e31 = .returned (Value.bool b9) ∧
                                                                              (br b9
                                                                                (Calls Tryd.prog 9 #[s1.v, a0.v] w35 fun e32 w36 =>
                                                                                  ∃ b10 : Bool, e32 = .returned (Value.bool b10) ∧
                                                                                  (br b10
                                                                                    (Calls Tryd.prog 22 #[] w36 fun e33 w37 =>
                                                                                      ∃ b11 : Bool, e33 = .returned (Value.bool b11) ∧
                                                                                      (R (.returned (Value.bool b11)) w37))
                                                                                    (R (.returned (Value.bool false)) w36)))
                                                                                (R (.returned (Value.bool false)) w35))))))))))
                                                              (br (!b4)
                                                                (br (x11 != 0)
                                                                  (R (.returned (Value.bool false)) w21)
                                                                  (newC w21 #[Value.int .u64 (IntKind.u64.wrap a2)] 38 fun ad5 w38 =>
                                                                    Calls Tryd.prog 5 #[(⟨some ad5, 1, 1⟩ : Slc).v] w38 fun e34 w39 =>
                                                                    ∃ s13 : Slc, e34 = .returned s13.v ∧
                                                                    (Calls Tryd.prog 21 #[Value.int .u64 (IntKind.u64.wrap a2)] w39 fun e35 w40 =>
                                                                      ∃ s14 : Slc, e35 = .returned s14.v ∧
                                                                      (Calls Tryd.prog 7 #[s13.v, s14.v] w40 fun e36 w41 =>
                                                                        ∃ b12 : Bool, e36 = .returned (Value.bool b12) ∧
                                                                        (br b12
                                                                          (Calls Tryd.prog 9 #[s1.v, a0.v] w41 fun e37 w42 =>
                                                                            ∃ b13 : Bool, e37 = .returned (Value.bool b13) ∧
                                                                            (br b13
                                                                              (Calls Tryd.prog 22 #[] w42 fun e38 w43 =>
                                                                                ∃ b14 : Bool, e38 = .returned (Value.bool b14) ∧
                                                                                (R (.returned (Value.bool b14)) w43))
                                                                              (R (.returned (Value.bool false)) w42)))
                                                                          (R (.returned (Value.bool false)) w41))))))
                                                                (newC w21 #[Value.int .u64 (IntKind.u64.wrap a2)] 38 fun ad6 w44 =>
                                                                  Calls Tryd.prog 5 #[(⟨some ad6, 1, 1⟩ : Slc).v] w44 fun e39 w45 =>
                                                                  ∃ s15 : Slc, e39 = .returned s15.v ∧
                                                                  (Calls Tryd.prog 21 #[Value.int .u64 (IntKind.u64.wrap a2)] w45 fun e40 w46 =>
                                                                    ∃ s16 : Slc, e40 = .returned s16.v ∧
                                                                    (Calls Tryd.prog 7 #[s15.v, s16.v] w46 fun e41 w47 =>
                                                                      ∃ b15 : Bool, e41 = .returned (Value.bool b15) ∧
                                                                      (br b15
                                                                        (Calls Tryd.prog 9 #[s1.v, a0.v] w47 fun e42 w48 =>
                                                                          ∃ b16 : Bool, e42 = .returned (Value.bool b16) ∧
                                                                          (br b16
                                                                            (Calls Tryd.prog 22 #[] w48 fun e43 w49 =>
                                                                              ∃ b17 : Bool, e43 = .returned (Value.bool b17) ∧
                                                                              (R (.returned (Value.bool b17)) w49))
                                                                            (R (.returned (Value.bool false)) w48)))
                                                                        (R (.returned (Value.bool false)) w47)))))))))))))))))))))))))))))))))))) :
    Calls Tryd.prog 3 #[a0.v, a1.v, Value.int .i64 a2] w R := by
  refine calls_of_vc (fun _ => none) (by kernel_rfl) Tryd.func3 rfl ?_ ?_
  · refine kcast h ?_; kernel_rfl
  · exact (obl_seq (obl_reg (obl_seq (obl_reg (obl_seq (obl_reg (obl_seq (obl_reg (obl_seq (obl_seq (obl_reg (obl_cond (obl_seq (obl_reg (obl_ret (obl_skip (obl_seq (obl_seq (obl_reg (obl_cond (obl_seq (obl_reg (obl_ret (obl_skip (obl_seq (obl_reg (obl_seq (obl_seq (obl_reg (obl_cond (obl_seq (obl_reg (obl_ret (obl_skip (obl_seq (obl_reg (obl_ret trivial)))))))))))))))))))))))))))))))))))))

end Go.Proofs.YtaflfjbhlgbmdaaDoor
