/- What the law leans on, part 6. No condition. -/
import Derived.Test.YtahbekmnphkiiaaDoorZDyadicOwn5
namespace Go.Proofs.YtahbekmnphkiiaaDoor
open Go Go.RowKit Eng L2
set_option linter.unusedVariables false
set_option maxHeartbeats 2000000
set_option maxRecDepth 100000

/-- surd/surdlaw08.DyadicOwn: function 3, its local variables as values. -/
theorem surdlaw08_DyadicOwn_v2 (a0_0 : Bool) (a0_1 : Slc) (a0_2 : Int) (a1_0 : Bool) (a1_1 : Slc) (a1_2 : Int) (a2 : Int) (w : World) (R : Ending → World → Prop)
    (J0 : Int → Slc → Int → Int → Int → Int → Int → Int → Bool → Slc → Int → Bool → Slc → Int → Bool → Slc → Int → Bool → Slc → Int → Bool → Slc → Int → Bool → Slc → Int → Bool → Slc → Int → Bool → Slc → Int → Bool → Slc → Int → World → Prop) (m0 : Int → Slc → Int → Int → Int → Int → Int → Int → World → Nat) (K10 : Int → Slc → Int → Int → Bool → Slc → Int → Bool → Slc → Int → Bool → Slc → Int → Bool → Slc → Int → Bool → Slc → Int → Bool → Slc → Int → Bool → Slc → Int → World → Prop) (K18 : Int → Int → Int → Int → Int → Bool → Slc → Int → Bool → Slc → Int → Bool → Slc → Int → Bool → Slc → Int → Bool → Slc → Int → Bool → Slc → Int → Bool → Slc → Int → Bool → Slc → Int → Bool → Slc → Int → World → Prop) (K20 : Int → Int → Int → Int → Int → Int → Int → Bool → Slc → Int → Bool → Slc → Int → Bool → Slc → Int → Bool → Slc → Int → Bool → Slc → Int → Bool → Slc → Int → Bool → Slc → Int → Bool → Slc → Int → Bool → Slc → Int → Bool → Slc → Int → World → Prop)
    (h : ∀ w1, Ext w w1 → Ahead w w1 →
    (Calls Tryd.prog 6 #[Value.agg #[Value.bool a0_0, a0_1.v, Value.int .i64 a0_2]] w1 fun e1 w2 =>
     ∃ b1 : Bool, ∃ s1 : Slc, ∃ x1 : Int, ∃ b2 : Bool, e1 = .returned (Value.tuple #[Value.agg #[Value.bool b1, s1.v, Value.int .i64 x1], Value.bool b2]) ∧ Ahead w1 w2 ∧
     (∀ w3, Ext w2 w3 → Ahead w w3 →
      (Calls Tryd.prog 6 #[Value.agg #[Value.bool a1_0, a1_1.v, Value.int .i64 a1_2]] w3 fun e2 w4 =>
       ∃ b3 : Bool, ∃ s2 : Slc, ∃ x2 : Int, ∃ b4 : Bool, e2 = .returned (Value.tuple #[Value.agg #[Value.bool b3, s2.v, Value.int .i64 x2], Value.bool b4]) ∧ Ahead w3 w4 ∧
       (br (!b2)
        (∀ w5, Ext w4 w5 → Ahead w w5 →
         (Calls Tryd.prog 8 #[] w5 fun e3 w6 =>
          ∃ b5 : Bool, e3 = .returned (Value.bool b5) ∧ Ahead w5 w6 ∧
          (R (.returned (Value.bool b5)) w6)))
        (br (!b4)
         (∀ w7, Ext w4 w7 → Ahead w w7 →
          (Calls Tryd.prog 8 #[] w7 fun e4 w8 =>
           ∃ b6 : Bool, e4 = .returned (Value.bool b6) ∧ Ahead w7 w8 ∧
           (R (.returned (Value.bool b6)) w8)))
         (∀ w9, Ext w4 w9 → Ahead w w9 →
          (Calls Tryd.prog 7 #[Value.int .i64 a2] w9 fun e5 w10 =>
           ∃ b7 : Bool, e5 = .returned (Value.bool b7) ∧ Ahead w9 w10 ∧
           (br (!b7)
            (Calls Tryd.prog 8 #[] w10 fun e6 w11 =>
             ∃ b8 : Bool, e6 = .returned (Value.bool b8) ∧ Ahead w10 w11 ∧
             (R (.returned (Value.bool b8)) w11))
            (Calls Tryd.prog 9 #[a0_1.v] w10 fun e7 w12 =>
             ∃ s3 : Slc, e7 = .returned s3.v ∧ Ahead w10 w12 ∧
             (∀ w13, Ext w12 w13 → Ahead w w13 →
              (Calls Tryd.prog 10 #[Value.agg #[Value.bool a0_0, s3.v, Value.int .i64 a0_2], Value.int .i64 a2, Value.int .i64 0] w13 fun e8 w14 =>
               ∃ b9 : Bool, ∃ s4 : Slc, ∃ x3 : Int, ∃ x4 : Int, e8 = .returned (Value.tuple #[Value.agg #[Value.bool b9, s4.v, Value.int .i64 x3], Value.int .i64 x4]) ∧ Ahead w13 w14 ∧
               (∀ w15, Ext w14 w15 → Ahead w w15 →
                (Calls Tryd.prog 12 #[Value.agg #[Value.bool a1_0, a1_1.v, Value.int .i64 a1_2]] w15 fun e9 w16 =>
                 ∃ b10 : Bool, ∃ s5 : Slc, ∃ x5 : Int, e9 = .returned (Value.agg #[Value.bool b10, s5.v, Value.int .i64 x5]) ∧ Ahead w15 w16 ∧
                 (∀ w17, Ext w16 w17 → Ahead w w17 →
                  (Calls Tryd.prog 11 #[Value.agg #[Value.bool a0_0, s3.v, Value.int .i64 a0_2], Value.agg #[Value.bool b10, s5.v, Value.int .i64 x5]] w17 fun e10 w18 =>
                   ∃ b11 : Bool, ∃ s6 : Slc, ∃ x6 : Int, ∃ x7 : Int, e10 = .returned (Value.tuple #[Value.agg #[Value.bool b11, s6.v, Value.int .i64 x6], Value.int .i64 x7]) ∧ Ahead w17 w18 ∧
                   (∀ w73, Ext w18 w73 → Ahead w w73 →
                    (K10 a2 s3 x4 x7 a0_0 a0_1 a0_2 a1_0 a1_1 a1_2 b1 s1 x1 b3 s2 x2 a0_0 s3 a0_2 b9 s4 x3 b11 s6 x6 w73))))))))))))))))))
    (h0 : ∀ (t2 : Int) (t11 : Slc) (t14 : Int) (t16 : Int) (t18 : Int) (t20 : Int) (t86 : Int) (t87 : Int) (t3_0 : Bool) (t3_1 : Slc) (t3_2 : Int) (t4_0 : Bool) (t4_1 : Slc) (t4_2 : Int) (t7_0 : Bool) (t7_1 : Slc) (t7_2 : Int) (t9_0 : Bool) (t9_1 : Slc) (t9_2 : Int) (t12_0 : Bool) (t12_1 : Slc) (t12_2 : Int) (t13_0 : Bool) (t13_1 : Slc) (t13_2 : Int) (t15_0 : Bool) (t15_1 : Slc) (t15_2 : Int) (t17_0 : Bool) (t17_1 : Slc) (t17_2 : Int) (t19_0 : Bool) (t19_1 : Slc) (t19_2 : Int) (w_ : World), Ahead w w_ → J0 t2 t11 t14 t16 t18 t20 t86 t87 t3_0 t3_1 t3_2 t4_0 t4_1 t4_2 t7_0 t7_1 t7_2 t9_0 t9_1 t9_2 t12_0 t12_1 t12_2 t13_0 t13_1 t13_2 t15_0 t15_1 t15_2 t17_0 t17_1 t17_2 t19_0 t19_1 t19_2 w_ → 
    br (decide (t87 < t86))
    (semA Tryd.prog (Instr.indexAt 22 t11.v (Value.int .i64 t87)) w_ fun ad1 w22 => w22 = w_ ∧
     (ldI .u64 ad1 w_ fun x12 =>
      semA Tryd.prog (Instr.indexAt 22 t11.v (Value.int .i64 t87)) w_ fun ad2 w23 => w23 = w_ ∧
      (stC ad2 (Value.int .u64 (xorI .u64 x12 9)) w_ fun w24 => OwnStep w w_ w24 ∧
       (J0 t2 t11 t14 t16 t18 t20 t86 (IntKind.i64.wrap (t87 + 1)) t3_0 t3_1 t3_2 t4_0 t4_1 t4_2 t7_0 t7_1 t7_2 t9_0 t9_1 t9_2 t12_0 t12_1 t12_2 t13_0 t13_1 t13_2 t15_0 t15_1 t15_2 t17_0 t17_1 t17_2 t19_0 t19_1 t19_2 w24 ∧
        m0 t2 t11 t14 t16 t18 t20 t86 (IntKind.i64.wrap (t87 + 1)) w24 < m0 t2 t11 t14 t16 t18 t20 t86 t87 w_))))
    (∀ w25, Ext w_ w25 → Ahead w w25 →
     (Calls Tryd.prog 15 #[Value.bool t3_0, t11.v] w25 fun e13 w26 =>
      ∃ b14 : Bool, ∃ s9 : Slc, e13 = .returned (Value.agg #[Value.bool b14, s9.v]) ∧ Ahead w25 w26 ∧
      (∀ w27, Ext w26 w27 → Ahead w w27 →
       (Calls Tryd.prog 14 #[Value.agg #[Value.bool b14, s9.v], Value.int .i64 t3_2] w27 fun e14 w28 =>
        ∃ b15 : Bool, ∃ s10 : Slc, ∃ x13 : Int, e14 = .returned (Value.agg #[Value.bool b15, s10.v, Value.int .i64 x13]) ∧ Ahead w27 w28 ∧
        (∀ w63, Ext w28 w63 → Ahead w w63 →
         (K18 t2 t14 t16 t18 t20 t4_0 t4_1 t4_2 t7_0 t7_1 t7_2 t9_0 t9_1 t9_2 t12_0 t12_1 t12_2 t13_0 t13_1 t13_2 t15_0 t15_1 t15_2 t17_0 t17_1 t17_2 t19_0 t19_1 t19_2 b15 s10 x13 w63)))))))
    (h3000010 : ∀ (t2 : Int) (t11 : Slc) (t14 : Int) (t16 : Int) (t3_0 : Bool) (t3_1 : Slc) (t3_2 : Int) (t4_0 : Bool) (t4_1 : Slc) (t4_2 : Int) (t7_0 : Bool) (t7_1 : Slc) (t7_2 : Int) (t9_0 : Bool) (t9_1 : Slc) (t9_2 : Int) (t12_0 : Bool) (t12_1 : Slc) (t12_2 : Int) (t13_0 : Bool) (t13_1 : Slc) (t13_2 : Int) (t15_0 : Bool) (t15_1 : Slc) (t15_2 : Int) (w_ : World), Ahead w w_ → K10 t2 t11 t14 t16 t3_0 t3_1 t3_2 t4_0 t4_1 t4_2 t7_0 t7_1 t7_2 t9_0 t9_1 t9_2 t12_0 t12_1 t12_2 t13_0 t13_1 t13_2 t15_0 t15_1 t15_2 w_ → 
    Calls Tryd.prog 10 #[Value.agg #[Value.bool t12_0, t12_1.v, Value.int .i64 t12_2], Value.int .i64 t2, Value.int .i64 0] w_ fun e11 w19 =>
    ∃ b12 : Bool, ∃ s7 : Slc, ∃ x8 : Int, ∃ x9 : Int, e11 = .returned (Value.tuple #[Value.agg #[Value.bool b12, s7.v, Value.int .i64 x8], Value.int .i64 x9]) ∧ Ahead w_ w19 ∧
    (∀ w20, Ext w19 w20 → Ahead w w20 →
     (Calls Tryd.prog 13 #[Value.agg #[Value.bool t12_0, t12_1.v, Value.int .i64 t12_2]] w20 fun e12 w21 =>
      ∃ b13 : Bool, ∃ s8 : Slc, ∃ x10 : Int, ∃ x11 : Int, e12 = .returned (Value.tuple #[Value.agg #[Value.bool b13, s8.v, Value.int .i64 x10], Value.int .i64 x11]) ∧ Ahead w20 w21 ∧
      (∀ w72, Ext w21 w72 → Ahead w w72 →
       (J0 t2 t11 t14 t16 x9 x11 (t11.n : Int) 0 t3_0 t3_1 t3_2 t4_0 t4_1 t4_2 t7_0 t7_1 t7_2 t9_0 t9_1 t9_2 t12_0 t12_1 t12_2 t13_0 t13_1 t13_2 t15_0 t15_1 t15_2 b12 s7 x8 b13 s8 x10 w72)))))
    (h3000018 : ∀ (t2 : Int) (t14 : Int) (t16 : Int) (t18 : Int) (t20 : Int) (t4_0 : Bool) (t4_1 : Slc) (t4_2 : Int) (t7_0 : Bool) (t7_1 : Slc) (t7_2 : Int) (t9_0 : Bool) (t9_1 : Slc) (t9_2 : Int) (t12_0 : Bool) (t12_1 : Slc) (t12_2 : Int) (t13_0 : Bool) (t13_1 : Slc) (t13_2 : Int) (t15_0 : Bool) (t15_1 : Slc) (t15_2 : Int) (t17_0 : Bool) (t17_1 : Slc) (t17_2 : Int) (t19_0 : Bool) (t19_1 : Slc) (t19_2 : Int) (t22_0 : Bool) (t22_1 : Slc) (t22_2 : Int) (w_ : World), Ahead w w_ → K18 t2 t14 t16 t18 t20 t4_0 t4_1 t4_2 t7_0 t7_1 t7_2 t9_0 t9_1 t9_2 t12_0 t12_1 t12_2 t13_0 t13_1 t13_2 t15_0 t15_1 t15_2 t17_0 t17_1 t17_2 t19_0 t19_1 t19_2 t22_0 t22_1 t22_2 w_ → 
    Calls Tryd.prog 10 #[Value.agg #[Value.bool t12_0, t12_1.v, Value.int .i64 t12_2], Value.int .i64 t2, Value.int .i64 0] w_ fun e15 w29 =>
    ∃ b16 : Bool, ∃ s11 : Slc, ∃ x14 : Int, ∃ x15 : Int, e15 = .returned (Value.tuple #[Value.agg #[Value.bool b16, s11.v, Value.int .i64 x14], Value.int .i64 x15]) ∧ Ahead w_ w29 ∧
    (∀ w30, Ext w29 w30 → Ahead w w30 →
     (Calls Tryd.prog 12 #[Value.agg #[Value.bool t4_0, t4_1.v, Value.int .i64 t4_2]] w30 fun e16 w31 =>
      ∃ b17 : Bool, ∃ s12 : Slc, ∃ x16 : Int, e16 = .returned (Value.agg #[Value.bool b17, s12.v, Value.int .i64 x16]) ∧ Ahead w30 w31 ∧
      (∀ w32, Ext w31 w32 → Ahead w w32 →
       (Calls Tryd.prog 11 #[Value.agg #[Value.bool t12_0, t12_1.v, Value.int .i64 t12_2], Value.agg #[Value.bool b17, s12.v, Value.int .i64 x16]] w32 fun e17 w33 =>
        ∃ b18 : Bool, ∃ s13 : Slc, ∃ x17 : Int, ∃ x18 : Int, e17 = .returned (Value.tuple #[Value.agg #[Value.bool b18, s13.v, Value.int .i64 x17], Value.int .i64 x18]) ∧ Ahead w32 w33 ∧
        (∀ w54, Ext w33 w54 → Ahead w w54 →
         (K20 t2 t14 t16 t18 t20 x15 x18 t7_0 t7_1 t7_2 t9_0 t9_1 t9_2 t12_0 t12_1 t12_2 t13_0 t13_1 t13_2 t15_0 t15_1 t15_2 t17_0 t17_1 t17_2 t19_0 t19_1 t19_2 t22_0 t22_1 t22_2 b16 s11 x14 b18 s13 x17 w54)))))))
    (h3000020 : ∀ (t2 : Int) (t14 : Int) (t16 : Int) (t18 : Int) (t20 : Int) (t24 : Int) (t26 : Int) (t7_0 : Bool) (t7_1 : Slc) (t7_2 : Int) (t9_0 : Bool) (t9_1 : Slc) (t9_2 : Int) (t12_0 : Bool) (t12_1 : Slc) (t12_2 : Int) (t13_0 : Bool) (t13_1 : Slc) (t13_2 : Int) (t15_0 : Bool) (t15_1 : Slc) (t15_2 : Int) (t17_0 : Bool) (t17_1 : Slc) (t17_2 : Int) (t19_0 : Bool) (t19_1 : Slc) (t19_2 : Int) (t22_0 : Bool) (t22_1 : Slc) (t22_2 : Int) (t23_0 : Bool) (t23_1 : Slc) (t23_2 : Int) (t25_0 : Bool) (t25_1 : Slc) (t25_2 : Int) (w_ : World), Ahead w w_ → K20 t2 t14 t16 t18 t20 t24 t26 t7_0 t7_1 t7_2 t9_0 t9_1 t9_2 t12_0 t12_1 t12_2 t13_0 t13_1 t13_2 t15_0 t15_1 t15_2 t17_0 t17_1 t17_2 t19_0 t19_1 t19_2 t22_0 t22_1 t22_2 t23_0 t23_1 t23_2 t25_0 t25_1 t25_2 w_ → 
    Calls Tryd.prog 13 #[Value.agg #[Value.bool t12_0, t12_1.v, Value.int .i64 t12_2]] w_ fun e18 w34 =>
    ∃ b19 : Bool, ∃ s14 : Slc, ∃ x19 : Int, ∃ x20 : Int, e18 = .returned (Value.tuple #[Value.agg #[Value.bool b19, s14.v, Value.int .i64 x19], Value.int .i64 x20]) ∧ Ahead w_ w34 ∧
    (∀ w35, Ext w34 w35 → Ahead w w35 →
     (Calls Tryd.prog 17 #[Value.agg #[Value.bool t7_0, t7_1.v, Value.int .i64 t7_2], Value.int .i64 t2, Value.int .i64 0] w35 fun e19 w36 =>
      ∃ b20 : Bool, ∃ s15 : Slc, ∃ x21 : Int, e19 = .returned (Value.agg #[Value.bool b20, s15.v, Value.int .i64 x21]) ∧ Ahead w35 w36 ∧
      (Calls Tryd.prog 16 #[Value.agg #[Value.bool t13_0, t13_1.v, Value.int .i64 t13_2], Value.int .i64 t14, Value.agg #[Value.bool b20, s15.v, Value.int .i64 x21], Value.int .i64 0] w36 fun e20 w37 =>
       ∃ b21 : Bool, e20 = .returned (Value.bool b21) ∧ Ahead w36 w37 ∧
       (br (!b21)
        (R (.returned (Value.bool false)) w37)
        (Calls Tryd.prog 17 #[Value.agg #[Value.bool t7_0, t7_1.v, Value.int .i64 t7_2], Value.int .i64 t2, Value.int .i64 0] w37 fun e21 w38 =>
         ∃ b22 : Bool, ∃ s16 : Slc, ∃ x22 : Int, e21 = .returned (Value.agg #[Value.bool b22, s16.v, Value.int .i64 x22]) ∧ Ahead w37 w38 ∧
         (Calls Tryd.prog 16 #[Value.agg #[Value.bool t17_0, t17_1.v, Value.int .i64 t17_2], Value.int .i64 t18, Value.agg #[Value.bool b22, s16.v, Value.int .i64 x22], Value.int .i64 0] w38 fun e22 w39 =>
          ∃ b23 : Bool, e22 = .returned (Value.bool b23) ∧ Ahead w38 w39 ∧
          (br (!b23)
           (R (.returned (Value.bool false)) w39)
           (Calls Tryd.prog 18 #[Value.agg #[Value.bool t7_0, t7_1.v, Value.int .i64 t7_2], Value.agg #[Value.bool t9_0, t9_1.v, Value.int .i64 t9_2]] w39 fun e23 w40 =>
            ∃ b24 : Bool, ∃ s17 : Slc, ∃ x23 : Int, e23 = .returned (Value.agg #[Value.bool b24, s17.v, Value.int .i64 x23]) ∧ Ahead w39 w40 ∧
            (Calls Tryd.prog 16 #[Value.agg #[Value.bool t15_0, t15_1.v, Value.int .i64 t15_2], Value.int .i64 t16, Value.agg #[Value.bool b24, s17.v, Value.int .i64 x23], Value.int .i64 0] w40 fun e24 w41 =>
             ∃ b25 : Bool, e24 = .returned (Value.bool b25) ∧ Ahead w40 w41 ∧
             (br (!b25)
              (R (.returned (Value.bool false)) w41)
              (Calls Tryd.prog 19 #[Value.agg #[Value.bool t7_0, t7_1.v, Value.int .i64 t7_2]] w41 fun e25 w42 =>
               ∃ b26 : Bool, ∃ s18 : Slc, ∃ x24 : Int, e25 = .returned (Value.agg #[Value.bool b26, s18.v, Value.int .i64 x24]) ∧ Ahead w41 w42 ∧
               (Calls Tryd.prog 16 #[Value.agg #[Value.bool t19_0, t19_1.v, Value.int .i64 t19_2], Value.int .i64 t20, Value.agg #[Value.bool b26, s18.v, Value.int .i64 x24], Value.int .i64 0] w42 fun e26 w43 =>
                ∃ b27 : Bool, e26 = .returned (Value.bool b27) ∧ Ahead w42 w43 ∧
                (br (!b27)
                 (R (.returned (Value.bool false)) w43)
                 (∀ w44, Ext w43 w44 → Ahead w w44 →
                  (Calls Tryd.prog 17 #[Value.agg #[Value.bool t22_0, t22_1.v, Value.int .i64 t22_2], Value.int .i64 t2, Value.int .i64 0] w44 fun e27 w45 =>
                   ∃ b28 : Bool, ∃ s19 : Slc, ∃ x25 : Int, e27 = .returned (Value.agg #[Value.bool b28, s19.v, Value.int .i64 x25]) ∧ Ahead w44 w45 ∧
                   (Calls Tryd.prog 16 #[Value.agg #[Value.bool t23_0, t23_1.v, Value.int .i64 t23_2], Value.int .i64 t24, Value.agg #[Value.bool b28, s19.v, Value.int .i64 x25], Value.int .i64 0] w45 fun e28 w46 =>
                    ∃ b29 : Bool, e28 = .returned (Value.bool b29) ∧ Ahead w45 w46 ∧
                    (br (!b29)
                     (R (.returned (Value.bool false)) w46)
                     (Calls Tryd.prog 18 #[Value.agg #[Value.bool t22_0, t22_1.v, Value.int .i64 t22_2], Value.agg #[Value.bool t9_0, t9_1.v, Value.int .i64 t9_2]] w46 fun e29 w47 =>
                      ∃ b30 : Bool, ∃ s20 : Slc, ∃ x26 : Int, e29 = .returned (Value.agg #[Value.bool b30, s20.v, Value.int .i64 x26]) ∧ Ahead w46 w47 ∧
                      (Calls Tryd.prog 16 #[Value.agg #[Value.bool t25_0, t25_1.v, Value.int .i64 t25_2], Value.int .i64 t26, Value.agg #[Value.bool b30, s20.v, Value.int .i64 x26], Value.int .i64 0] w47 fun e30 w48 =>
                       ∃ b31 : Bool, e30 = .returned (Value.bool b31) ∧ Ahead w47 w48 ∧
                       (br (!b31)
                        (R (.returned (Value.bool false)) w48)
                        (Calls Tryd.prog 19 #[Value.agg #[Value.bool t22_0, t22_1.v, Value.int .i64 t22_2]] w48 fun e31 w49 =>
                         ∃ b32 : Bool, ∃ s21 : Slc, ∃ x27 : Int, e31 = .returned (Value.agg #[Value.bool b32, s21.v, Value.int .i64 x27]) ∧ Ahead w48 w49 ∧
                         (Calls Tryd.prog 16 #[Value.agg #[Value.bool b19, s14.v, Value.int .i64 x19], Value.int .i64 x20, Value.agg #[Value.bool b32, s21.v, Value.int .i64 x27], Value.int .i64 0] w49 fun e32 w50 =>
                          ∃ b33 : Bool, e32 = .returned (Value.bool b33) ∧ Ahead w49 w50 ∧
                          (br (!b33)
                           (R (.returned (Value.bool false)) w50)
                           (newC w50 #[t13_1.v, t15_1.v, t17_1.v, t19_1.v, t23_1.v, t25_1.v, s14.v] 22 fun ad3 w51 =>
                            Calls Tryd.prog 20 #[(⟨some ad3, 7, 7⟩ : Slc).v] w51 fun e33 w52 =>
                            ∃ b34 : Bool, e33 = .returned (Value.bool b34) ∧ OwnStep w w51 w52 ∧
                            (br b34
                             (Calls Tryd.prog 8 #[] w52 fun e34 w53 =>
                              ∃ b35 : Bool, e34 = .returned (Value.bool b35) ∧ Ahead w52 w53 ∧
                              (R (.returned (Value.bool b35)) w53))
                             (R (.returned (Value.bool false)) w52))))))))))))))))))))))))))) :
    Calls Tryd.prog 3 #[Value.agg #[Value.bool a0_0, a0_1.v, Value.int .i64 a0_2], Value.agg #[Value.bool a1_0, a1_1.v, Value.int .i64 a1_2], Value.int .i64 a2] w (fun e_ w_ => Ahead w w_ ∧ R e_ w_) := by
  refine surdlaw08_DyadicOwn_vc a0_0 a0_1 a0_2 a1_0 a1_1 a1_2 a2 w _ (fun t2 t3 t4 t7 t9 t11 t12 t13 t14 t15 t16 t17 t18 t19 t20 t86 t87 w_ => ∃ c3_ : Nat, ∃ c4_ : Nat, ∃ c7_ : Nat, ∃ c9_ : Nat, ∃ c12_ : Nat, ∃ c13_ : Nat, ∃ c15_ : Nat, ∃ c17_ : Nat, ∃ c19_ : Nat, ∃ t3_0 : Bool, ∃ t3_1 : Slc, ∃ t3_2 : Int, ∃ t4_0 : Bool, ∃ t4_1 : Slc, ∃ t4_2 : Int, ∃ t7_0 : Bool, ∃ t7_1 : Slc, ∃ t7_2 : Int, ∃ t9_0 : Bool, ∃ t9_1 : Slc, ∃ t9_2 : Int, ∃ t12_0 : Bool, ∃ t12_1 : Slc, ∃ t12_2 : Int, ∃ t13_0 : Bool, ∃ t13_1 : Slc, ∃ t13_2 : Int, ∃ t15_0 : Bool, ∃ t15_1 : Slc, ∃ t15_2 : Int, ∃ t17_0 : Bool, ∃ t17_1 : Slc, ∃ t17_2 : Int, ∃ t19_0 : Bool, ∃ t19_1 : Slc, ∃ t19_2 : Int, t3 = ⟨c3_, 0, none⟩ ∧ Blt w_ c3_ 24 #[Value.bool t3_0, t3_1.v, Value.int .i64 t3_2] ∧ w.heap.size ≤ c3_ ∧ t4 = ⟨c4_, 0, none⟩ ∧ Blt w_ c4_ 24 #[Value.bool t4_0, t4_1.v, Value.int .i64 t4_2] ∧ w.heap.size ≤ c4_ ∧ t7 = ⟨c7_, 0, none⟩ ∧ Blt w_ c7_ 29 #[Value.bool t7_0, t7_1.v, Value.int .i64 t7_2] ∧ w.heap.size ≤ c7_ ∧ t9 = ⟨c9_, 0, none⟩ ∧ Blt w_ c9_ 29 #[Value.bool t9_0, t9_1.v, Value.int .i64 t9_2] ∧ w.heap.size ≤ c9_ ∧ t12 = ⟨c12_, 0, none⟩ ∧ Blt w_ c12_ 39 #[Value.bool t12_0, t12_1.v, Value.int .i64 t12_2] ∧ w.heap.size ≤ c12_ ∧ t13 = ⟨c13_, 0, none⟩ ∧ Blt w_ c13_ 39 #[Value.bool t13_0, t13_1.v, Value.int .i64 t13_2] ∧ w.heap.size ≤ c13_ ∧ t15 = ⟨c15_, 0, none⟩ ∧ Blt w_ c15_ 39 #[Value.bool t15_0, t15_1.v, Value.int .i64 t15_2] ∧ w.heap.size ≤ c15_ ∧ t17 = ⟨c17_, 0, none⟩ ∧ Blt w_ c17_ 39 #[Value.bool t17_0, t17_1.v, Value.int .i64 t17_2] ∧ w.heap.size ≤ c17_ ∧ t19 = ⟨c19_, 0, none⟩ ∧ Blt w_ c19_ 39 #[Value.bool t19_0, t19_1.v, Value.int .i64 t19_2] ∧ w.heap.size ≤ c19_ ∧ c3_ ≠ c4_ ∧ c3_ ≠ c7_ ∧ c3_ ≠ c9_ ∧ c3_ ≠ c12_ ∧ c3_ ≠ c13_ ∧ c3_ ≠ c15_ ∧ c3_ ≠ c17_ ∧ c3_ ≠ c19_ ∧ c4_ ≠ c7_ ∧ c4_ ≠ c9_ ∧ c4_ ≠ c12_ ∧ c4_ ≠ c13_ ∧ c4_ ≠ c15_ ∧ c4_ ≠ c17_ ∧ c4_ ≠ c19_ ∧ c7_ ≠ c9_ ∧ c7_ ≠ c12_ ∧ c7_ ≠ c13_ ∧ c7_ ≠ c15_ ∧ c7_ ≠ c17_ ∧ c7_ ≠ c19_ ∧ c9_ ≠ c12_ ∧ c9_ ≠ c13_ ∧ c9_ ≠ c15_ ∧ c9_ ≠ c17_ ∧ c9_ ≠ c19_ ∧ c12_ ≠ c13_ ∧ c12_ ≠ c15_ ∧ c12_ ≠ c17_ ∧ c12_ ≠ c19_ ∧ c13_ ≠ c15_ ∧ c13_ ≠ c17_ ∧ c13_ ≠ c19_ ∧ c15_ ≠ c17_ ∧ c15_ ≠ c19_ ∧ c17_ ≠ c19_ ∧ Ahead w w_ ∧ J0 t2 t11 t14 t16 t18 t20 t86 t87 t3_0 t3_1 t3_2 t4_0 t4_1 t4_2 t7_0 t7_1 t7_2 t9_0 t9_1 t9_2 t12_0 t12_1 t12_2 t13_0 t13_1 t13_2 t15_0 t15_1 t15_2 t17_0 t17_1 t17_2 t19_0 t19_1 t19_2 w_) (fun t2 t3 t4 t7 t9 t11 t12 t13 t14 t15 t16 t17 t18 t19 t20 t86 t87 w_ => m0 t2 t11 t14 t16 t18 t20 t86 t87 w_) (fun t2 t3 t4 t7 t9 t11 t12 t13 t14 t15 t16 w_ => ∃ c3_ : Nat, ∃ c4_ : Nat, ∃ c7_ : Nat, ∃ c9_ : Nat, ∃ c12_ : Nat, ∃ c13_ : Nat, ∃ c15_ : Nat, ∃ t3_0 : Bool, ∃ t3_1 : Slc, ∃ t3_2 : Int, ∃ t4_0 : Bool, ∃ t4_1 : Slc, ∃ t4_2 : Int, ∃ t7_0 : Bool, ∃ t7_1 : Slc, ∃ t7_2 : Int, ∃ t9_0 : Bool, ∃ t9_1 : Slc, ∃ t9_2 : Int, ∃ t12_0 : Bool, ∃ t12_1 : Slc, ∃ t12_2 : Int, ∃ t13_0 : Bool, ∃ t13_1 : Slc, ∃ t13_2 : Int, ∃ t15_0 : Bool, ∃ t15_1 : Slc, ∃ t15_2 : Int, t3 = ⟨c3_, 0, none⟩ ∧ Blt w_ c3_ 24 #[Value.bool t3_0, t3_1.v, Value.int .i64 t3_2] ∧ w.heap.size ≤ c3_ ∧ t4 = ⟨c4_, 0, none⟩ ∧ Blt w_ c4_ 24 #[Value.bool t4_0, t4_1.v, Value.int .i64 t4_2] ∧ w.heap.size ≤ c4_ ∧ t7 = ⟨c7_, 0, none⟩ ∧ Blt w_ c7_ 29 #[Value.bool t7_0, t7_1.v, Value.int .i64 t7_2] ∧ w.heap.size ≤ c7_ ∧ t9 = ⟨c9_, 0, none⟩ ∧ Blt w_ c9_ 29 #[Value.bool t9_0, t9_1.v, Value.int .i64 t9_2] ∧ w.heap.size ≤ c9_ ∧ t12 = ⟨c12_, 0, none⟩ ∧ Blt w_ c12_ 39 #[Value.bool t12_0, t12_1.v, Value.int .i64 t12_2] ∧ w.heap.size ≤ c12_ ∧ t13 = ⟨c13_, 0, none⟩ ∧ Blt w_ c13_ 39 #[Value.bool t13_0, t13_1.v, Value.int .i64 t13_2] ∧ w.heap.size ≤ c13_ ∧ t15 = ⟨c15_, 0, none⟩ ∧ Blt w_ c15_ 39 #[Value.bool t15_0, t15_1.v, Value.int .i64 t15_2] ∧ w.heap.size ≤ c15_ ∧ c3_ ≠ c4_ ∧ c3_ ≠ c7_ ∧ c3_ ≠ c9_ ∧ c3_ ≠ c12_ ∧ c3_ ≠ c13_ ∧ c3_ ≠ c15_ ∧ c4_ ≠ c7_ ∧ c4_ ≠ c9_ ∧ c4_ ≠ c12_ ∧ c4_ ≠ c13_ ∧ c4_ ≠ c15_ ∧ c7_ ≠ c9_ ∧ c7_ ≠ c12_ ∧ c7_ ≠ c13_ ∧ c7_ ≠ c15_ ∧ c9_ ≠ c12_ ∧ c9_ ≠ c13_ ∧ c9_ ≠ c15_ ∧ c12_ ≠ c13_ ∧ c12_ ≠ c15_ ∧ c13_ ≠ c15_ ∧ Ahead w w_ ∧ K10 t2 t11 t14 t16 t3_0 t3_1 t3_2 t4_0 t4_1 t4_2 t7_0 t7_1 t7_2 t9_0 t9_1 t9_2 t12_0 t12_1 t12_2 t13_0 t13_1 t13_2 t15_0 t15_1 t15_2 w_) (fun t2 t4 t7 t9 t12 t13 t14 t15 t16 t17 t18 t19 t20 t22 w_ => ∃ c4_ : Nat, ∃ c7_ : Nat, ∃ c9_ : Nat, ∃ c12_ : Nat, ∃ c13_ : Nat, ∃ c15_ : Nat, ∃ c17_ : Nat, ∃ c19_ : Nat, ∃ c22_ : Nat, ∃ t4_0 : Bool, ∃ t4_1 : Slc, ∃ t4_2 : Int, ∃ t7_0 : Bool, ∃ t7_1 : Slc, ∃ t7_2 : Int, ∃ t9_0 : Bool, ∃ t9_1 : Slc, ∃ t9_2 : Int, ∃ t12_0 : Bool, ∃ t12_1 : Slc, ∃ t12_2 : Int, ∃ t13_0 : Bool, ∃ t13_1 : Slc, ∃ t13_2 : Int, ∃ t15_0 : Bool, ∃ t15_1 : Slc, ∃ t15_2 : Int, ∃ t17_0 : Bool, ∃ t17_1 : Slc, ∃ t17_2 : Int, ∃ t19_0 : Bool, ∃ t19_1 : Slc, ∃ t19_2 : Int, ∃ t22_0 : Bool, ∃ t22_1 : Slc, ∃ t22_2 : Int, t4 = ⟨c4_, 0, none⟩ ∧ Blt w_ c4_ 24 #[Value.bool t4_0, t4_1.v, Value.int .i64 t4_2] ∧ w.heap.size ≤ c4_ ∧ t7 = ⟨c7_, 0, none⟩ ∧ Blt w_ c7_ 29 #[Value.bool t7_0, t7_1.v, Value.int .i64 t7_2] ∧ w.heap.size ≤ c7_ ∧ t9 = ⟨c9_, 0, none⟩ ∧ Blt w_ c9_ 29 #[Value.bool t9_0, t9_1.v, Value.int .i64 t9_2] ∧ w.heap.size ≤ c9_ ∧ t12 = ⟨c12_, 0, none⟩ ∧ Blt w_ c12_ 39 #[Value.bool t12_0, t12_1.v, Value.int .i64 t12_2] ∧ w.heap.size ≤ c12_ ∧ t13 = ⟨c13_, 0, none⟩ ∧ Blt w_ c13_ 39 #[Value.bool t13_0, t13_1.v, Value.int .i64 t13_2] ∧ w.heap.size ≤ c13_ ∧ t15 = ⟨c15_, 0, none⟩ ∧ Blt w_ c15_ 39 #[Value.bool t15_0, t15_1.v, Value.int .i64 t15_2] ∧ w.heap.size ≤ c15_ ∧ t17 = ⟨c17_, 0, none⟩ ∧ Blt w_ c17_ 39 #[Value.bool t17_0, t17_1.v, Value.int .i64 t17_2] ∧ w.heap.size ≤ c17_ ∧ t19 = ⟨c19_, 0, none⟩ ∧ Blt w_ c19_ 39 #[Value.bool t19_0, t19_1.v, Value.int .i64 t19_2] ∧ w.heap.size ≤ c19_ ∧ t22 = ⟨c22_, 0, none⟩ ∧ Blt w_ c22_ 29 #[Value.bool t22_0, t22_1.v, Value.int .i64 t22_2] ∧ w.heap.size ≤ c22_ ∧ c4_ ≠ c7_ ∧ c4_ ≠ c9_ ∧ c4_ ≠ c12_ ∧ c4_ ≠ c13_ ∧ c4_ ≠ c15_ ∧ c4_ ≠ c17_ ∧ c4_ ≠ c19_ ∧ c4_ ≠ c22_ ∧ c7_ ≠ c9_ ∧ c7_ ≠ c12_ ∧ c7_ ≠ c13_ ∧ c7_ ≠ c15_ ∧ c7_ ≠ c17_ ∧ c7_ ≠ c19_ ∧ c7_ ≠ c22_ ∧ c9_ ≠ c12_ ∧ c9_ ≠ c13_ ∧ c9_ ≠ c15_ ∧ c9_ ≠ c17_ ∧ c9_ ≠ c19_ ∧ c9_ ≠ c22_ ∧ c12_ ≠ c13_ ∧ c12_ ≠ c15_ ∧ c12_ ≠ c17_ ∧ c12_ ≠ c19_ ∧ c12_ ≠ c22_ ∧ c13_ ≠ c15_ ∧ c13_ ≠ c17_ ∧ c13_ ≠ c19_ ∧ c13_ ≠ c22_ ∧ c15_ ≠ c17_ ∧ c15_ ≠ c19_ ∧ c15_ ≠ c22_ ∧ c17_ ≠ c19_ ∧ c17_ ≠ c22_ ∧ c19_ ≠ c22_ ∧ Ahead w w_ ∧ K18 t2 t14 t16 t18 t20 t4_0 t4_1 t4_2 t7_0 t7_1 t7_2 t9_0 t9_1 t9_2 t12_0 t12_1 t12_2 t13_0 t13_1 t13_2 t15_0 t15_1 t15_2 t17_0 t17_1 t17_2 t19_0 t19_1 t19_2 t22_0 t22_1 t22_2 w_) (fun t2 t7 t9 t12 t13 t14 t15 t16 t17 t18 t19 t20 t22 t23 t24 t25 t26 w_ => ∃ c7_ : Nat, ∃ c9_ : Nat, ∃ c12_ : Nat, ∃ c13_ : Nat, ∃ c15_ : Nat, ∃ c17_ : Nat, ∃ c19_ : Nat, ∃ c22_ : Nat, ∃ c23_ : Nat, ∃ c25_ : Nat, ∃ t7_0 : Bool, ∃ t7_1 : Slc, ∃ t7_2 : Int, ∃ t9_0 : Bool, ∃ t9_1 : Slc, ∃ t9_2 : Int, ∃ t12_0 : Bool, ∃ t12_1 : Slc, ∃ t12_2 : Int, ∃ t13_0 : Bool, ∃ t13_1 : Slc, ∃ t13_2 : Int, ∃ t15_0 : Bool, ∃ t15_1 : Slc, ∃ t15_2 : Int, ∃ t17_0 : Bool, ∃ t17_1 : Slc, ∃ t17_2 : Int, ∃ t19_0 : Bool, ∃ t19_1 : Slc, ∃ t19_2 : Int, ∃ t22_0 : Bool, ∃ t22_1 : Slc, ∃ t22_2 : Int, ∃ t23_0 : Bool, ∃ t23_1 : Slc, ∃ t23_2 : Int, ∃ t25_0 : Bool, ∃ t25_1 : Slc, ∃ t25_2 : Int, t7 = ⟨c7_, 0, none⟩ ∧ Blt w_ c7_ 29 #[Value.bool t7_0, t7_1.v, Value.int .i64 t7_2] ∧ w.heap.size ≤ c7_ ∧ t9 = ⟨c9_, 0, none⟩ ∧ Blt w_ c9_ 29 #[Value.bool t9_0, t9_1.v, Value.int .i64 t9_2] ∧ w.heap.size ≤ c9_ ∧ t12 = ⟨c12_, 0, none⟩ ∧ Blt w_ c12_ 39 #[Value.bool t12_0, t12_1.v, Value.int .i64 t12_2] ∧ w.heap.size ≤ c12_ ∧ t13 = ⟨c13_, 0, none⟩ ∧ Blt w_ c13_ 39 #[Value.bool t13_0, t13_1.v, Value.int .i64 t13_2] ∧ w.heap.size ≤ c13_ ∧ t15 = ⟨c15_, 0, none⟩ ∧ Blt w_ c15_ 39 #[Value.bool t15_0, t15_1.v, Value.int .i64 t15_2] ∧ w.heap.size ≤ c15_ ∧ t17 = ⟨c17_, 0, none⟩ ∧ Blt w_ c17_ 39 #[Value.bool t17_0, t17_1.v, Value.int .i64 t17_2] ∧ w.heap.size ≤ c17_ ∧ t19 = ⟨c19_, 0, none⟩ ∧ Blt w_ c19_ 39 #[Value.bool t19_0, t19_1.v, Value.int .i64 t19_2] ∧ w.heap.size ≤ c19_ ∧ t22 = ⟨c22_, 0, none⟩ ∧ Blt w_ c22_ 29 #[Value.bool t22_0, t22_1.v, Value.int .i64 t22_2] ∧ w.heap.size ≤ c22_ ∧ t23 = ⟨c23_, 0, none⟩ ∧ Blt w_ c23_ 39 #[Value.bool t23_0, t23_1.v, Value.int .i64 t23_2] ∧ w.heap.size ≤ c23_ ∧ t25 = ⟨c25_, 0, none⟩ ∧ Blt w_ c25_ 39 #[Value.bool t25_0, t25_1.v, Value.int .i64 t25_2] ∧ w.heap.size ≤ c25_ ∧ c7_ ≠ c9_ ∧ c7_ ≠ c12_ ∧ c7_ ≠ c13_ ∧ c7_ ≠ c15_ ∧ c7_ ≠ c17_ ∧ c7_ ≠ c19_ ∧ c7_ ≠ c22_ ∧ c7_ ≠ c23_ ∧ c7_ ≠ c25_ ∧ c9_ ≠ c12_ ∧ c9_ ≠ c13_ ∧ c9_ ≠ c15_ ∧ c9_ ≠ c17_ ∧ c9_ ≠ c19_ ∧ c9_ ≠ c22_ ∧ c9_ ≠ c23_ ∧ c9_ ≠ c25_ ∧ c12_ ≠ c13_ ∧ c12_ ≠ c15_ ∧ c12_ ≠ c17_ ∧ c12_ ≠ c19_ ∧ c12_ ≠ c22_ ∧ c12_ ≠ c23_ ∧ c12_ ≠ c25_ ∧ c13_ ≠ c15_ ∧ c13_ ≠ c17_ ∧ c13_ ≠ c19_ ∧ c13_ ≠ c22_ ∧ c13_ ≠ c23_ ∧ c13_ ≠ c25_ ∧ c15_ ≠ c17_ ∧ c15_ ≠ c19_ ∧ c15_ ≠ c22_ ∧ c15_ ≠ c23_ ∧ c15_ ≠ c25_ ∧ c17_ ≠ c19_ ∧ c17_ ≠ c22_ ∧ c17_ ≠ c23_ ∧ c17_ ≠ c25_ ∧ c19_ ≠ c22_ ∧ c19_ ≠ c23_ ∧ c19_ ≠ c25_ ∧ c22_ ≠ c23_ ∧ c22_ ≠ c25_ ∧ c23_ ≠ c25_ ∧ Ahead w w_ ∧ K20 t2 t14 t16 t18 t20 t24 t26 t7_0 t7_1 t7_2 t9_0 t9_1 t9_2 t12_0 t12_1 t12_2 t13_0 t13_1 t13_2 t15_0 t15_1 t15_2 t17_0 t17_1 t17_2 t19_0 t19_1 t19_2 t22_0 t22_1 t22_2 t23_0 t23_1 t23_2 t25_0 t25_1 t25_2 w_) ?_ ?_ ?_ ?_ ?_
  · have A : Ahead w w := Ahead.refl w
    have X : Ext w w := Ext.refl w
    refine newC_t fun bk1 u1 hb1 ha_u1 _ B1 => ?_
    have g1 := le_eq A.size hb1
    obtain ⟨A, X⟩ := axa2 ha_u1 A X
    refine newC_t fun bk2 u2 hb2 ha_u2 _ B2 => ?_
    have g2 := le_eq A.size hb2
    have l1_2 := lt1 hb2 B1
    replace B1 := B1.ahead ha_u2
    obtain ⟨A, X⟩ := axa2 ha_u2 A X
    refine ldB_t 0 B1 rfl ?_
    refine ldS_t 1 B1 rfl ?_
    refine ldI_t 2 B1 rfl ?_
    replace h := h _ X A
    refine Calls.mono h ?_
    clear h
    rintro e1 w2 ⟨b1, s1, x1, b2, he_, ha_w2, h⟩
    refine ⟨b1, s1, x1, b2, he_, ?_⟩
    clear he_
    obtain ⟨B1, B2⟩ := ah2 ha_w2 B1 B2
    obtain ⟨A, X⟩ := axa2 ha_w2 A X
    replace X : Ext w2 w2 := Ext.refl _
    refine newC_t fun bk3 u3 hb3 ha_u3 _ B3 => ?_
    have g3 := le_eq A.size hb3
    obtain ⟨_, _⟩ := lt2 hb3 B1 B2
    obtain ⟨B1, B2⟩ := ah2 ha_u3 B1 B2
    obtain ⟨A, X⟩ := axa2 ha_u3 A X
    refine st3_t B3 rfl rfl rfl rfl fun u4 k_u4 B3 => ?_
    obtain ⟨B1, B2⟩ := up2 k_u4 B1 B2
    obtain ⟨A, X⟩ := axu2 k_u4 g3 A X
    refine ldB_t 0 B2 rfl ?_
    refine ldS_t 1 B2 rfl ?_
    refine ldI_t 2 B2 rfl ?_
    replace h := h _ X A
    refine Calls.mono h ?_
    clear h
    rintro e2 w4 ⟨b3, s2, x2, b4, he_, ha_w4, h⟩
    refine ⟨b3, s2, x2, b4, he_, ?_⟩
    clear he_
    obtain ⟨B1, B2, B3⟩ := ah3 ha_w4 B1 B2 B3
    obtain ⟨A, X⟩ := axa2 ha_w4 A X
    replace X : Ext w4 w4 := Ext.refl _
    refine newC_t fun bk4 u5 hb4 ha_u5 _ B4 => ?_
    have g4 := le_eq A.size hb4
    obtain ⟨_, _, _⟩ := lt3 hb4 B1 B2 B3
    obtain ⟨B1, B2, B3⟩ := ah3 ha_u5 B1 B2 B3
    obtain ⟨A, X⟩ := axa2 ha_u5 A X
    refine st3_t B4 rfl rfl rfl rfl fun u6 k_u6 B4 => ?_
    obtain ⟨B1, B2, B3⟩ := up3 k_u6 B1 B2 B3
    obtain ⟨A, X⟩ := axu2 k_u6 g4 A X
    refine br_map h (fun h_ => ?_) (fun h_ => ?_)
    ·clear h
     have h := h_
     clear h_
     replace h := h _ X A
     refine Calls.mono h ?_
     clear h
     rintro e3 w6 ⟨b5, he_, ha_w6, h⟩
     refine ⟨b5, he_, ?_⟩
     clear he_
     obtain ⟨B1, B2, B3, B4⟩ := ah4 ha_w6 B1 B2 B3 B4
     obtain ⟨A, X⟩ := axa2 ha_w6 A X
     replace X : Ext w6 w6 := Ext.refl _
     exact ⟨A, h⟩
    ·clear h
     have h := h_
     clear h_
     refine br_map h (fun h_ => ?_) (fun h_ => ?_)
     ·clear h
      have h := h_
      clear h_
      replace h := h _ X A
      refine Calls.mono h ?_
      clear h
      rintro e4 w8 ⟨b6, he_, ha_w8, h⟩
      refine ⟨b6, he_, ?_⟩
      clear he_
      obtain ⟨B1, B2, B3, B4⟩ := ah4 ha_w8 B1 B2 B3 B4
      obtain ⟨A, X⟩ := axa2 ha_w8 A X
      replace X : Ext w8 w8 := Ext.refl _
      exact ⟨A, h⟩
     ·clear h
      have h := h_
      clear h_
      replace h := h _ X A
      refine Calls.mono h ?_
      clear h
      rintro e5 w10 ⟨b7, he_, ha_w10, h⟩
      refine ⟨b7, he_, ?_⟩
      clear he_
      obtain ⟨B1, B2, B3, B4⟩ := ah4 ha_w10 B1 B2 B3 B4
      obtain ⟨A, X⟩ := axa2 ha_w10 A X
      replace X : Ext w10 w10 := Ext.refl _
      refine br_map h (fun h_ => ?_) (fun h_ => ?_)
      ·clear h
       have h := h_
       clear h_
       refine Calls.mono h ?_
       clear h
       rintro e6 w11 ⟨b8, he_, ha_w11, h⟩
       refine ⟨b8, he_, ?_⟩
       clear he_
       obtain ⟨B1, B2, B3, B4⟩ := ah4 ha_w11 B1 B2 B3 B4
       obtain ⟨A, X⟩ := axa2 ha_w11 A X
       replace X : Ext w11 w11 := Ext.refl _
       exact ⟨A, h⟩
      ·clear h
       have h := h_
       clear h_
       refine ldS_t 1 B1 rfl ?_
       refine Calls.mono h ?_
       clear h
       rintro e7 w12 ⟨s3, he_, ha_w12, h⟩
       refine ⟨s3, he_, ?_⟩
       clear he_
       obtain ⟨B1, B2, B3, B4⟩ := ah4 ha_w12 B1 B2 B3 B4
       obtain ⟨A, X⟩ := axa2 ha_w12 A X
       replace X : Ext w12 w12 := Ext.refl _
       refine ldB_t 0 B1 rfl ?_
       refine ldI_t 2 B1 rfl ?_
       refine newC_t fun bk5 u7 hb5 ha_u7 _ B5 => ?_
       have g5 := le_eq A.size hb5
       obtain ⟨_, _, _, _⟩ := lt4 hb5 B1 B2 B3 B4
       obtain ⟨B1, B2, B3, B4⟩ := ah4 ha_u7 B1 B2 B3 B4
       obtain ⟨A, X⟩ := axa2 ha_u7 A X
       refine st3_t B5 rfl rfl rfl rfl fun u8 k_u8 B5 => ?_
       obtain ⟨B1, B2, B3, B4⟩ := up4 k_u8 B1 B2 B3 B4
       obtain ⟨A, X⟩ := axu2 k_u8 g5 A X
       refine ldB_t 0 B5 rfl ?_
       refine ldS_t 1 B5 rfl ?_
       refine ldI_t 2 B5 rfl ?_
       replace h := h _ X A
       refine Calls.mono h ?_
       clear h
       rintro e8 w14 ⟨b9, s4, x3, x4, he_, ha_w14, h⟩
       refine ⟨b9, s4, x3, x4, he_, ?_⟩
       clear he_
       obtain ⟨B1, B2, B3, B4, B5⟩ := ah5 ha_w14 B1 B2 B3 B4 B5
       obtain ⟨A, X⟩ := axa2 ha_w14 A X
       replace X : Ext w14 w14 := Ext.refl _
       refine newC_t fun bk6 u9 hb6 ha_u9 _ B6 => ?_
       have g6 := le_eq A.size hb6
       obtain ⟨_, _, _, _, _⟩ := lt5 hb6 B1 B2 B3 B4 B5
       obtain ⟨B1, B2, B3, B4, B5⟩ := ah5 ha_u9 B1 B2 B3 B4 B5
       obtain ⟨A, X⟩ := axa2 ha_u9 A X
       refine st3_t B6 rfl rfl rfl rfl fun u10 k_u10 B6 => ?_
       obtain ⟨B1, B2, B3, B4, B5⟩ := up5 k_u10 B1 B2 B3 B4 B5
       obtain ⟨A, X⟩ := axu2 k_u10 g6 A X
       have hd_ := Sp.Ahead.drew u10
       obtain ⟨B1, B2, B3, B4, B5, B6⟩ := ah6 hd_ B1 B2 B3 B4 B5 B6
       obtain ⟨A, X⟩ := axa2 hd_ A X
       clear hd_
       have z1 := B1.lt
       have z2 := B2.lt
       have z3 := B3.lt
       have z4 := B4.lt
       have z5 := B5.lt
       have z6 := B6.lt
       let V_ : Nat → Nat → Prop := fun (q_ k : Nat) => (k < 0 ∨ u10.drew.heap.size ≤ k) ∧ 0 ≤ k
       refine ⟨V_, ?_⟩
       have Y_ : u10.drew.heap.size ≤ u10.drew.heap.size := Nat.le_refl _
       refine out_t (b := bk5) (i := 0) (by first | rfl | exact Sp.add_off) (fun hv_ => (by replace hv_ : _ ∧ _ := hv_; omega)) ?_
       refine ldB_t 0 B5 rfl ?_
       refine ldS_t 1 B5 rfl ?_
       refine ldI_t 2 B5 rfl ?_
       refine out_t (b := bk2) (i := 0) (by first | rfl | exact Sp.add_off) (fun hv_ => (by replace hv_ : _ ∧ _ := hv_; omega)) ?_
       refine ldB_t 0 B2 rfl ?_
       refine ldS_t 1 B2 rfl ?_
       refine ldI_t 2 B2 rfl ?_
       refine ⟨?_, ?_⟩
       ·replace h := h _ X A
        refine Calls.mono h ?_
        clear h
        rintro e9 w16 ⟨b10, s5, x5, he_, ha_w16, h⟩
        refine ⟨b10, s5, x5, he_, ?_⟩
        clear he_
        obtain ⟨B1, B2, B3, B4, B5, B6⟩ := ah6 ha_w16 B1 B2 B3 B4 B5 B6
        obtain ⟨A, X, Y_⟩ := axa3 ha_w16 A X Y_
        replace X : Ext w16 w16 := Ext.refl _
        refine ⟨(Bar.of_ahead ha_w16), ?_⟩
        refine ⟨?_, ?_⟩
        ·replace h := h _ X A
         refine Calls.mono h ?_
         clear h
         rintro e10 w18 ⟨b11, s6, x6, x7, he_, ha_w18, h⟩
         refine ⟨b11, s6, x6, x7, he_, ?_⟩
         clear he_
         obtain ⟨B1, B2, B3, B4, B5, B6⟩ := ah6 ha_w18 B1 B2 B3 B4 B5 B6
         obtain ⟨A, X, Y_⟩ := axa3 ha_w18 A X Y_
         replace X : Ext w18 w18 := Ext.refl _
         refine newC_t fun bk7 u11 hb7 ha_u11 _ B7 => ?_
         have g7 := le_eq A.size hb7
         obtain ⟨_, _, _, _, _, _⟩ := lt6 hb7 B1 B2 B3 B4 B5 B6
         have y7 := le_eq Y_ hb7
         obtain ⟨B1, B2, B3, B4, B5, B6⟩ := ah6 ha_u11 B1 B2 B3 B4 B5 B6
         obtain ⟨A, X, Y_⟩ := axa3 ha_u11 A X Y_
         refine bb2 ha_u11 ?_
         refine st3_t B7 rfl rfl rfl rfl fun u12 k_u12 B7 => ?_
         obtain ⟨B1, B2, B3, B4, B5, B6⟩ := up6 k_u12 B1 B2 B3 B4 B5 B6
         obtain ⟨A, X, Y_⟩ := axu3 k_u12 g7 A X Y_
         replace h := h _ X A
         refine ⟨bk1, bk2, bk3, bk4, bk5, bk6, bk7, a0_0, a0_1, a0_2, a1_0, a1_1, a1_2, b1, s1, x1, b3, s2, x2, a0_0, s3, a0_2, b9, s4, x3, b11, s6, x6, rfl, B1, g1, rfl, B2, g2, rfl, B3, g3, rfl, B4, g4, rfl, B5, g5, rfl, B6, g6, rfl, B7, g7, ?_⟩
         iterate 21 refine nd ?_
         exact ⟨A, h⟩
        ·refine newC_t fun bk18 u33 hb18 ha_u33 _ B18 => ?_
         have g18 := le_eq A.size hb18
         obtain ⟨_, _, _, _, _, _⟩ := lt6 hb18 B1 B2 B3 B4 B5 B6
         have y18 := le_eq Y_ hb18
         obtain ⟨B1, B2, B3, B4, B5, B6⟩ := ah6 ha_u33 B1 B2 B3 B4 B5 B6
         obtain ⟨A, X, Y_⟩ := axa3 ha_u33 A X Y_
         refine bb2 ha_u33 ?_
         replace h := h _ X A
         refine Calls.mono h ?_
         clear h
         rintro e41 w75 ⟨b42, s28, x35, x36, he_, ha_w75, h⟩
         refine ⟨b42, s28, x35, x36, he_, ?_⟩
         clear he_
         obtain ⟨B1, B2, B3, B4, B5, B6, B18⟩ := ah7 ha_w75 B1 B2 B3 B4 B5 B6 B18
         obtain ⟨A, X, Y_⟩ := axa3 ha_w75 A X Y_
         replace X : Ext w75 w75 := Ext.refl _
         refine st3_t B18 rfl rfl rfl rfl fun u34 k_u34 B18 => ?_
         obtain ⟨B1, B2, B3, B4, B5, B6⟩ := up6 k_u34 B1 B2 B3 B4 B5 B6
         obtain ⟨A, X, Y_⟩ := axu3 k_u34 g18 A X Y_
         replace h := h _ X A
         refine ⟨bk1, bk2, bk3, bk4, bk5, bk6, bk18, a0_0, a0_1, a0_2, a1_0, a1_1, a1_2, b1, s1, x1, b3, s2, x2, a0_0, s3, a0_2, b9, s4, x3, b42, s28, x35, rfl, B1, g1, rfl, B2, g2, rfl, B3, g3, rfl, B4, g4, rfl, B5, g5, rfl, B6, g6, rfl, B18, g18, ?_⟩
         iterate 21 refine nd ?_
         exact ⟨A, h⟩
       ·refine newC_t fun bk19 u35 hb19 ha_u35 _ B19 => ?_
        have g19 := le_eq A.size hb19
        obtain ⟨_, _, _, _, _, _⟩ := lt6 hb19 B1 B2 B3 B4 B5 B6
        have y19 := le_eq Y_ hb19
        obtain ⟨B1, B2, B3, B4, B5, B6⟩ := ah6 ha_u35 B1 B2 B3 B4 B5 B6
        obtain ⟨A, X, Y_⟩ := axa3 ha_u35 A X Y_
        refine bb2 ha_u35 ?_
        replace h := h _ X A
        refine Calls.mono h ?_
        clear h
        rintro e42 w78 ⟨b43, s29, x37, he_, ha_w78, h⟩
        refine ⟨b43, s29, x37, he_, ?_⟩
        clear he_
        obtain ⟨B1, B2, B3, B4, B5, B6, B19⟩ := ah7 ha_w78 B1 B2 B3 B4 B5 B6 B19
        obtain ⟨A, X, Y_⟩ := axa3 ha_w78 A X Y_
        replace X : Ext w78 w78 := Ext.refl _
        refine ⟨(Bar.of_ahead ha_w78), ?_⟩
        replace h := h _ X A
        refine Calls.mono h ?_
        clear h
        rintro e43 w80 ⟨b44, s30, x38, x39, he_, ha_w80, h⟩
        refine ⟨b44, s30, x38, x39, he_, ?_⟩
        clear he_
        obtain ⟨B1, B2, B3, B4, B5, B6, B19⟩ := ah7 ha_w80 B1 B2 B3 B4 B5 B6 B19
        obtain ⟨A, X, Y_⟩ := axa3 ha_w80 A X Y_
        replace X : Ext w80 w80 := Ext.refl _
        refine st3_t B19 rfl rfl rfl rfl fun u36 k_u36 B19 => ?_
        obtain ⟨B1, B2, B3, B4, B5, B6⟩ := up6 k_u36 B1 B2 B3 B4 B5 B6
        obtain ⟨A, X, Y_⟩ := axu3 k_u36 g19 A X Y_
        replace h := h _ X A
        refine ⟨bk1, bk2, bk3, bk4, bk5, bk6, bk19, a0_0, a0_1, a0_2, a1_0, a1_1, a1_2, b1, s1, x1, b3, s2, x2, a0_0, s3, a0_2, b9, s4, x3, b44, s30, x38, rfl, B1, g1, rfl, B2, g2, rfl, B3, g3, rfl, B4, g4, rfl, B5, g5, rfl, B6, g6, rfl, B19, g19, ?_⟩
        iterate 21 refine nd ?_
        exact ⟨A, h⟩
  · clear h
    intro t2 t3 t4 t7 t9 t11 t12 t13 t14 t15 t16 t17 t18 t19 t20 t86 t87 w_
    refine exE fun bk1 => exE fun bk2 => exE fun bk3 => exE fun bk4 => exE fun bk5 => exE fun bk6 => exE fun bk7 => exE fun bk8 => exE fun bk9 => exE fun t3_0 => exE fun t3_1 => exE fun t3_2 => exE fun t4_0 => exE fun t4_1 => exE fun t4_2 => exE fun t7_0 => exE fun t7_1 => exE fun t7_2 => exE fun t9_0 => exE fun t9_1 => exE fun t9_2 => exE fun t12_0 => exE fun t12_1 => exE fun t12_2 => exE fun t13_0 => exE fun t13_1 => exE fun t13_2 => exE fun t15_0 => exE fun t15_1 => exE fun t15_2 => exE fun t17_0 => exE fun t17_1 => exE fun t17_2 => exE fun t19_0 => exE fun t19_1 => exE fun t19_2 => anE fun e_0 => anE fun B1 => anE fun g1 => anE fun e_1 => anE fun B2 => anE fun g2 => anE fun e_2 => anE fun B3 => anE fun g3 => anE fun e_3 => anE fun B4 => anE fun g4 => anE fun e_4 => anE fun B5 => anE fun g5 => anE fun e_5 => anE fun B6 => anE fun g6 => anE fun e_6 => anE fun B7 => anE fun g7 => anE fun e_7 => anE fun B8 => anE fun g8 => anE fun e_8 => anE fun B9 => anE fun g9 => anE fun n1_2 => anE fun n1_3 => anE fun n1_4 => anE fun n1_5 => anE fun n1_6 => anE fun n1_7 => anE fun n1_8 => anE fun n1_9 => anE fun n2_3 => anE fun n2_4 => anE fun n2_5 => anE fun n2_6 => anE fun n2_7 => anE fun n2_8 => anE fun n2_9 => anE fun n3_4 => anE fun n3_5 => anE fun n3_6 => anE fun n3_7 => anE fun n3_8 => anE fun n3_9 => anE fun n4_5 => anE fun n4_6 => anE fun n4_7 => anE fun n4_8 => anE fun n4_9 => anE fun n5_6 => anE fun n5_7 => anE fun n5_8 => anE fun n5_9 => anE fun n6_7 => anE fun n6_8 => anE fun n6_9 => anE fun n7_8 => anE fun n7_9 => anE fun n8_9 => anE fun A => fun hJ0 => ?_
    subst e_0
    subst e_1
    subst e_2
    subst e_3
    subst e_4
    subst e_5
    subst e_6
    subst e_7
    subst e_8
    have h := h0  t2 t11 t14 t16 t18 t20 t86 t87 t3_0 t3_1 t3_2 t4_0 t4_1 t4_2 t7_0 t7_1 t7_2 t9_0 t9_1 t9_2 t12_0 t12_1 t12_2 t13_0 t13_1 t13_2 t15_0 t15_1 t15_2 t17_0 t17_1 t17_2 t19_0 t19_1 t19_2 w_ A hJ0
    have X : Ext w_ w_ := Ext.refl _
    refine br_map h (fun h_ => ?_) (fun h_ => ?_)
    ·clear h
     have h := h_
     clear h_
     refine semA_map h ?_
     clear h
     rintro ad1 _ ⟨rfl, h⟩
     obtain ⟨x12, hc_, h⟩ := h
     refine ⟨x12, hc_, ?_⟩
     clear hc_
     refine semA_map h ?_
     clear h
     rintro ad2 _ ⟨rfl, h⟩
     refine stC_map h ?_
     clear h
     rintro w24 ⟨⟨V_, ha_w24, hV_⟩, h⟩
     replace B1 := B1.bar ha_w24 (fun hv_ => (hV_ _ hv_).2 _ _ B1 rfl)
     replace B2 := B2.bar ha_w24 (fun hv_ => (hV_ _ hv_).2 _ _ B2 rfl)
     replace B3 := B3.bar ha_w24 (fun hv_ => (hV_ _ hv_).2 _ _ B3 rfl)
     replace B4 := B4.bar ha_w24 (fun hv_ => (hV_ _ hv_).2 _ _ B4 rfl)
     replace B5 := B5.bar ha_w24 (fun hv_ => (hV_ _ hv_).2 _ _ B5 rfl)
     replace B6 := B6.bar ha_w24 (fun hv_ => (hV_ _ hv_).2 _ _ B6 rfl)
     replace B7 := B7.bar ha_w24 (fun hv_ => (hV_ _ hv_).2 _ _ B7 rfl)
     replace B8 := B8.bar ha_w24 (fun hv_ => (hV_ _ hv_).2 _ _ B8 rfl)
     replace B9 := B9.bar ha_w24 (fun hv_ => (hV_ _ hv_).2 _ _ B9 rfl)
     replace A := bar_ahead2 A ha_w24 (fun _ hv_ => (hV_ _ hv_).1)
     replace X : Ext w24 w24 := Ext.refl _
     refine ⟨?_, h.2⟩
     refine ⟨bk1, bk2, bk3, bk4, bk5, bk6, bk7, bk8, bk9, t3_0, t3_1, t3_2, t4_0, t4_1, t4_2, t7_0, t7_1, t7_2, t9_0, t9_1, t9_2, t12_0, t12_1, t12_2, t13_0, t13_1, t13_2, t15_0, t15_1, t15_2, t17_0, t17_1, t17_2, t19_0, t19_1, t19_2, rfl, B1, g1, rfl, B2, g2, rfl, B3, g3, rfl, B4, g4, rfl, B5, g5, rfl, B6, g6, rfl, B7, g7, rfl, B8, g8, rfl, B9, g9, ?_⟩
     iterate 36 refine nd ?_
     exact ⟨A, h.1⟩
    ·clear h
     have h := h_
     clear h_
     have hd_ := Sp.Ahead.drew w_
     obtain ⟨B1, B2, B3, B4, B5, B6, B7, B8⟩ := ah8 hd_ B1 B2 B3 B4 B5 B6 B7 B8
     replace B9 := B9.ahead hd_
     obtain ⟨A, X⟩ := axa2 hd_ A X
     clear hd_
     refine ldB_t 0 B1 rfl ?_
     refine ldI_t 2 B1 rfl ?_
     refine ⟨?_, ?_⟩
     ·replace h := h _ X A
      refine Calls.mono h ?_
      clear h
      rintro e13 w26 ⟨b14, s9, he_, ha_w26, h⟩
      refine ⟨b14, s9, he_, ?_⟩
      clear he_
      obtain ⟨B1, B2, B3, B4, B5, B6, B7, B8⟩ := ah8 ha_w26 B1 B2 B3 B4 B5 B6 B7 B8
      replace B9 := B9.ahead ha_w26
      obtain ⟨A, X⟩ := axa2 ha_w26 A X
      replace X : Ext w26 w26 := Ext.refl _
      refine ⟨ha_w26, ?_⟩
      refine ⟨?_, ?_⟩
      ·replace h := h _ X A
       refine Calls.mono h ?_
       clear h
       rintro e14 w28 ⟨b15, s10, x13, he_, ha_w28, h⟩
       refine ⟨b15, s10, x13, he_, ?_⟩
       clear he_
       obtain ⟨B1, B2, B3, B4, B5, B6, B7, B8⟩ := ah8 ha_w28 B1 B2 B3 B4 B5 B6 B7 B8
       replace B9 := B9.ahead ha_w28
       obtain ⟨A, X⟩ := axa2 ha_w28 A X
       replace X : Ext w28 w28 := Ext.refl _
       refine ⟨ha_w28, ?_⟩
       refine newC_t fun bk10 u17 hb10 ha_u17 _ B10 => ?_
       have g10 := le_eq A.size hb10
       obtain ⟨_, _, _, _, _, _, _, _⟩ := lt8 hb10 B1 B2 B3 B4 B5 B6 B7 B8
       have l9_10 := lt1 hb10 B9
       obtain ⟨B1, B2, B3, B4, B5, B6, B7, B8⟩ := ah8 ha_u17 B1 B2 B3 B4 B5 B6 B7 B8
       replace B9 := B9.ahead ha_u17
       obtain ⟨A, X⟩ := axa2 ha_u17 A X
       refine ⟨ha_u17, ?_⟩
       refine st3_t B10 rfl rfl rfl rfl fun u18 k_u18 B10 => ?_
       obtain ⟨B1, B2, B3, B4, B5, B6, B7, B8⟩ := up8 k_u18 B1 B2 B3 B4 B5 B6 B7 B8
       replace B9 := up1 k_u18 B9
       obtain ⟨A, X⟩ := axu2 k_u18 g10 A X
       replace h := h _ X A
       refine ⟨bk2, bk3, bk4, bk5, bk6, bk7, bk8, bk9, bk10, t4_0, t4_1, t4_2, t7_0, t7_1, t7_2, t9_0, t9_1, t9_2, t12_0, t12_1, t12_2, t13_0, t13_1, t13_2, t15_0, t15_1, t15_2, t17_0, t17_1, t17_2, t19_0, t19_1, t19_2, b15, s10, x13, rfl, B2, g2, rfl, B3, g3, rfl, B4, g4, rfl, B5, g5, rfl, B6, g6, rfl, B7, g7, rfl, B8, g8, rfl, B9, g9, rfl, B10, g10, ?_⟩
       iterate 36 refine nd ?_
       exact ⟨A, h⟩
      ·refine newC_t fun bk16 u29 hb16 ha_u29 _ B16 => ?_
       have g16 := le_eq A.size hb16
       obtain ⟨_, _, _, _, _, _, _, _⟩ := lt8 hb16 B1 B2 B3 B4 B5 B6 B7 B8
       have l9_16 := lt1 hb16 B9
       obtain ⟨B1, B2, B3, B4, B5, B6, B7, B8⟩ := ah8 ha_u29 B1 B2 B3 B4 B5 B6 B7 B8
       replace B9 := B9.ahead ha_u29
       obtain ⟨A, X⟩ := axa2 ha_u29 A X
       refine ⟨ha_u29, ?_⟩
       replace h := h _ X A
       refine Calls.mono h ?_
       clear h
       rintro e38 w65 ⟨b39, s25, x33, he_, ha_w65, h⟩
       refine ⟨b39, s25, x33, he_, ?_⟩
       clear he_
       obtain ⟨B1, B2, B3, B4, B5, B6, B7, B8⟩ := ah8 ha_w65 B1 B2 B3 B4 B5 B6 B7 B8
       obtain ⟨B9, B16⟩ := ah2 ha_w65 B9 B16
       obtain ⟨A, X⟩ := axa2 ha_w65 A X
       replace X : Ext w65 w65 := Ext.refl _
       refine ⟨ha_w65, ?_⟩
       refine st3_t B16 rfl rfl rfl rfl fun u30 k_u30 B16 => ?_
       obtain ⟨B1, B2, B3, B4, B5, B6, B7, B8⟩ := up8 k_u30 B1 B2 B3 B4 B5 B6 B7 B8
       replace B9 := up1 k_u30 B9
       obtain ⟨A, X⟩ := axu2 k_u30 g16 A X
       replace h := h _ X A
       refine ⟨bk2, bk3, bk4, bk5, bk6, bk7, bk8, bk9, bk16, t4_0, t4_1, t4_2, t7_0, t7_1, t7_2, t9_0, t9_1, t9_2, t12_0, t12_1, t12_2, t13_0, t13_1, t13_2, t15_0, t15_1, t15_2, t17_0, t17_1, t17_2, t19_0, t19_1, t19_2, b39, s25, x33, rfl, B2, g2, rfl, B3, g3, rfl, B4, g4, rfl, B5, g5, rfl, B6, g6, rfl, B7, g7, rfl, B8, g8, rfl, B9, g9, rfl, B16, g16, ?_⟩
       iterate 36 refine nd ?_
       exact ⟨A, h⟩
     ·refine newC_t fun bk17 u31 hb17 ha_u31 _ B17 => ?_
      have g17 := le_eq A.size hb17
      obtain ⟨_, _, _, _, _, _, _, _⟩ := lt8 hb17 B1 B2 B3 B4 B5 B6 B7 B8
      have l9_17 := lt1 hb17 B9
      obtain ⟨B1, B2, B3, B4, B5, B6, B7, B8⟩ := ah8 ha_u31 B1 B2 B3 B4 B5 B6 B7 B8
      replace B9 := B9.ahead ha_u31
      obtain ⟨A, X⟩ := axa2 ha_u31 A X
      refine ⟨ha_u31, ?_⟩
      replace h := h _ X A
      refine Calls.mono h ?_
      clear h
      rintro e39 w68 ⟨b40, s26, he_, ha_w68, h⟩
      refine ⟨b40, s26, he_, ?_⟩
      clear he_
      obtain ⟨B1, B2, B3, B4, B5, B6, B7, B8⟩ := ah8 ha_w68 B1 B2 B3 B4 B5 B6 B7 B8
      obtain ⟨B9, B17⟩ := ah2 ha_w68 B9 B17
      obtain ⟨A, X⟩ := axa2 ha_w68 A X
      replace X : Ext w68 w68 := Ext.refl _
      refine ⟨ha_w68, ?_⟩
      replace h := h _ X A
      refine Calls.mono h ?_
      clear h
      rintro e40 w70 ⟨b41, s27, x34, he_, ha_w70, h⟩
      refine ⟨b41, s27, x34, he_, ?_⟩
      clear he_
      obtain ⟨B1, B2, B3, B4, B5, B6, B7, B8⟩ := ah8 ha_w70 B1 B2 B3 B4 B5 B6 B7 B8
      obtain ⟨B9, B17⟩ := ah2 ha_w70 B9 B17
      obtain ⟨A, X⟩ := axa2 ha_w70 A X
      replace X : Ext w70 w70 := Ext.refl _
      refine ⟨ha_w70, ?_⟩
      refine st3_t B17 rfl rfl rfl rfl fun u32 k_u32 B17 => ?_
      obtain ⟨B1, B2, B3, B4, B5, B6, B7, B8⟩ := up8 k_u32 B1 B2 B3 B4 B5 B6 B7 B8
      replace B9 := up1 k_u32 B9
      obtain ⟨A, X⟩ := axu2 k_u32 g17 A X
      replace h := h _ X A
      refine ⟨bk2, bk3, bk4, bk5, bk6, bk7, bk8, bk9, bk17, t4_0, t4_1, t4_2, t7_0, t7_1, t7_2, t9_0, t9_1, t9_2, t12_0, t12_1, t12_2, t13_0, t13_1, t13_2, t15_0, t15_1, t15_2, t17_0, t17_1, t17_2, t19_0, t19_1, t19_2, b41, s27, x34, rfl, B2, g2, rfl, B3, g3, rfl, B4, g4, rfl, B5, g5, rfl, B6, g6, rfl, B7, g7, rfl, B8, g8, rfl, B9, g9, rfl, B17, g17, ?_⟩
      iterate 36 refine nd ?_
      exact ⟨A, h⟩
  · clear h
    intro t2 t3 t4 t7 t9 t11 t12 t13 t14 t15 t16 w_
    refine exE fun bk1 => exE fun bk2 => exE fun bk3 => exE fun bk4 => exE fun bk5 => exE fun bk6 => exE fun bk7 => exE fun t3_0 => exE fun t3_1 => exE fun t3_2 => exE fun t4_0 => exE fun t4_1 => exE fun t4_2 => exE fun t7_0 => exE fun t7_1 => exE fun t7_2 => exE fun t9_0 => exE fun t9_1 => exE fun t9_2 => exE fun t12_0 => exE fun t12_1 => exE fun t12_2 => exE fun t13_0 => exE fun t13_1 => exE fun t13_2 => exE fun t15_0 => exE fun t15_1 => exE fun t15_2 => anE fun e_0 => anE fun B1 => anE fun g1 => anE fun e_1 => anE fun B2 => anE fun g2 => anE fun e_2 => anE fun B3 => anE fun g3 => anE fun e_3 => anE fun B4 => anE fun g4 => anE fun e_4 => anE fun B5 => anE fun g5 => anE fun e_5 => anE fun B6 => anE fun g6 => anE fun e_6 => anE fun B7 => anE fun g7 => anE fun n1_2 => anE fun n1_3 => anE fun n1_4 => anE fun n1_5 => anE fun n1_6 => anE fun n1_7 => anE fun n2_3 => anE fun n2_4 => anE fun n2_5 => anE fun n2_6 => anE fun n2_7 => anE fun n3_4 => anE fun n3_5 => anE fun n3_6 => anE fun n3_7 => anE fun n4_5 => anE fun n4_6 => anE fun n4_7 => anE fun n5_6 => anE fun n5_7 => anE fun n6_7 => anE fun A => fun hJ3000010 => ?_
    subst e_0
    subst e_1
    subst e_2
    subst e_3
    subst e_4
    subst e_5
    subst e_6
    have h := h3000010  t2 t11 t14 t16 t3_0 t3_1 t3_2 t4_0 t4_1 t4_2 t7_0 t7_1 t7_2 t9_0 t9_1 t9_2 t12_0 t12_1 t12_2 t13_0 t13_1 t13_2 t15_0 t15_1 t15_2 w_ A hJ3000010
    have X : Ext w_ w_ := Ext.refl _
    refine ldB_t 0 B5 rfl ?_
    refine ldS_t 1 B5 rfl ?_
    refine ldI_t 2 B5 rfl ?_
    refine Calls.mono h ?_
    clear h
    rintro e11 w19 ⟨b12, s7, x8, x9, he_, ha_w19, h⟩
    refine ⟨b12, s7, x8, x9, he_, ?_⟩
    clear he_
    obtain ⟨B1, B2, B3, B4, B5, B6, B7⟩ := ah7 ha_w19 B1 B2 B3 B4 B5 B6 B7
    obtain ⟨A, X⟩ := axa2 ha_w19 A X
    replace X : Ext w19 w19 := Ext.refl _
    refine newC_t fun bk8 u13 hb8 ha_u13 _ B8 => ?_
    have g8 := le_eq A.size hb8
    obtain ⟨_, _, _, _, _, _, _⟩ := lt7 hb8 B1 B2 B3 B4 B5 B6 B7
    obtain ⟨B1, B2, B3, B4, B5, B6, B7⟩ := ah7 ha_u13 B1 B2 B3 B4 B5 B6 B7
    obtain ⟨A, X⟩ := axa2 ha_u13 A X
    refine st3_t B8 rfl rfl rfl rfl fun u14 k_u14 B8 => ?_
    obtain ⟨B1, B2, B3, B4, B5, B6, B7⟩ := up7 k_u14 B1 B2 B3 B4 B5 B6 B7
    obtain ⟨A, X⟩ := axu2 k_u14 g8 A X
    refine ldB_t 0 B5 rfl ?_
    refine ldS_t 1 B5 rfl ?_
    refine ldI_t 2 B5 rfl ?_
    replace h := h _ X A
    refine Calls.mono h ?_
    clear h
    rintro e12 w21 ⟨b13, s8, x10, x11, he_, ha_w21, h⟩
    refine ⟨b13, s8, x10, x11, he_, ?_⟩
    clear he_
    obtain ⟨B1, B2, B3, B4, B5, B6, B7, B8⟩ := ah8 ha_w21 B1 B2 B3 B4 B5 B6 B7 B8
    obtain ⟨A, X⟩ := axa2 ha_w21 A X
    replace X : Ext w21 w21 := Ext.refl _
    refine newC_t fun bk9 u15 hb9 ha_u15 _ B9 => ?_
    have g9 := le_eq A.size hb9
    obtain ⟨_, _, _, _, _, _, _, _⟩ := lt8 hb9 B1 B2 B3 B4 B5 B6 B7 B8
    obtain ⟨B1, B2, B3, B4, B5, B6, B7, B8⟩ := ah8 ha_u15 B1 B2 B3 B4 B5 B6 B7 B8
    obtain ⟨A, X⟩ := axa2 ha_u15 A X
    refine st3_t B9 rfl rfl rfl rfl fun u16 k_u16 B9 => ?_
    obtain ⟨B1, B2, B3, B4, B5, B6, B7, B8⟩ := up8 k_u16 B1 B2 B3 B4 B5 B6 B7 B8
    obtain ⟨A, X⟩ := axu2 k_u16 g9 A X
    replace h := h _ X A
    refine ⟨bk1, bk2, bk3, bk4, bk5, bk6, bk7, bk8, bk9, t3_0, t3_1, t3_2, t4_0, t4_1, t4_2, t7_0, t7_1, t7_2, t9_0, t9_1, t9_2, t12_0, t12_1, t12_2, t13_0, t13_1, t13_2, t15_0, t15_1, t15_2, b12, s7, x8, b13, s8, x10, rfl, B1, g1, rfl, B2, g2, rfl, B3, g3, rfl, B4, g4, rfl, B5, g5, rfl, B6, g6, rfl, B7, g7, rfl, B8, g8, rfl, B9, g9, ?_⟩
    iterate 36 refine nd ?_
    exact ⟨A, h⟩
  · clear h
    intro t2 t4 t7 t9 t12 t13 t14 t15 t16 t17 t18 t19 t20 t22 w_
    refine exE fun bk2 => exE fun bk3 => exE fun bk4 => exE fun bk5 => exE fun bk6 => exE fun bk7 => exE fun bk8 => exE fun bk9 => exE fun bk10 => exE fun t4_0 => exE fun t4_1 => exE fun t4_2 => exE fun t7_0 => exE fun t7_1 => exE fun t7_2 => exE fun t9_0 => exE fun t9_1 => exE fun t9_2 => exE fun t12_0 => exE fun t12_1 => exE fun t12_2 => exE fun t13_0 => exE fun t13_1 => exE fun t13_2 => exE fun t15_0 => exE fun t15_1 => exE fun t15_2 => exE fun t17_0 => exE fun t17_1 => exE fun t17_2 => exE fun t19_0 => exE fun t19_1 => exE fun t19_2 => exE fun t22_0 => exE fun t22_1 => exE fun t22_2 => anE fun e_0 => anE fun B2 => anE fun g2 => anE fun e_1 => anE fun B3 => anE fun g3 => anE fun e_2 => anE fun B4 => anE fun g4 => anE fun e_3 => anE fun B5 => anE fun g5 => anE fun e_4 => anE fun B6 => anE fun g6 => anE fun e_5 => anE fun B7 => anE fun g7 => anE fun e_6 => anE fun B8 => anE fun g8 => anE fun e_7 => anE fun B9 => anE fun g9 => anE fun e_8 => anE fun B10 => anE fun g10 => anE fun n2_3 => anE fun n2_4 => anE fun n2_5 => anE fun n2_6 => anE fun n2_7 => anE fun n2_8 => anE fun n2_9 => anE fun n2_10 => anE fun n3_4 => anE fun n3_5 => anE fun n3_6 => anE fun n3_7 => anE fun n3_8 => anE fun n3_9 => anE fun n3_10 => anE fun n4_5 => anE fun n4_6 => anE fun n4_7 => anE fun n4_8 => anE fun n4_9 => anE fun n4_10 => anE fun n5_6 => anE fun n5_7 => anE fun n5_8 => anE fun n5_9 => anE fun n5_10 => anE fun n6_7 => anE fun n6_8 => anE fun n6_9 => anE fun n6_10 => anE fun n7_8 => anE fun n7_9 => anE fun n7_10 => anE fun n8_9 => anE fun n8_10 => anE fun n9_10 => anE fun A => fun hJ3000018 => ?_
    subst e_0
    subst e_1
    subst e_2
    subst e_3
    subst e_4
    subst e_5
    subst e_6
    subst e_7
    subst e_8
    have h := h3000018  t2 t14 t16 t18 t20 t4_0 t4_1 t4_2 t7_0 t7_1 t7_2 t9_0 t9_1 t9_2 t12_0 t12_1 t12_2 t13_0 t13_1 t13_2 t15_0 t15_1 t15_2 t17_0 t17_1 t17_2 t19_0 t19_1 t19_2 t22_0 t22_1 t22_2 w_ A hJ3000018
    have X : Ext w_ w_ := Ext.refl _
    refine ldB_t 0 B5 rfl ?_
    refine ldS_t 1 B5 rfl ?_
    refine ldI_t 2 B5 rfl ?_
    refine Calls.mono h ?_
    clear h
    rintro e15 w29 ⟨b16, s11, x14, x15, he_, ha_w29, h⟩
    refine ⟨b16, s11, x14, x15, he_, ?_⟩
    clear he_
    obtain ⟨B2, B3, B4, B5, B6, B7, B8, B9⟩ := ah8 ha_w29 B2 B3 B4 B5 B6 B7 B8 B9
    replace B10 := B10.ahead ha_w29
    obtain ⟨A, X⟩ := axa2 ha_w29 A X
    replace X : Ext w29 w29 := Ext.refl _
    refine newC_t fun bk11 u19 hb11 ha_u19 _ B11 => ?_
    have g11 := le_eq A.size hb11
    obtain ⟨_, _, _, _, _, _, _, _⟩ := lt8 hb11 B2 B3 B4 B5 B6 B7 B8 B9
    have l10_11 := lt1 hb11 B10
    obtain ⟨B2, B3, B4, B5, B6, B7, B8, B9⟩ := ah8 ha_u19 B2 B3 B4 B5 B6 B7 B8 B9
    replace B10 := B10.ahead ha_u19
    obtain ⟨A, X⟩ := axa2 ha_u19 A X
    refine st3_t B11 rfl rfl rfl rfl fun u20 k_u20 B11 => ?_
    obtain ⟨B2, B3, B4, B5, B6, B7, B8, B9⟩ := up8 k_u20 B2 B3 B4 B5 B6 B7 B8 B9
    replace B10 := up1 k_u20 B10
    obtain ⟨A, X⟩ := axu2 k_u20 g11 A X
    have hd_ := Sp.Ahead.drew u20
    obtain ⟨B2, B3, B4, B5, B6, B7, B8, B9⟩ := ah8 hd_ B2 B3 B4 B5 B6 B7 B8 B9
    obtain ⟨B10, B11⟩ := ah2 hd_ B10 B11
    obtain ⟨A, X⟩ := axa2 hd_ A X
    clear hd_
    have z2 := B2.lt
    have z3 := B3.lt
    have z4 := B4.lt
    have z5 := B5.lt
    have z6 := B6.lt
    have z7 := B7.lt
    have z8 := B8.lt
    have z9 := B9.lt
    have z10 := B10.lt
    have z11 := B11.lt
    let V_ : Nat → Nat → Prop := fun (q_ k : Nat) => (k < 0 ∨ u20.drew.heap.size ≤ k) ∧ 0 ≤ k
    refine ⟨V_, ?_⟩
    have Y_ : u20.drew.heap.size ≤ u20.drew.heap.size := Nat.le_refl _
    refine out_t (b := bk5) (i := 0) (by first | rfl | exact Sp.add_off) (fun hv_ => (by replace hv_ : _ ∧ _ := hv_; omega)) ?_
    refine ldB_t 0 B5 rfl ?_
    refine ldS_t 1 B5 rfl ?_
    refine ldI_t 2 B5 rfl ?_
    refine out_t (b := bk2) (i := 0) (by first | rfl | exact Sp.add_off) (fun hv_ => (by replace hv_ : _ ∧ _ := hv_; omega)) ?_
    refine ldB_t 0 B2 rfl ?_
    refine ldS_t 1 B2 rfl ?_
    refine ldI_t 2 B2 rfl ?_
    refine ⟨?_, ?_⟩
    ·replace h := h _ X A
     refine Calls.mono h ?_
     clear h
     rintro e16 w31 ⟨b17, s12, x16, he_, ha_w31, h⟩
     refine ⟨b17, s12, x16, he_, ?_⟩
     clear he_
     obtain ⟨B2, B3, B4, B5, B6, B7, B8, B9⟩ := ah8 ha_w31 B2 B3 B4 B5 B6 B7 B8 B9
     obtain ⟨B10, B11⟩ := ah2 ha_w31 B10 B11
     obtain ⟨A, X, Y_⟩ := axa3 ha_w31 A X Y_
     replace X : Ext w31 w31 := Ext.refl _
     refine ⟨(Bar.of_ahead ha_w31), ?_⟩
     refine ⟨?_, ?_⟩
     ·replace h := h _ X A
      refine Calls.mono h ?_
      clear h
      rintro e17 w33 ⟨b18, s13, x17, x18, he_, ha_w33, h⟩
      refine ⟨b18, s13, x17, x18, he_, ?_⟩
      clear he_
      obtain ⟨B2, B3, B4, B5, B6, B7, B8, B9⟩ := ah8 ha_w33 B2 B3 B4 B5 B6 B7 B8 B9
      obtain ⟨B10, B11⟩ := ah2 ha_w33 B10 B11
      obtain ⟨A, X, Y_⟩ := axa3 ha_w33 A X Y_
      replace X : Ext w33 w33 := Ext.refl _
      refine newC_t fun bk12 u21 hb12 ha_u21 _ B12 => ?_
      have g12 := le_eq A.size hb12
      obtain ⟨_, _, _, _, _, _, _, _⟩ := lt8 hb12 B2 B3 B4 B5 B6 B7 B8 B9
      obtain ⟨_, _⟩ := lt2 hb12 B10 B11
      have y12 := le_eq Y_ hb12
      obtain ⟨B2, B3, B4, B5, B6, B7, B8, B9⟩ := ah8 ha_u21 B2 B3 B4 B5 B6 B7 B8 B9
      obtain ⟨B10, B11⟩ := ah2 ha_u21 B10 B11
      obtain ⟨A, X, Y_⟩ := axa3 ha_u21 A X Y_
      refine bb2 ha_u21 ?_
      refine st3_t B12 rfl rfl rfl rfl fun u22 k_u22 B12 => ?_
      obtain ⟨B2, B3, B4, B5, B6, B7, B8, B9⟩ := up8 k_u22 B2 B3 B4 B5 B6 B7 B8 B9
      obtain ⟨B10, B11⟩ := up2 k_u22 B10 B11
      obtain ⟨A, X, Y_⟩ := axu3 k_u22 g12 A X Y_
      replace h := h _ X A
      refine ⟨bk3, bk4, bk5, bk6, bk7, bk8, bk9, bk10, bk11, bk12, t7_0, t7_1, t7_2, t9_0, t9_1, t9_2, t12_0, t12_1, t12_2, t13_0, t13_1, t13_2, t15_0, t15_1, t15_2, t17_0, t17_1, t17_2, t19_0, t19_1, t19_2, t22_0, t22_1, t22_2, b16, s11, x14, b18, s13, x17, rfl, B3, g3, rfl, B4, g4, rfl, B5, g5, rfl, B6, g6, rfl, B7, g7, rfl, B8, g8, rfl, B9, g9, rfl, B10, g10, rfl, B11, g11, rfl, B12, g12, ?_⟩
      iterate 45 refine nd ?_
      exact ⟨A, h⟩
     ·refine newC_t fun bk14 u25 hb14 ha_u25 _ B14 => ?_
      have g14 := le_eq A.size hb14
      obtain ⟨_, _, _, _, _, _, _, _⟩ := lt8 hb14 B2 B3 B4 B5 B6 B7 B8 B9
      obtain ⟨_, _⟩ := lt2 hb14 B10 B11
      have y14 := le_eq Y_ hb14
      obtain ⟨B2, B3, B4, B5, B6, B7, B8, B9⟩ := ah8 ha_u25 B2 B3 B4 B5 B6 B7 B8 B9
      obtain ⟨B10, B11⟩ := ah2 ha_u25 B10 B11
      obtain ⟨A, X, Y_⟩ := axa3 ha_u25 A X Y_
      refine bb2 ha_u25 ?_
      replace h := h _ X A
      refine Calls.mono h ?_
      clear h
      rintro e35 w56 ⟨b36, s22, x28, x29, he_, ha_w56, h⟩
      refine ⟨b36, s22, x28, x29, he_, ?_⟩
      clear he_
      obtain ⟨B2, B3, B4, B5, B6, B7, B8, B9⟩ := ah8 ha_w56 B2 B3 B4 B5 B6 B7 B8 B9
      obtain ⟨B10, B11, B14⟩ := ah3 ha_w56 B10 B11 B14
      obtain ⟨A, X, Y_⟩ := axa3 ha_w56 A X Y_
      replace X : Ext w56 w56 := Ext.refl _
      refine st3_t B14 rfl rfl rfl rfl fun u26 k_u26 B14 => ?_
      obtain ⟨B2, B3, B4, B5, B6, B7, B8, B9⟩ := up8 k_u26 B2 B3 B4 B5 B6 B7 B8 B9
      obtain ⟨B10, B11⟩ := up2 k_u26 B10 B11
      obtain ⟨A, X, Y_⟩ := axu3 k_u26 g14 A X Y_
      replace h := h _ X A
      refine ⟨bk3, bk4, bk5, bk6, bk7, bk8, bk9, bk10, bk11, bk14, t7_0, t7_1, t7_2, t9_0, t9_1, t9_2, t12_0, t12_1, t12_2, t13_0, t13_1, t13_2, t15_0, t15_1, t15_2, t17_0, t17_1, t17_2, t19_0, t19_1, t19_2, t22_0, t22_1, t22_2, b16, s11, x14, b36, s22, x28, rfl, B3, g3, rfl, B4, g4, rfl, B5, g5, rfl, B6, g6, rfl, B7, g7, rfl, B8, g8, rfl, B9, g9, rfl, B10, g10, rfl, B11, g11, rfl, B14, g14, ?_⟩
      iterate 45 refine nd ?_
      exact ⟨A, h⟩
    ·refine newC_t fun bk15 u27 hb15 ha_u27 _ B15 => ?_
     have g15 := le_eq A.size hb15
     obtain ⟨_, _, _, _, _, _, _, _⟩ := lt8 hb15 B2 B3 B4 B5 B6 B7 B8 B9
     obtain ⟨_, _⟩ := lt2 hb15 B10 B11
     have y15 := le_eq Y_ hb15
     obtain ⟨B2, B3, B4, B5, B6, B7, B8, B9⟩ := ah8 ha_u27 B2 B3 B4 B5 B6 B7 B8 B9
     obtain ⟨B10, B11⟩ := ah2 ha_u27 B10 B11
     obtain ⟨A, X, Y_⟩ := axa3 ha_u27 A X Y_
     refine bb2 ha_u27 ?_
     replace h := h _ X A
     refine Calls.mono h ?_
     clear h
     rintro e36 w59 ⟨b37, s23, x30, he_, ha_w59, h⟩
     refine ⟨b37, s23, x30, he_, ?_⟩
     clear he_
     obtain ⟨B2, B3, B4, B5, B6, B7, B8, B9⟩ := ah8 ha_w59 B2 B3 B4 B5 B6 B7 B8 B9
     obtain ⟨B10, B11, B15⟩ := ah3 ha_w59 B10 B11 B15
     obtain ⟨A, X, Y_⟩ := axa3 ha_w59 A X Y_
     replace X : Ext w59 w59 := Ext.refl _
     refine ⟨(Bar.of_ahead ha_w59), ?_⟩
     replace h := h _ X A
     refine Calls.mono h ?_
     clear h
     rintro e37 w61 ⟨b38, s24, x31, x32, he_, ha_w61, h⟩
     refine ⟨b38, s24, x31, x32, he_, ?_⟩
     clear he_
     obtain ⟨B2, B3, B4, B5, B6, B7, B8, B9⟩ := ah8 ha_w61 B2 B3 B4 B5 B6 B7 B8 B9
     obtain ⟨B10, B11, B15⟩ := ah3 ha_w61 B10 B11 B15
     obtain ⟨A, X, Y_⟩ := axa3 ha_w61 A X Y_
     replace X : Ext w61 w61 := Ext.refl _
     refine st3_t B15 rfl rfl rfl rfl fun u28 k_u28 B15 => ?_
     obtain ⟨B2, B3, B4, B5, B6, B7, B8, B9⟩ := up8 k_u28 B2 B3 B4 B5 B6 B7 B8 B9
     obtain ⟨B10, B11⟩ := up2 k_u28 B10 B11
     obtain ⟨A, X, Y_⟩ := axu3 k_u28 g15 A X Y_
     replace h := h _ X A
     refine ⟨bk3, bk4, bk5, bk6, bk7, bk8, bk9, bk10, bk11, bk15, t7_0, t7_1, t7_2, t9_0, t9_1, t9_2, t12_0, t12_1, t12_2, t13_0, t13_1, t13_2, t15_0, t15_1, t15_2, t17_0, t17_1, t17_2, t19_0, t19_1, t19_2, t22_0, t22_1, t22_2, b16, s11, x14, b38, s24, x31, rfl, B3, g3, rfl, B4, g4, rfl, B5, g5, rfl, B6, g6, rfl, B7, g7, rfl, B8, g8, rfl, B9, g9, rfl, B10, g10, rfl, B11, g11, rfl, B15, g15, ?_⟩
     iterate 45 refine nd ?_
     exact ⟨A, h⟩
  · clear h
    intro t2 t7 t9 t12 t13 t14 t15 t16 t17 t18 t19 t20 t22 t23 t24 t25 t26 w_
    refine exE fun bk3 => exE fun bk4 => exE fun bk5 => exE fun bk6 => exE fun bk7 => exE fun bk8 => exE fun bk9 => exE fun bk10 => exE fun bk11 => exE fun bk12 => exE fun t7_0 => exE fun t7_1 => exE fun t7_2 => exE fun t9_0 => exE fun t9_1 => exE fun t9_2 => exE fun t12_0 => exE fun t12_1 => exE fun t12_2 => exE fun t13_0 => exE fun t13_1 => exE fun t13_2 => exE fun t15_0 => exE fun t15_1 => exE fun t15_2 => exE fun t17_0 => exE fun t17_1 => exE fun t17_2 => exE fun t19_0 => exE fun t19_1 => exE fun t19_2 => exE fun t22_0 => exE fun t22_1 => exE fun t22_2 => exE fun t23_0 => exE fun t23_1 => exE fun t23_2 => exE fun t25_0 => exE fun t25_1 => exE fun t25_2 => anE fun e_0 => anE fun B3 => anE fun g3 => anE fun e_1 => anE fun B4 => anE fun g4 => anE fun e_2 => anE fun B5 => anE fun g5 => anE fun e_3 => anE fun B6 => anE fun g6 => anE fun e_4 => anE fun B7 => anE fun g7 => anE fun e_5 => anE fun B8 => anE fun g8 => anE fun e_6 => anE fun B9 => anE fun g9 => anE fun e_7 => anE fun B10 => anE fun g10 => anE fun e_8 => anE fun B11 => anE fun g11 => anE fun e_9 => anE fun B12 => anE fun g12 => anE fun n3_4 => anE fun n3_5 => anE fun n3_6 => anE fun n3_7 => anE fun n3_8 => anE fun n3_9 => anE fun n3_10 => anE fun n3_11 => anE fun n3_12 => anE fun n4_5 => anE fun n4_6 => anE fun n4_7 => anE fun n4_8 => anE fun n4_9 => anE fun n4_10 => anE fun n4_11 => anE fun n4_12 => anE fun n5_6 => anE fun n5_7 => anE fun n5_8 => anE fun n5_9 => anE fun n5_10 => anE fun n5_11 => anE fun n5_12 => anE fun n6_7 => anE fun n6_8 => anE fun n6_9 => anE fun n6_10 => anE fun n6_11 => anE fun n6_12 => anE fun n7_8 => anE fun n7_9 => anE fun n7_10 => anE fun n7_11 => anE fun n7_12 => anE fun n8_9 => anE fun n8_10 => anE fun n8_11 => anE fun n8_12 => anE fun n9_10 => anE fun n9_11 => anE fun n9_12 => anE fun n10_11 => anE fun n10_12 => anE fun n11_12 => anE fun A => fun hJ3000020 => ?_
    subst e_0
    subst e_1
    subst e_2
    subst e_3
    subst e_4
    subst e_5
    subst e_6
    subst e_7
    subst e_8
    subst e_9
    have h := h3000020  t2 t14 t16 t18 t20 t24 t26 t7_0 t7_1 t7_2 t9_0 t9_1 t9_2 t12_0 t12_1 t12_2 t13_0 t13_1 t13_2 t15_0 t15_1 t15_2 t17_0 t17_1 t17_2 t19_0 t19_1 t19_2 t22_0 t22_1 t22_2 t23_0 t23_1 t23_2 t25_0 t25_1 t25_2 w_ A hJ3000020
    have X : Ext w_ w_ := Ext.refl _
    refine ldB_t 0 B5 rfl ?_
    refine ldS_t 1 B5 rfl ?_
    refine ldI_t 2 B5 rfl ?_
    refine Calls.mono h ?_
    clear h
    rintro e18 w34 ⟨b19, s14, x19, x20, he_, ha_w34, h⟩
    refine ⟨b19, s14, x19, x20, he_, ?_⟩
    clear he_
    obtain ⟨B3, B4, B5, B6, B7, B8, B9, B10⟩ := ah8 ha_w34 B3 B4 B5 B6 B7 B8 B9 B10
    obtain ⟨B11, B12⟩ := ah2 ha_w34 B11 B12
    obtain ⟨A, X⟩ := axa2 ha_w34 A X
    replace X : Ext w34 w34 := Ext.refl _
    refine newC_t fun bk13 u23 hb13 ha_u23 _ B13 => ?_
    have g13 := le_eq A.size hb13
    obtain ⟨_, _, _, _, _, _, _, _⟩ := lt8 hb13 B3 B4 B5 B6 B7 B8 B9 B10
    obtain ⟨_, _⟩ := lt2 hb13 B11 B12
    obtain ⟨B3, B4, B5, B6, B7, B8, B9, B10⟩ := ah8 ha_u23 B3 B4 B5 B6 B7 B8 B9 B10
    obtain ⟨B11, B12⟩ := ah2 ha_u23 B11 B12
    obtain ⟨A, X⟩ := axa2 ha_u23 A X
    refine st3_t B13 rfl rfl rfl rfl fun u24 k_u24 B13 => ?_
    obtain ⟨B3, B4, B5, B6, B7, B8, B9, B10⟩ := up8 k_u24 B3 B4 B5 B6 B7 B8 B9 B10
    obtain ⟨B11, B12⟩ := up2 k_u24 B11 B12
    obtain ⟨A, X⟩ := axu2 k_u24 g13 A X
    have hd_ := Sp.Ahead.drew u24
    obtain ⟨B3, B4, B5, B6, B7, B8, B9, B10⟩ := ah8 hd_ B3 B4 B5 B6 B7 B8 B9 B10
    obtain ⟨B11, B12, B13⟩ := ah3 hd_ B11 B12 B13
    obtain ⟨A, X⟩ := axa2 hd_ A X
    clear hd_
    refine ldB_t 0 B6 rfl ?_
    refine ldS_t 1 B6 rfl ?_
    refine ldI_t 2 B6 rfl ?_
    refine ldB_t 0 B3 rfl ?_
    refine ldS_t 1 B3 rfl ?_
    refine ldI_t 2 B3 rfl ?_
    replace h := h _ X A
    refine Calls.mono h ?_
    clear h
    rintro e19 w36 ⟨b20, s15, x21, he_, ha_w36, h⟩
    refine ⟨b20, s15, x21, he_, ?_⟩
    clear he_
    obtain ⟨B3, B4, B5, B6, B7, B8, B9, B10⟩ := ah8 ha_w36 B3 B4 B5 B6 B7 B8 B9 B10
    obtain ⟨B11, B12, B13⟩ := ah3 ha_w36 B11 B12 B13
    obtain ⟨A, X⟩ := axa2 ha_w36 A X
    replace X : Ext w36 w36 := Ext.refl _
    refine ⟨ha_w36, ?_⟩
    refine Calls.mono h ?_
    clear h
    rintro e20 w37 ⟨b21, he_, ha_w37, h⟩
    refine ⟨b21, he_, ?_⟩
    clear he_
    obtain ⟨B3, B4, B5, B6, B7, B8, B9, B10⟩ := ah8 ha_w37 B3 B4 B5 B6 B7 B8 B9 B10
    obtain ⟨B11, B12, B13⟩ := ah3 ha_w37 B11 B12 B13
    obtain ⟨A, X⟩ := axa2 ha_w37 A X
    replace X : Ext w37 w37 := Ext.refl _
    refine ⟨ha_w37, ?_⟩
    refine br_map h (fun h_ => ?_) (fun h_ => ?_)
    ·clear h
     have h := h_
     clear h_
     exact ⟨A, h⟩
    ·clear h
     have h := h_
     clear h_
     refine ldB_t 0 B8 rfl ?_
     refine ldS_t 1 B8 rfl ?_
     refine ldI_t 2 B8 rfl ?_
     refine ldB_t 0 B3 rfl ?_
     refine ldS_t 1 B3 rfl ?_
     refine ldI_t 2 B3 rfl ?_
     refine Calls.mono h ?_
     clear h
     rintro e21 w38 ⟨b22, s16, x22, he_, ha_w38, h⟩
     refine ⟨b22, s16, x22, he_, ?_⟩
     clear he_
     obtain ⟨B3, B4, B5, B6, B7, B8, B9, B10⟩ := ah8 ha_w38 B3 B4 B5 B6 B7 B8 B9 B10
     obtain ⟨B11, B12, B13⟩ := ah3 ha_w38 B11 B12 B13
     obtain ⟨A, X⟩ := axa2 ha_w38 A X
     replace X : Ext w38 w38 := Ext.refl _
     refine ⟨ha_w38, ?_⟩
     refine Calls.mono h ?_
     clear h
     rintro e22 w39 ⟨b23, he_, ha_w39, h⟩
     refine ⟨b23, he_, ?_⟩
     clear he_
     obtain ⟨B3, B4, B5, B6, B7, B8, B9, B10⟩ := ah8 ha_w39 B3 B4 B5 B6 B7 B8 B9 B10
     obtain ⟨B11, B12, B13⟩ := ah3 ha_w39 B11 B12 B13
     obtain ⟨A, X⟩ := axa2 ha_w39 A X
     replace X : Ext w39 w39 := Ext.refl _
     refine ⟨ha_w39, ?_⟩
     refine br_map h (fun h_ => ?_) (fun h_ => ?_)
     ·clear h
      have h := h_
      clear h_
      exact ⟨A, h⟩
     ·clear h
      have h := h_
      clear h_
      refine ldB_t 0 B7 rfl ?_
      refine ldS_t 1 B7 rfl ?_
      refine ldI_t 2 B7 rfl ?_
      refine ldB_t 0 B3 rfl ?_
      refine ldS_t 1 B3 rfl ?_
      refine ldI_t 2 B3 rfl ?_
      refine ldB_t 0 B4 rfl ?_
      refine ldS_t 1 B4 rfl ?_
      refine ldI_t 2 B4 rfl ?_
      refine Calls.mono h ?_
      clear h
      rintro e23 w40 ⟨b24, s17, x23, he_, ha_w40, h⟩
      refine ⟨b24, s17, x23, he_, ?_⟩
      clear he_
      obtain ⟨B3, B4, B5, B6, B7, B8, B9, B10⟩ := ah8 ha_w40 B3 B4 B5 B6 B7 B8 B9 B10
      obtain ⟨B11, B12, B13⟩ := ah3 ha_w40 B11 B12 B13
      obtain ⟨A, X⟩ := axa2 ha_w40 A X
      replace X : Ext w40 w40 := Ext.refl _
      refine ⟨ha_w40, ?_⟩
      refine Calls.mono h ?_
      clear h
      rintro e24 w41 ⟨b25, he_, ha_w41, h⟩
      refine ⟨b25, he_, ?_⟩
      clear he_
      obtain ⟨B3, B4, B5, B6, B7, B8, B9, B10⟩ := ah8 ha_w41 B3 B4 B5 B6 B7 B8 B9 B10
      obtain ⟨B11, B12, B13⟩ := ah3 ha_w41 B11 B12 B13
      obtain ⟨A, X⟩ := axa2 ha_w41 A X
      replace X : Ext w41 w41 := Ext.refl _
      refine ⟨ha_w41, ?_⟩
      refine br_map h (fun h_ => ?_) (fun h_ => ?_)
      ·clear h
       have h := h_
       clear h_
       exact ⟨A, h⟩
      ·clear h
       have h := h_
       clear h_
       refine ldB_t 0 B9 rfl ?_
       refine ldS_t 1 B9 rfl ?_
       refine ldI_t 2 B9 rfl ?_
       refine ldB_t 0 B3 rfl ?_
       refine ldS_t 1 B3 rfl ?_
       refine ldI_t 2 B3 rfl ?_
       refine Calls.mono h ?_
       clear h
       rintro e25 w42 ⟨b26, s18, x24, he_, ha_w42, h⟩
       refine ⟨b26, s18, x24, he_, ?_⟩
       clear he_
       obtain ⟨B3, B4, B5, B6, B7, B8, B9, B10⟩ := ah8 ha_w42 B3 B4 B5 B6 B7 B8 B9 B10
       obtain ⟨B11, B12, B13⟩ := ah3 ha_w42 B11 B12 B13
       obtain ⟨A, X⟩ := axa2 ha_w42 A X
       replace X : Ext w42 w42 := Ext.refl _
       refine ⟨ha_w42, ?_⟩
       refine Calls.mono h ?_
       clear h
       rintro e26 w43 ⟨b27, he_, ha_w43, h⟩
       refine ⟨b27, he_, ?_⟩
       clear he_
       obtain ⟨B3, B4, B5, B6, B7, B8, B9, B10⟩ := ah8 ha_w43 B3 B4 B5 B6 B7 B8 B9 B10
       obtain ⟨B11, B12, B13⟩ := ah3 ha_w43 B11 B12 B13
       obtain ⟨A, X⟩ := axa2 ha_w43 A X
       replace X : Ext w43 w43 := Ext.refl _
       refine ⟨ha_w43, ?_⟩
       refine br_map h (fun h_ => ?_) (fun h_ => ?_)
       ·clear h
        have h := h_
        clear h_
        exact ⟨A, h⟩
       ·clear h
        have h := h_
        clear h_
        have hd_ := Sp.Ahead.drew w43
        obtain ⟨B3, B4, B5, B6, B7, B8, B9, B10⟩ := ah8 hd_ B3 B4 B5 B6 B7 B8 B9 B10
        obtain ⟨B11, B12, B13⟩ := ah3 hd_ B11 B12 B13
        obtain ⟨A, X⟩ := axa2 hd_ A X
        clear hd_
        refine ldB_t 0 B11 rfl ?_
        refine ldS_t 1 B11 rfl ?_
        refine ldI_t 2 B11 rfl ?_
        refine ldB_t 0 B10 rfl ?_
        refine ldS_t 1 B10 rfl ?_
        refine ldI_t 2 B10 rfl ?_
        replace h := h _ X A
        refine Calls.mono h ?_
        clear h
        rintro e27 w45 ⟨b28, s19, x25, he_, ha_w45, h⟩
        refine ⟨b28, s19, x25, he_, ?_⟩
        clear he_
        obtain ⟨B3, B4, B5, B6, B7, B8, B9, B10⟩ := ah8 ha_w45 B3 B4 B5 B6 B7 B8 B9 B10
        obtain ⟨B11, B12, B13⟩ := ah3 ha_w45 B11 B12 B13
        obtain ⟨A, X⟩ := axa2 ha_w45 A X
        replace X : Ext w45 w45 := Ext.refl _
        refine ⟨ha_w45, ?_⟩
        refine Calls.mono h ?_
        clear h
        rintro e28 w46 ⟨b29, he_, ha_w46, h⟩
        refine ⟨b29, he_, ?_⟩
        clear he_
        obtain ⟨B3, B4, B5, B6, B7, B8, B9, B10⟩ := ah8 ha_w46 B3 B4 B5 B6 B7 B8 B9 B10
        obtain ⟨B11, B12, B13⟩ := ah3 ha_w46 B11 B12 B13
        obtain ⟨A, X⟩ := axa2 ha_w46 A X
        replace X : Ext w46 w46 := Ext.refl _
        refine ⟨ha_w46, ?_⟩
        refine br_map h (fun h_ => ?_) (fun h_ => ?_)
        ·clear h
         have h := h_
         clear h_
         exact ⟨A, h⟩
        ·clear h
         have h := h_
         clear h_
         refine ldB_t 0 B12 rfl ?_
         refine ldS_t 1 B12 rfl ?_
         refine ldI_t 2 B12 rfl ?_
         refine ldB_t 0 B10 rfl ?_
         refine ldS_t 1 B10 rfl ?_
         refine ldI_t 2 B10 rfl ?_
         refine ldB_t 0 B4 rfl ?_
         refine ldS_t 1 B4 rfl ?_
         refine ldI_t 2 B4 rfl ?_
         refine Calls.mono h ?_
         clear h
         rintro e29 w47 ⟨b30, s20, x26, he_, ha_w47, h⟩
         refine ⟨b30, s20, x26, he_, ?_⟩
         clear he_
         obtain ⟨B3, B4, B5, B6, B7, B8, B9, B10⟩ := ah8 ha_w47 B3 B4 B5 B6 B7 B8 B9 B10
         obtain ⟨B11, B12, B13⟩ := ah3 ha_w47 B11 B12 B13
         obtain ⟨A, X⟩ := axa2 ha_w47 A X
         replace X : Ext w47 w47 := Ext.refl _
         refine ⟨ha_w47, ?_⟩
         refine Calls.mono h ?_
         clear h
         rintro e30 w48 ⟨b31, he_, ha_w48, h⟩
         refine ⟨b31, he_, ?_⟩
         clear he_
         obtain ⟨B3, B4, B5, B6, B7, B8, B9, B10⟩ := ah8 ha_w48 B3 B4 B5 B6 B7 B8 B9 B10
         obtain ⟨B11, B12, B13⟩ := ah3 ha_w48 B11 B12 B13
         obtain ⟨A, X⟩ := axa2 ha_w48 A X
         replace X : Ext w48 w48 := Ext.refl _
         refine ⟨ha_w48, ?_⟩
         refine br_map h (fun h_ => ?_) (fun h_ => ?_)
         ·clear h
          have h := h_
          clear h_
          exact ⟨A, h⟩
         ·clear h
          have h := h_
          clear h_
          refine ldB_t 0 B13 rfl ?_
          refine ldS_t 1 B13 rfl ?_
          refine ldI_t 2 B13 rfl ?_
          refine ldB_t 0 B10 rfl ?_
          refine ldS_t 1 B10 rfl ?_
          refine ldI_t 2 B10 rfl ?_
          refine Calls.mono h ?_
          clear h
          rintro e31 w49 ⟨b32, s21, x27, he_, ha_w49, h⟩
          refine ⟨b32, s21, x27, he_, ?_⟩
          clear he_
          obtain ⟨B3, B4, B5, B6, B7, B8, B9, B10⟩ := ah8 ha_w49 B3 B4 B5 B6 B7 B8 B9 B10
          obtain ⟨B11, B12, B13⟩ := ah3 ha_w49 B11 B12 B13
          obtain ⟨A, X⟩ := axa2 ha_w49 A X
          replace X : Ext w49 w49 := Ext.refl _
          refine ⟨ha_w49, ?_⟩
          refine Calls.mono h ?_
          clear h
          rintro e32 w50 ⟨b33, he_, ha_w50, h⟩
          refine ⟨b33, he_, ?_⟩
          clear he_
          obtain ⟨B3, B4, B5, B6, B7, B8, B9, B10⟩ := ah8 ha_w50 B3 B4 B5 B6 B7 B8 B9 B10
          obtain ⟨B11, B12, B13⟩ := ah3 ha_w50 B11 B12 B13
          obtain ⟨A, X⟩ := axa2 ha_w50 A X
          replace X : Ext w50 w50 := Ext.refl _
          refine ⟨ha_w50, ?_⟩
          refine br_map h (fun h_ => ?_) (fun h_ => ?_)
          ·clear h
           have h := h_
           clear h_
           exact ⟨A, h⟩
          ·clear h
           have h := h_
           clear h_
           refine ldS_t 1 B6 rfl ?_
           refine ldS_t 1 B7 rfl ?_
           refine ldS_t 1 B8 rfl ?_
           refine ldS_t 1 B9 rfl ?_
           refine ldS_t 1 B11 rfl ?_
           refine ldS_t 1 B12 rfl ?_
           refine ldS_t 1 B13 rfl ?_
           refine newC_map h fun ad3 w51 ha_w51 h_ => ?_
           clear h
           have h := h_
           clear h_
           obtain ⟨B3, B4, B5, B6, B7, B8, B9, B10⟩ := ah8 ha_w51 B3 B4 B5 B6 B7 B8 B9 B10
           obtain ⟨B11, B12, B13⟩ := ah3 ha_w51 B11 B12 B13
           obtain ⟨A, X⟩ := axa2 ha_w51 A X
           replace X : Ext w51 w51 := Ext.refl _
           refine Calls.mono h ?_
           clear h
           rintro e33 w52 ⟨b34, he_, ⟨V_, ha_w52, hV_⟩, h⟩
           refine ⟨b34, he_, ?_⟩
           clear he_
           replace B3 := B3.bar ha_w52 (fun hv_ => (hV_ _ hv_).2 _ _ B3 rfl)
           replace B4 := B4.bar ha_w52 (fun hv_ => (hV_ _ hv_).2 _ _ B4 rfl)
           replace B5 := B5.bar ha_w52 (fun hv_ => (hV_ _ hv_).2 _ _ B5 rfl)
           replace B6 := B6.bar ha_w52 (fun hv_ => (hV_ _ hv_).2 _ _ B6 rfl)
           replace B7 := B7.bar ha_w52 (fun hv_ => (hV_ _ hv_).2 _ _ B7 rfl)
           replace B8 := B8.bar ha_w52 (fun hv_ => (hV_ _ hv_).2 _ _ B8 rfl)
           replace B9 := B9.bar ha_w52 (fun hv_ => (hV_ _ hv_).2 _ _ B9 rfl)
           replace B10 := B10.bar ha_w52 (fun hv_ => (hV_ _ hv_).2 _ _ B10 rfl)
           replace B11 := B11.bar ha_w52 (fun hv_ => (hV_ _ hv_).2 _ _ B11 rfl)
           replace B12 := B12.bar ha_w52 (fun hv_ => (hV_ _ hv_).2 _ _ B12 rfl)
           replace B13 := B13.bar ha_w52 (fun hv_ => (hV_ _ hv_).2 _ _ B13 rfl)
           replace A := bar_ahead2 A ha_w52 (fun _ hv_ => (hV_ _ hv_).1)
           replace X : Ext w52 w52 := Ext.refl _
           refine br_map h (fun h_ => ?_) (fun h_ => ?_)
           ·clear h
            have h := h_
            clear h_
            refine Calls.mono h ?_
            clear h
            rintro e34 w53 ⟨b35, he_, ha_w53, h⟩
            refine ⟨b35, he_, ?_⟩
            clear he_
            obtain ⟨B3, B4, B5, B6, B7, B8, B9, B10⟩ := ah8 ha_w53 B3 B4 B5 B6 B7 B8 B9 B10
            obtain ⟨B11, B12, B13⟩ := ah3 ha_w53 B11 B12 B13
            obtain ⟨A, X⟩ := axa2 ha_w53 A X
            replace X : Ext w53 w53 := Ext.refl _
            exact ⟨A, h⟩
           ·clear h
            have h := h_
            clear h_
            exact ⟨A, h⟩

/-- surd/dyadic.Abs: function 13, its local variables as values. -/
theorem dyadic_Abs_v2 (a0_a_0 : Bool) (a0_a_1 : Slc) (a0_a_2 : Int) (w : World) (R : Ending → World → Prop)
    
    (h : ∀ w1, Ext w w1 → Ahead w w1 →
    (Calls Tryd.prog 36 #[Value.agg #[Value.bool a0_a_0, a0_a_1.v, Value.int .i64 a0_a_2]] w1 fun e1 w2 =>
     ∃ b1 : Bool, ∃ s1 : Slc, ∃ x1 : Int, ∃ x2 : Int, e1 = .returned (Value.tuple #[Value.agg #[Value.bool b1, s1.v, Value.int .i64 x1], Value.int .i64 x2]) ∧ Ahead w1 w2 ∧
     (br (x2 != 0)
      (∀ w3, Ext w2 w3 → Ahead w w3 →
       (R (.returned (Value.tuple #[Value.agg #[Value.bool (false), ((⟨none, 0, 0⟩ : Slc)).v, Value.int .i64 (0 : Int)], Value.int .i64 x2])) w3))
      (∀ w4, Ext w2 w4 → Ahead w w4 →
       (Calls Tryd.prog 42 #[Value.agg #[Value.bool (false), s1.v], Value.int .i64 x1] w4 fun e2 w5 =>
        ∃ b2 : Bool, ∃ s2 : Slc, ∃ x3 : Int, ∃ x4 : Int, e2 = .returned (Value.tuple #[Value.agg #[Value.bool b2, s2.v, Value.int .i64 x3], Value.int .i64 x4]) ∧ Ahead w4 w5 ∧
        (∀ w6, Ext w5 w6 → Ahead w w6 →
         (R (.returned (Value.tuple #[Value.agg #[Value.bool b2, s2.v, Value.int .i64 x3], Value.int .i64 x4])) w6)))))))
     :
    Calls Tryd.prog 13 #[Value.agg #[Value.bool a0_a_0, a0_a_1.v, Value.int .i64 a0_a_2]] w (fun e_ w_ => Ahead w w_ ∧ R e_ w_) := by
  refine dyadic_Abs_vc a0_a_0 a0_a_1 a0_a_2 w _  ?_
  · have A : Ahead w w := Ahead.refl w
    have X : Ext w w := Ext.refl w
    refine newC_t fun bk1 u1 hb1 ha_u1 _ B1 => ?_
    have g1 := le_eq A.size hb1
    obtain ⟨A, X⟩ := axa2 ha_u1 A X
    refine newC_t fun bk2 u2 hb2 ha_u2 _ B2 => ?_
    have g2 := le_eq A.size hb2
    have l1_2 := lt1 hb2 B1
    replace B1 := B1.ahead ha_u2
    obtain ⟨A, X⟩ := axa2 ha_u2 A X
    refine ldB_t 0 B1 rfl ?_
    refine ldS_t 1 B1 rfl ?_
    refine ldI_t 2 B1 rfl ?_
    replace h := h _ X A
    refine Calls.mono h ?_
    clear h
    rintro e1 w2 ⟨b1, s1, x1, x2, he_, ha_w2, h⟩
    refine ⟨b1, s1, x1, x2, he_, ?_⟩
    clear he_
    obtain ⟨B1, B2⟩ := ah2 ha_w2 B1 B2
    obtain ⟨A, X⟩ := axa2 ha_w2 A X
    replace X : Ext w2 w2 := Ext.refl _
    refine newC_t fun bk3 u3 hb3 ha_u3 _ B3 => ?_
    have g3 := le_eq A.size hb3
    obtain ⟨_, _⟩ := lt2 hb3 B1 B2
    obtain ⟨B1, B2⟩ := ah2 ha_u3 B1 B2
    obtain ⟨A, X⟩ := axa2 ha_u3 A X
    refine st3_t B3 rfl rfl rfl rfl fun u4 k_u4 B3 => ?_
    obtain ⟨B1, B2⟩ := up2 k_u4 B1 B2
    obtain ⟨A, X⟩ := axu2 k_u4 g3 A X
    refine br_map h (fun h_ => ?_) (fun h_ => ?_)
    ·clear h
     have h := h_
     clear h_
     refine st3_t B2 rfl rfl rfl rfl fun u5 k_u5 B2 => ?_
     obtain ⟨B1, B3⟩ := up2 k_u5 B1 B3
     obtain ⟨A, X⟩ := axu2 k_u5 g2 A X
     refine ldB_t 0 B2 rfl ?_
     refine ldS_t 1 B2 rfl ?_
     refine ldI_t 2 B2 rfl ?_
     replace h := h _ X A
     exact ⟨A, h⟩
    ·clear h
     have h := h_
     clear h_
     refine stC_t 0 B3 rfl rfl rfl fun u6 k_u6 B3_ => ?_
     replace B3 : Blt u6 bk3 76 #[Value.bool false, s1.v, Value.int .i64 x1] := B3_
     clear B3_
     obtain ⟨B1, B2⟩ := up2 k_u6 B1 B2
     obtain ⟨A, X⟩ := axu2 k_u6 g3 A X
     refine ldB_t 0 B3 rfl ?_
     refine ldS_t 1 B3 rfl ?_
     refine ldI_t 2 B3 rfl ?_
     replace h := h _ X A
     refine Calls.mono h ?_
     clear h
     rintro e2 w5 ⟨b2, s2, x3, x4, he_, ha_w5, h⟩
     refine ⟨b2, s2, x3, x4, he_, ?_⟩
     clear he_
     obtain ⟨B1, B2, B3⟩ := ah3 ha_w5 B1 B2 B3
     obtain ⟨A, X⟩ := axa2 ha_w5 A X
     replace X : Ext w5 w5 := Ext.refl _
     refine st3_t B2 rfl rfl rfl rfl fun u7 k_u7 B2 => ?_
     obtain ⟨B1, B3⟩ := up2 k_u7 B1 B3
     obtain ⟨A, X⟩ := axu2 k_u7 g2 A X
     refine ldB_t 0 B2 rfl ?_
     refine ldS_t 1 B2 rfl ?_
     refine ldI_t 2 B2 rfl ?_
     replace h := h _ X A
     exact ⟨A, h⟩

/-- surd/surdref08.Mul: function 18, its local variables as values. -/
theorem surdref08_Mul_v2 (a0_a_0 : Bool) (a0_a_1 : Slc) (a0_a_2 : Int) (a1_b_0 : Bool) (a1_b_1 : Slc) (a1_b_2 : Int) (w : World) (R : Ending → World → Prop)
    
    (h : ∀ w1, Ext w w1 → Ahead w w1 →
    (Calls Tryd.prog 55 #[Value.agg #[Value.bool a0_a_0, a0_a_1.v], Value.agg #[Value.bool a1_b_0, a1_b_1.v]] w1 fun e1 w2 =>
     ∃ b1 : Bool, ∃ s1 : Slc, e1 = .returned (Value.agg #[Value.bool b1, s1.v]) ∧ Ahead w1 w2 ∧
     (Calls Tryd.prog 14 #[Value.agg #[Value.bool b1, s1.v], Value.int .i64 (IntKind.i64.wrap (a0_a_2 + a1_b_2))] w2 fun e2 w3 =>
      ∃ b2 : Bool, ∃ s2 : Slc, ∃ x1 : Int, e2 = .returned (Value.agg #[Value.bool b2, s2.v, Value.int .i64 x1]) ∧ Ahead w2 w3 ∧
      (∀ w4, Ext w3 w4 → Ahead w w4 →
       (R (.returned (Value.agg #[Value.bool b2, s2.v, Value.int .i64 x1])) w4)))))
     :
    Calls Tryd.prog 18 #[Value.agg #[Value.bool a0_a_0, a0_a_1.v, Value.int .i64 a0_a_2], Value.agg #[Value.bool a1_b_0, a1_b_1.v, Value.int .i64 a1_b_2]] w (fun e_ w_ => Ahead w w_ ∧ R e_ w_) := by
  refine surdref08_Mul_vc a0_a_0 a0_a_1 a0_a_2 a1_b_0 a1_b_1 a1_b_2 w _  ?_
  · have A : Ahead w w := Ahead.refl w
    have X : Ext w w := Ext.refl w
    refine newC_t fun bk1 u1 hb1 ha_u1 _ B1 => ?_
    have g1 := le_eq A.size hb1
    obtain ⟨A, X⟩ := axa2 ha_u1 A X
    refine newC_t fun bk2 u2 hb2 ha_u2 _ B2 => ?_
    have g2 := le_eq A.size hb2
    have l1_2 := lt1 hb2 B1
    replace B1 := B1.ahead ha_u2
    obtain ⟨A, X⟩ := axa2 ha_u2 A X
    refine newC_t fun bk3 u3 hb3 ha_u3 _ B3 => ?_
    have g3 := le_eq A.size hb3
    obtain ⟨_, _⟩ := lt2 hb3 B1 B2
    obtain ⟨B1, B2⟩ := ah2 ha_u3 B1 B2
    obtain ⟨A, X⟩ := axa2 ha_u3 A X
    have hd_ := Sp.Ahead.drew u3
    obtain ⟨B1, B2, B3⟩ := ah3 hd_ B1 B2 B3
    obtain ⟨A, X⟩ := axa2 hd_ A X
    clear hd_
    refine ldB_t 0 B1 rfl ?_
    refine ldS_t 1 B1 rfl ?_
    refine ldB_t 0 B2 rfl ?_
    refine ldS_t 1 B2 rfl ?_
    refine ldI_t 2 B1 rfl ?_
    refine ldI_t 2 B2 rfl ?_
    replace h := h _ X A
    refine Calls.mono h ?_
    clear h
    rintro e1 w2 ⟨b1, s1, he_, ha_w2, h⟩
    refine ⟨b1, s1, he_, ?_⟩
    clear he_
    obtain ⟨B1, B2, B3⟩ := ah3 ha_w2 B1 B2 B3
    obtain ⟨A, X⟩ := axa2 ha_w2 A X
    replace X : Ext w2 w2 := Ext.refl _
    refine ⟨ha_w2, ?_⟩
    refine Calls.mono h ?_
    clear h
    rintro e2 w3 ⟨b2, s2, x1, he_, ha_w3, h⟩
    refine ⟨b2, s2, x1, he_, ?_⟩
    clear he_
    obtain ⟨B1, B2, B3⟩ := ah3 ha_w3 B1 B2 B3
    obtain ⟨A, X⟩ := axa2 ha_w3 A X
    replace X : Ext w3 w3 := Ext.refl _
    refine ⟨ha_w3, ?_⟩
    refine st3_t B3 rfl rfl rfl rfl fun u4 k_u4 B3 => ?_
    obtain ⟨B1, B2⟩ := up2 k_u4 B1 B2
    obtain ⟨A, X⟩ := axu2 k_u4 g3 A X
    refine ldB_t 0 B3 rfl ?_
    refine ldS_t 1 B3 rfl ?_
    refine ldI_t 2 B3 rfl ?_
    replace h := h _ X A
    exact ⟨A, h⟩

end Go.Proofs.YtahbekmnphkiiaaDoor
namespace Go.Proofs.YtahbekmnphkiiaaDoor
open Go Go.RowKit Eng Sp Dg L2
set_option linter.unusedVariables false
set_option linter.unusedSimpArgs false
set_option maxRecDepth 100000
namespace Do
open _root_.Go.Proofs.YtahbekmnphkiiaaDoor.Nat (OwnNil Num Num.bl Num.ext Num.ahead OwnNil.mono OwnNil.ext OwnNil.rd OwnNil.ahead OwnNil.nil digs_len_bl num_of bigC bigC_ok Ret own_num Yes)
open _root_.Go.Proofs.YtahbekmnphkiiaaDoor.Ref (bl_len32 RN RN.ext RN.ahead len_mono own_step old_new Bk rMul_spec Len_spec)
open Dy
open Sb

structure PAns (b : Bool) (x c : Int) (neg : Bool) (N : Nat) (E : Int) : Prop where
  pb : b = if c = 0 then nD neg N else false
  px : x = if c = 0 then eD N E else 0
  pc : c = tC N E
def LL (c : Int) (N : Nat) : List Nat := if c = 0 then digs B64 (od N) else []
theorem LL_len {b neg : Bool} {x c E : Int} {N : Nat} (h : PAns b x c neg N E) : ((LL c N).length + 5) * 8 ≤ 2 ^ 47 := by
  unfold LL
  by_cases hc : c = 0
  · rw [if_pos hc]
    have := (tC_zero (h.pc.symm.trans hc)).1
    have := digs_len_bl (N := od N) (m := 2 ^ 20) (by omega)
    omega
  · rw [if_neg hc]; simp
def AnsD (w : World) (neg : Bool) (N : Nat) (E : Int) (en : Ending) (w' : World) : Prop := Ahead w w' ∧ ∃ b s x c, en = .returned (.tuple #[.agg (c3 b s x), .int .i64 c]) ∧ PAns b x c neg N E ∧ OwnNil w.heap.size w' s (LL c N)
theorem DOut.ans {w w' : World} {c : Int} {neg : Bool} {N : Nat} {E : Int} {en : Ending} (h : DOut w c neg N E en w') (hc : c = tC N E) : AnsD w neg N E en w' := by
  obtain ⟨h1, s, rfl, o⟩ := h
  exact ⟨h1, _, s, _, c, rfl, ⟨rfl, rfl, hc⟩, o⟩

abbrev NR (n0 : Bool) (X : Nat) (e0 pos : Int) : Nat := rX (nD n0 X) (od X) (eD X e0) pos 0
theorem okM0 : okM 0 := by unfold okM; omega
theorem rnd_ans {w : World} {n0 : Bool} {s : Slc} {X : Nat} {e0 pos : Int} (hT : Tab w) (h : Num w s X) (hl : (digs B64 X).length ≤ 1048576) (we : wi e0) (wp : wi pos) :
    Calls pr dyadic_Round_id #[.agg (c3 n0 s e0), .int .i64 pos, .int .i64 0] w (AnsD w (nD n0 X) (NR n0 X e0 pos) (rE (od X) (eD X e0) pos)) :=
  Calls.mono (Round_spec hT h (by omega)) fun en w' hd => DOut.ans hd (rdC_ok we wp okM0)
theorem abs_ans {w : World} {n0 : Bool} {s : Slc} {X : Nat} {e0 : Int} (hT : Tab w) (h : Num w s X) (hl : (digs B64 X).length ≤ 1048576) (we : wi e0) :
    Calls pr dyadic_Abs_id #[.agg (c3 n0 s e0)] w (AnsD w false (od X) (eD X e0)) := by
  refine Calls.mono (dyadic_Abs_v2 n0 s e0 w (fun en w' => Ahead w w' → AnsD w false (od X) (eD X e0) en w') ?_) fun en w' ⟨h1, h2⟩ => h2 h1
  intro w1 x1 a1
  refine Calls.mono (read_spec (hT.ahead a1) (h.ahead a1)) ?_
  rintro en w2 ⟨h2, s2, rfl, o2⟩
  refine ⟨_, _, _, _, rfl, h2, br_intro (fun hw => ?_) (fun hw => ?_)⟩
  · rw [if_pos we] at hw; simp at hw
  · rw [if_pos we] at o2
    rw [if_pos we]
    intro w4 x4 a4
    have lo := len_mono two64 (od_le X)
    refine Calls.mono (told_spec (hT.ahead a4) (num_digs (o2.ext x4).rd (by omega)) (by have := eD_far h we; omega)) ?_
    rintro en w5 ⟨h5, s5, rfl, o5⟩
    exact ⟨_, _, _, _, rfl, h5, fun w6 x6 a6 _ => ⟨a6, _, s5, _, _, rfl, ⟨rfl, rfl, rfl⟩, (o5.ext x6).mono a4.size⟩⟩
theorem bC_big {x : Nat} : bC x = bigC x := by
  unfold bC bigC
  by_cases h : bl x ≤ 67108864
  · rw [if_pos h, if_neg (by omega)]
  · rw [if_neg h, if_pos (by omega)]
theorem wMulX {w : World} {n m : Bool} {a b : Slc} {x y : Nat} (ha : Num w a x) (hb : Num w b y) (la : (digs B64 x).length + 16 ≤ 2 ^ 44) (lb : (digs B64 y).length + 16 ≤ 2 ^ 44) :
    Calls pr whole_Mul_id #[.agg (c2 n a), .agg (c2 m b)] w fun en w' => Ahead w w' ∧ WOut w (bigC (x * y)) (!(n == m)) (x * y) en w' := by
  refine whole_Mul_v2 n a m b w _ fun w1 X1 a1 => Calls.mono (Mul.Mul_spec (ha.ahead a1) (hb.ahead a1) la lb) ?_
  rintro en w2 ⟨h2, u, rfl, ou⟩
  refine ⟨_, _, rfl, h2, Calls.mono (whole_result_v2 (!(n == m)) u (bigC (x * y)) w2 (fun en w' => Ahead w2 w' → Ahead w2 w' ∧ WOut w (bigC (x * y)) (!(n == m)) (x * y) en w') ?_) ?_⟩
  · refine br_intro (fun hc => fun w3 X3 a3 _ => ⟨a3, ?_⟩) (fun hc => fun w3 X3 a3 => ?_)
    · have hc' : bigC (x * y) ≠ 0 := by simpa using hc
      exact ⟨_, by rw [if_neg hc'], by rw [if_neg hc']; exact OwnNil.nil⟩
    · have hc' : bigC (x * y) = 0 := by simpa using hc
      rw [if_pos hc'] at ou
      refine Calls.mono (fits_spec (own_num (ou.ext X3) (bigC_bl' hc'))) ?_
      rw [bC_big]
      rintro en w4 ⟨h4, s4, rfl, o4⟩
      exact ⟨_, _, _, rfl, h4, fun w5 X5 a5 _ => ⟨a5, s4, rfl, (o4.ext X5).mono (by have := a1.size; have := h2.size; have := X3.size; omega)⟩⟩
  · rintro en w6 ⟨h6, h7⟩
    obtain ⟨_, s6, rfl, o6⟩ := h7 h6
    exact ⟨_, _, _, rfl, h6, fun w7 X7 a7 => ⟨s6, rfl, o6.ext X7⟩⟩
theorem bl_le_mul (x y : Nat) : bl (x * y) ≤ bl x + bl y := by
  refine bl_le ?_
  rw [Nat.pow_add]
  exact Nat.mul_lt_mul_of_lt_of_lt (lt_bl x) (lt_bl y)
theorem nD_nD (a : Bool) (n : Nat) : nD (nD a n) n = nD a n := by unfold nD; cases a <;> simp
theorem od_mul (x y : Nat) : od (od x * od y) = od x * od y := by
  by_cases hx : x = 0
  · rw [hx, od_zero, Nat.zero_mul, od_zero]
  by_cases hy : y = 0
  · rw [hy, od_zero, Nat.mul_zero, od_zero]
  refine od_of_odd ?_
  rw [Nat.mul_mod, od_odd hx, od_odd hy]
theorem mul_ans {w : World} {n0 n1 : Bool} {s t : Slc} {X Y : Nat} {e0 e1 : Int} (hT : Tab w) (h : Num w s X) (h' : Num w t Y) (hl : (digs B64 X).length ≤ 1048576) (hl' : (digs B64 Y).length ≤ 1048576) (we : wi e0) (we' : wi e1) :
    Calls pr dyadic_Mul_id #[.agg (c3 n0 s e0), .agg (c3 n1 t e1)] w (AnsD w (!(nD n0 X == nD n1 Y)) (od X * od Y) (eD X e0 + eD Y e1)) := by
  refine Calls.mono (dyadic_Mul_v2 n0 s e0 n1 t e1 w (fun en w' => Ahead w w' → AnsD w (!(nD n0 X == nD n1 Y)) (od X * od Y) (eD X e0 + eD Y e1) en w') ?_) fun en w' ⟨h1, h2⟩ => h2 h1
  intro w1 X1 a1
  refine Calls.mono (two_spec (hT.ahead a1) (h.ahead a1) (h'.ahead a1)) ?_
  rintro en w2 ⟨h2, b1, s1, x1, b2, s2, x2, rfl, hh⟩
  have hc0 := twC_ok we we'
  obtain ⟨rfl, rfl, rfl, rfl, o1, o2⟩ := hh hc0
  rw [hc0]
  refine ⟨_, _, _, _, _, _, _, rfl, h2, br_false rfl fun w4 X4 a4 => ?_⟩
  have l1 := len_mono two64 (od_le X)
  have l2 := len_mono two64 (od_le Y)
  have f1 := eD_far h we
  have f2 := eD_far h' we'
  rw [wrap_i64 (by omega) (by omega)]
  refine Calls.mono (wMulX (num_of_digs (o1.ext X4).rd (by omega)) (num_of_digs (o2.ext X4).rd (by omega)) (by omega) (by omega)) ?_
  rintro en w5 ⟨h5, u, rfl, ou⟩
  have hot : tC (od X * od Y) (eD X e0 + eD Y e1) = if 67108864 < bl (od X * od Y) then 3 else tC (od X * od Y) (eD X e0 + eD Y e1) := by
    by_cases hb : 67108864 < bl (od X * od Y)
    · rw [if_pos hb, tC, if_pos (by rw [od_mul]; exact hb)]
    · rw [if_neg hb]
  refine ⟨_, _, _, rfl, h5, br_intro (fun hx => fun w6 X6 a6 _ => ?_) (fun hx => fun w7 X7 a7 => ?_)⟩
  · have hx' : bigC (od X * od Y) ≠ 0 := by simpa using hx
    have hb : 67108864 < bl (od X * od Y) := by
      rcases Nat.lt_or_ge 67108864 (bl (od X * od Y)) with h | h
      · exact h
      · exact absurd (bigC_ok h) hx'
    have e3 : bigC (od X * od Y) = 3 := by rw [bigC, if_neg (by omega)]
    rw [if_pos hb] at hot
    rw [e3]
    exact ⟨a6, _, _, _, _, rfl, ⟨by rw [if_neg (by omega)], by rw [if_neg (by omega)], hot.symm⟩, by rw [LL, if_neg (by omega)]; exact OwnNil.nil⟩
  · have hx' : bigC (od X * od Y) = 0 := by simpa using hx
    rw [if_pos hx'] at ou
    rw [if_pos hx']
    have hb := bigC_bl' hx'
    refine Calls.mono (told_spec (hT.ahead a7) (own_num (ou.ext X7) hb) (by omega)) ?_
    rintro en w8 ⟨h8, s8, rfl, o8⟩
    refine ⟨_, _, _, _, rfl, h8, fun w9 X9 a9 _ => ⟨a9, _, s8, _, _, rfl, ⟨?_, rfl, rfl⟩, (o8.ext X9).mono a7.size⟩⟩
    rw [nD_nD]

theorem hNR_len {n0 : Bool} {X : Nat} {e0 pos : Int} (hl : (digs B32 X).length ≤ 2 ^ 22) : (digs B32 (NR n0 X e0 pos)).length ≤ 2 ^ 46 := by
  have hrx : NR n0 X e0 pos ≤ od X + 1 := by
    have := Nat.div_le_self (od X) (2 ^ (pos - eD X e0).toNat)
    unfold NR rX rq; split <;> (try split) <;> omega
  have lo := len_mono two32 (od_le X)
  refine Nat.le_trans (dl_le two32 hrx) ?_
  have := dl_add (x := od X) (y := 1) (k := 2 ^ 45) (by omega) (by
    have : (digs B32 1).length ≤ 1 := digs_length_le two32 (by rw [Nat.pow_one, B32v]; omega)
    omega)
  omega
theorem ref_rnd {w : World} {n0 : Bool} {s : Slc} {X : Nat} {e0 pos : Int} (r : RN w s (od X)) (hl : (digs B32 X).length ≤ 2 ^ 22) (hf : -2251799813685248 ≤ eD X e0 ∧ eD X e0 ≤ 2251799813685248) (wp : wi pos) :
    Calls pr surdref08_Round_id #[.agg (c3 (nD n0 X) s (eD X e0)), .int .i64 pos, .int .i64 0] w fun en w' => Ahead w w' ∧ ∃ s', en = .returned (.agg (c3 (nD (nD n0 X) (NR n0 X e0 pos)) s' (eD (NR n0 X e0 pos) (rE (od X) (eD X e0) pos)))) ∧ RN w' s' (od (NR n0 X e0 pos)) := by
  have lo := len_mono two32 (od_le X)
  exact dRound_spec (m := 0) r (nD_od n0 X) (od_od X) (fun h => by rw [od_zero_iff] at h; rw [h, eD_zero]) okM0 (by omega) (by omega) (by unfold wi at wp; omega)
theorem ref_abs {w : World} {n0 : Bool} {s : Slc} {X : Nat} {e0 : Int} (r : RN w s (od X)) :
    Calls pr surdref08_Abs_id #[.agg (c3 (nD n0 X) s (eD X e0))] w fun en w' => Ahead w w' ∧ ∃ s', en = .returned (.agg (c3 (nD false (od X)) s' (eD (od X) (eD X e0)))) ∧ RN w' s' (od (od X)) := by
  have hz : zb (sg (nD n0 X) (od X)) = nD n0 X := by rw [zb_sg, nD_od]
  have := dAbs_spec (w := w) (s := s) (z := sg (nD n0 X) (od X)) (e := eD X e0) (by rw [sg_abs]; exact r)
  rw [hz, sg_abs] at this
  refine Calls.mono this ?_
  rintro en w' ⟨h1, s', rfl, r'⟩
  refine ⟨h1, s', ?_, ?_⟩
  · have e1 : zb ((od X : Nat) : Int) = nD false (od X) := by
      have := zb_sg false (od X)
      rwa [show sg false (od X) = ((od X : Nat) : Int) by simp [sg]] at this
    have e2 : eD (od X) (eD X e0) = eD X e0 := by
      by_cases h : X = 0
      · rw [h, od_zero, eD_zero, eD_zero]
      · rw [eD, if_neg (fun h' => h (od_zero_iff.1 h')), tz_odd (od_odd h)]; omega
    rw [e1, e2]
  · rw [od_od]; rwa [Int.natAbs_natCast] at r'
theorem sg_sgm (p q : Bool) (m n : Nat) : sg p m * sg q n = sg (!(p == q)) (m * n) := by
  unfold sg
  cases p <;> cases q <;> simp [Int.neg_mul, Int.mul_neg]
theorem ref_mul {w : World} {n0 n1 : Bool} {s t : Slc} {X Y : Nat} {e0 e1 : Int} (r : RN w s (od X)) (r' : RN w t (od Y)) (hl : (digs B32 X).length ≤ 2 ^ 22) (hl' : (digs B32 Y).length ≤ 2 ^ 22)
    (hf : -2251799813685248 ≤ eD X e0 ∧ eD X e0 ≤ 2251799813685248) (hf' : -2251799813685248 ≤ eD Y e1 ∧ eD Y e1 ≤ 2251799813685248) :
    Calls pr surdref08_Mul_id #[.agg (c3 (nD n0 X) s (eD X e0)), .agg (c3 (nD n1 Y) t (eD Y e1))] w fun en w' => Ahead w w' ∧ ∃ s', en = .returned (.agg (c3 (nD (!(nD n0 X == nD n1 Y)) (od X * od Y)) s' (eD (od X * od Y) (eD X e0 + eD Y e1)))) ∧ RN w' s' (od (od X * od Y)) := by
  have lo := len_mono two32 (od_le X)
  have lo' := len_mono two32 (od_le Y)
  have hz : zb (sg (nD n0 X) (od X)) = nD n0 X := by rw [zb_sg, nD_od]
  have hz' : zb (sg (nD n1 Y) (od Y)) = nD n1 Y := by rw [zb_sg, nD_od]
  have hm : ∀ w1, Ahead w w1 → Calls pr surdref06_Mul_id #[.agg (c2 (nD n0 X) s), .agg (c2 (nD n1 Y) t)] w1 fun e w' => Ahead w1 w' ∧ ZRet (sg (nD n0 X) (od X) * sg (nD n1 Y) (od Y)) e w' := fun w1 a1 => by
    have := zMul_spec (w := w1) (a := s) (b := t) (x := sg (nD n0 X) (od X)) (y := sg (nD n1 Y) (od Y)) (by rw [sg_abs]; exact r.ahead a1) (by rw [sg_abs]; exact r'.ahead a1) (by rw [sg_abs, sg_abs]; omega)
    rwa [hz, hz'] at this
  refine surdref08_Mul_v2 (nD n0 X) s (eD X e0) (nD n1 Y) t (eD Y e1) w _ fun w1 X1 a1 => Calls.mono (hm w1 a1) ?_
  rintro en w2 ⟨h2, u, rfl, ru⟩
  have eb : zb (sg (nD n0 X) (od X) * sg (nD n1 Y) (od Y)) = nD (!(nD n0 X == nD n1 Y)) (od X * od Y) := by rw [sg_sgm, zb_sg]
  have ea : (sg (nD n0 X) (od X) * sg (nD n1 Y) (od Y)).natAbs = od X * od Y := by rw [Int.natAbs_mul, sg_abs, sg_abs]
  rw [ea] at ru
  rw [eb, wrap_i64 (by omega) (by omega)]
  have hpl : (digs B32 (od X * od Y)).length ≤ 2 ^ 24 := by
    have h1 := bl_len32 (ok_digs two32 X)
    have h2 := bl_len32 (ok_digs two32 Y)
    rw [val_digs two32] at h1 h2
    have h3 := bl_mono (Nat.mul_le_mul (od_le X) (od_le Y))
    have h4 := bl_le_mul X Y
    exact digs_len_bl32 (by omega)
  refine ⟨_, _, rfl, h2, Calls.mono (dOf_spec ru (by omega) (by omega)) ?_⟩
  rintro en w3 ⟨h3, s3, rfl, r3⟩
  exact ⟨_, _, _, rfl, h3, fun w4 X4 a4 => ⟨s3, rfl, r3.ext X4⟩⟩

theorem alk {w : World} {b neg : Bool} {s t : Slc} {x c E : Int} {N : Nat} (h : PAns b x c neg N E) (hs : Rd .u64 w s (nn (LL c N))) (r : RN w t (od N)) (hl : (digs B32 N).length ≤ 2 ^ 46) :
    Calls pr surdlaw08_alike_id #[.agg (c3 b s x), .int .i64 c, .agg (c3 (nD neg N) t (eD N E)), .int .i64 0] w fun en w' => Ahead w w' ∧ en = .returned (.bool true) := by
  have := alike_spec (w := w) (neg := nD neg N) (s := s) (t := t) (n := od N) (e := eD N E) (e2 := eD N E) (code := c) (f := 0) (wn := nD neg N) r (Nat.le_trans (len_mono two32 (od_le N)) hl) (by rw [if_pos rfl]; exact h.pc) (fun _ => rfl) (fun _ => rfl) hs len64_of
  rw [← h.pb, ← h.px] at this
  exact this

structure Ow (base : Nat) (w : World) (ps : List (Slc × List Nat)) : Prop where
  own : ∀ p ∈ ps, OwnNil base w p.1 p.2 ∧ (p.2.length + 5) * 8 ≤ 2 ^ 47
  ap : ps.Pairwise fun p q => ∀ k, Bk p.1 k → ¬ Bk q.1 k
theorem Ow.nil {base : Nat} {w : World} : Ow base w [] := ⟨fun p hp => (by cases hp), List.Pairwise.nil⟩
theorem Ow.ext {base : Nat} {w w' : World} {ps : List (Slc × List Nat)} (h : Ow base w ps) (x : Ext w w') : Ow base w' ps := ⟨fun p hp => ⟨(h.own p hp).1.ext x, (h.own p hp).2⟩, h.ap⟩
theorem Ow.ahead {base : Nat} {w w' : World} {ps : List (Slc × List Nat)} (h : Ow base w ps) (x : Ahead w w') : Ow base w' ps := h.ext x.ext
theorem Ow.add {base : Nat} {w w' : World} {ps : List (Slc × List Nat)} {s : Slc} {l : List Nat} (h : Ow base w ps) (a : Ahead w w') (hb : base ≤ w.heap.size) (o : OwnNil w.heap.size w' s l) (hl : (l.length + 5) * 8 ≤ 2 ^ 47) : Ow base w' (ps ++ [(s, l)]) := by
  refine ⟨fun p hp => ?_, List.pairwise_append.2 ⟨h.ap, by simp, fun p hp q hq j => ?_⟩⟩
  · rcases List.mem_append.1 hp with h1 | h1
    · exact (h.ahead a).own p h1
    · have : p = (s, l) := by simpa using h1
      subst this
      exact ⟨o.mono hb, hl⟩
  · have : q = (s, l) := by simpa using hq
    subst this
    exact old_new (h.own p hp).1 (Nat.le_refl _) o j
theorem Ow.rd {base : Nat} {w : World} {ps : List (Slc × List Nat)} (h : Ow base w ps) {s : Slc} {l : List Nat} (hm : (s, l) ∈ ps) : Rd .u64 w s (nn l) := (h.own _ hm).1.rd
theorem bk_ge {base k : Nat} {w : World} {s : Slc} {l : List Nat} (h : OwnNil base w s l) (hb : Bk s k) : base ≤ k := by
  rcases h with ⟨h1, _⟩ | ⟨b, h1, _, ho⟩
  · rw [h1] at hb; simp [Bk] at hb
  · have e : b = k := congrArg Addr.block (Option.some.inj (ho.A.symm.trans hb))
    omega
theorem Ow.keep {b : Nat} {w w' : World} {ps : List (Slc × List Nat)} (h : Ow (b + 1) w ps) (hk : ∀ k, k ≠ b → w'.heap[k]? = w.heap[k]?) : Ow (b + 1) w' ps :=
  ⟨fun p hp => ⟨Ref.OwnNil.block (h.own p hp).1 fun k _ hbk => hk k (by have := bk_ge (h.own p hp).1 hbk; omega), (h.own p hp).2⟩, h.ap⟩

theorem ldO {t : TypeId} {w : World} {s : Slc} {l : List Nat} {b : Nat} (h : Own .u64 tU64 w s (nn l) b) {j : Nat} (h1 : j < l.length) {K : Int → Prop} (hk : K ((l.getD j 0 : Nat) : Int)) (hT : isSl pr t .u64 = some tU64 := by kernel_rfl) :
    semA pr (Instr.indexAt t s.v (.int .i64 (j : Int))) w fun ad w1 => w1 = w ∧ ldI .u64 ad w K := by
  unfold semA
  rw [Sem.wp_iff_run, run_indexAt hT w s j _ h.A (by omega) (by rw [h.n]; simpa using h1)]
  refine ⟨_, rfl, rfl, ?_⟩
  rw [add_off, Int.toNat_natCast]
  have hj : j < (nn l).length := by simpa using h1
  exact ⟨_, h.cell hj, by rwa [nn_getD]⟩
theorem stO {t : TypeId} {w0 w : World} {s : Slc} {l : List Nat} {b : Nat} (h : Own .u64 tU64 w s (nn l) b) (hb : w0.heap.size ≤ b) {j : Nat} (h1 : j < l.length) {x : Nat} {K : World → Prop}
    (hk : ∀ w', Own .u64 tU64 w' s (nn (l.set j x)) b → (∀ wa, Ahead wa w → wa.heap.size ≤ b → Ahead wa w') → (∀ k, k ≠ b → w'.heap[k]? = w.heap[k]?) → K w')
    (hT : isSl pr t .u64 = some tU64 := by kernel_rfl) : semA pr (Instr.indexAt t s.v (.int .i64 (j : Int))) w fun ad w1 => w1 = w ∧ stC ad (.int .u64 (x : Int)) w fun w2 => OwnStep w0 w w2 ∧ K w2 := by
  unfold semA
  rw [Sem.wp_iff_run, run_indexAt hT w s j _ h.A (by omega) (by rw [h.n]; simpa using h1)]
  refine ⟨_, rfl, rfl, ?_⟩
  rw [add_off, Int.toNat_natCast]
  have ho := h.set (i := j) (by simpa using h1) (x : Int)
  rw [nn_set] at ho
  have hkp : ∀ k, k ≠ b → (w.setCell ⟨b, j, none⟩ (.int .u64 (x : Int))).heap[k]? = w.heap[k]? := fun k hk => Below.heap_setCell _ _ _ _ (by simpa using hk)
  refine ⟨⟨_, h.cell (by simpa using h1)⟩, h.frozen _, ⟨fun k => k = b, ⟨rfl, rfl, rfl, by simp [World.setCell], fun k _ hv => hkp k hv⟩, fun k hv => ⟨?_, fun t cs hc ht => ?_⟩⟩, hk _ ho (fun wa ha hw => Ahead.setCell ha hw) hkp⟩
  · have hv' : k = b := hv
    omega
  · have hv' : k = b := hv
    subst hv'
    obtain ⟨sp, _, hm⟩ := h.mem
    rw [hm] at hc
    have := Option.some.inj hc
    injection this with q1 q2 q3
    rw [← q2] at ht
    simp [rowTy] at ht
theorem xor_nine {x : Nat} (hx : x < B64) : xorI .u64 (x : Int) 9 = ((x ^^^ 9 : Nat) : Int) ∧ x ^^^ 9 < B64 := by
  have h1 : x ^^^ 9 < 2 ^ 64 := Nat.xor_lt_two_pow (by rw [B64v] at hx; omega) (by omega)
  refine ⟨?_, by rw [B64v]; omega⟩
  rw [B64v] at hx
  unfold xorI
  have e1 : BitVec.ofInt 64 (x : Int) = BitVec.ofNat 64 x := BitVec.ofInt_natCast ..
  have e2 : BitVec.ofInt 64 (9 : Int) = BitVec.ofNat 64 9 := rfl
  show IntKind.u64.wrap ((BitVec.ofInt 64 (x : Int) ^^^ BitVec.ofInt 64 (9 : Int)).toNat : Int) = _
  rw [e1, e2, BitVec.toNat_xor, BitVec.toNat_ofNat, BitVec.toNat_ofNat, Nat.mod_eq_of_lt (by omega), Nat.mod_eq_of_lt (by omega)]
  exact wrap_u64' (by omega) (by omega)
end Do
end Go.Proofs.YtahbekmnphkiiaaDoor
namespace Go.Proofs.YtahbekmnphkiiaaDoor
open Go Go.RowKit Eng Sp Dg L2
set_option linter.unusedVariables false
set_option linter.unusedSimpArgs false
set_option maxRecDepth 100000
namespace Do
open _root_.Go.Proofs.YtahbekmnphkiiaaDoor.Nat (OwnNil Num Num.bl Num.ext Num.ahead OwnNil.mono OwnNil.ext OwnNil.rd OwnNil.ahead OwnNil.nil digs_len_bl num_of Yes mkN ldN stN)
open _root_.Go.Proofs.YtahbekmnphkiiaaDoor.Ref (RN RN.ext RN.ahead len_mono own_step Bk len32)
open Dy
open Sb

theorem set_take {l : List Nat} {j : Nat} (hj : j < l.length) : (l.take j ++ List.replicate (l.length - j) 0).set j (l.getD j 0) = l.take (j + 1) ++ List.replicate (l.length - (j + 1)) 0 := by
  have e : List.replicate (l.length - j) 0 = 0 :: List.replicate (l.length - (j + 1)) 0 := by
    rw [show l.length - j = (l.length - (j + 1)) + 1 by omega]; rfl
  have hl : (l.take j).length = j := by simp; omega
  rw [e, List.set_append_right _ _ (by omega), hl, Nat.sub_self, List.set_cons_zero, List.take_succ_eq_append_getElem hj, getD_lt _ _ hj, List.append_assoc]
  rfl
theorem Copy_spec {w : World} {s : Slc} {l : List Nat} (h : Rd .u64 w s (nn l)) (hl : l.length ≤ 2 ^ 44) :
    Calls pr surdref01_Copy_id #[s.v] w fun e w' => Ahead w w' ∧ ∃ s', e = .returned (Slc.v s') ∧ Own .u64 tU64 w' s' (nn l) w.heap.size := by
  have hn : s.n = l.length := by rw [h.n, nn_length]
  refine surdref01_Copy_vc s w _ (fun out t n i w' => t = s ∧ n = (l.length : Int) ∧ Ahead w w' ∧ ∃ j : Nat, i = (j : Int) ∧ j ≤ l.length ∧ Own .u64 tU64 w' out (nn (l.take j ++ List.replicate (l.length - j) 0)) w.heap.size) (fun _ _ n i _ => (n - i).toNat) ?_ ?_
  · refine mkN (by omega) (by omega) fun s' w1 _ ho ha _ => ⟨rfl, by rw [hn], ha, 0, rfl, Nat.zero_le _, ?_⟩
    have e : (s.n : Int).toNat = l.length := by omega
    rw [e] at ho
    simpa using ho
  · rintro out t n i w1 ⟨rfl, rfl, ha, j, rfl, hj, ho⟩
    refine br_intro (fun hlt => ?_) (fun hge => ?_)
    · have hj' : j < l.length := by have := of_decide_eq_true hlt; omega
      have e8 : IntKind.i64.wrap ((j : Int) + 1) = ((j + 1 : Nat) : Int) := by rw [wrap_i64 (by omega) (by omega)]; omega
      refine ldN (h.ahead ha) (by omega) (by omega) ?_
      rw [Int.toNat_natCast]
      refine stN ho (by omega) (by simp; omega) fun w2 ho2 ha2 _ => ?_
      rw [Int.toNat_natCast, set_take hj'] at ho2
      exact ⟨⟨rfl, rfl, ha2 w ha (Nat.le_refl _), j + 1, e8, hj', ho2⟩, by rw [e8]; omega⟩
    · have hj' : j = l.length := by have := of_decide_eq_false hge; omega
      subst hj'
      rw [List.take_length, Nat.sub_self, List.replicate_zero, List.append_nil] at ho
      exact ⟨ha, _, rfl, ho⟩

/-- A number whose digits lie in another block. -/
structure RNo (bb : Nat) (w : World) (s : Slc) (n : Nat) : Prop where
  r : RN w s n
  off : ∀ ad, s.A = some ad → digs B32 n ≠ [] → ad.block ≠ bb
theorem RNo.of {w : World} {s : Slc} {n : Nat} (h : RN w s n) : RNo w.heap.size w s n := by
  refine ⟨h, fun ad hA hne he => ?_⟩
  have hp : 0 < (nn (digs B32 n)).length := by rw [nn_length]; exact List.length_pos_iff.2 hne
  obtain ⟨ad', e', hc⟩ := Sp.Rd.get h 0 hp
  rw [hA] at e'
  obtain rfl := Option.some.inj e'
  have hno : w.heap[(ad.add 0).block]? = none := by rw [Eng.add_block, he]; simp
  simp [World.cell?, hno] at hc
theorem RNo.ext {bb : Nat} {w w' : World} {s : Slc} {n : Nat} (h : RNo bb w s n) (x : Ext w w') : RNo bb w' s n := ⟨h.r.ext x, h.off⟩
theorem RNo.keep {bb : Nat} {w w' : World} {s : Slc} {n : Nat} (h : RNo bb w s n) (hk : ∀ k, k ≠ bb → w'.heap[k]? = w.heap[k]?) : RNo bb w' s n := by
  refine ⟨⟨Sp.Rd.n h.r, Sp.Rd.c h.r, fun i hi => ?_⟩, h.off⟩
  obtain ⟨ad, e, hc⟩ := Sp.Rd.get h.r i hi
  refine ⟨ad, e, ?_⟩
  have hne : ad.block ≠ bb := h.off ad e (by intro h0; rw [h0] at hi; simp at hi)
  simp only [World.cell?] at hc ⊢
  rw [hk _ (by rw [Eng.add_block]; exact hne)]
  exact hc

abbrev PR (b : Bool) (x c : Int) (n0 : Bool) (X : Nat) (e0 pos : Int) : Prop := PAns b x c (nD n0 X) (NR n0 X e0 pos) (rE (od X) (eD X e0) pos)
abbrev PM (b : Bool) (x c : Int) (n0 n1 : Bool) (X Y : Nat) (e0 e1 : Int) : Prop := PAns b x c (!(nD n0 X == nD n1 Y)) (od X * od Y) (eD X e0 + eD Y e1)
abbrev PA (b : Bool) (x c : Int) (X : Nat) (e0 : Int) : Prop := PAns b x c false (od X) (eD X e0)

set_option maxHeartbeats 4000000 in
theorem DyadicOwn_ok {w : World} (hT : Tab w) {n0 : Bool} {s0 : Slc} {e0 : Int} {l0 : List Nat} (r0 : Rd .u64 w s0 (nn l0)) (o0 : ok B64 l0) (z0 : l0.length ≤ 1048576) (he0 : -9223372036854775808 ≤ e0 ∧ e0 ≤ 9223372036854775807)
    {n1 : Bool} {s1 : Slc} {e1 : Int} {l1 : List Nat} (r1 : Rd .u64 w s1 (nn l1)) (o1 : ok B64 l1) (z1 : l1.length ≤ 1048576) (he1 : -9223372036854775808 ≤ e1 ∧ e1 ≤ 9223372036854775807)
    {x2 : Int} (hx2 : -9223372036854775808 ≤ x2 ∧ x2 ≤ 9223372036854775807) :
    Calls pr surdlaw08_DyadicOwn_id #[.agg (c3 n0 s0 e0), .agg (c3 n1 s1 e1), .int .i64 x2] w (Yes w) := by
  have hX64 := Nat.le_trans (Nat.len_le o0) z0
  have hY64 := Nat.le_trans (Nat.len_le o1) z1
  have hX32 : (digs B32 (val B64 l0)).length ≤ 2 ^ 22 := by have := len32 o0; omega
  have hY32 : (digs B32 (val B64 l1)).length ≤ 2 ^ 22 := by have := len32 o1; omega
  have NX : ∀ {w'}, Ahead w w' → Num w' s0 (val B64 l0) := fun a => num_of (r0.ahead a) o0 (by omega)
  have NY : ∀ {w'}, Ahead w w' → Num w' s1 (val B64 l1) := fun a => num_of (r1.ahead a) o1 (by omega)
  have ofX : ∀ {w'}, Ahead w w' → Calls pr surdlaw08_of_id #[.agg (c3 n0 s0 e0)] w' fun en w2 => Ahead w' w2 ∧ ∃ s', en = .returned (.tuple #[.agg (c3 (if wi e0 then nD n0 (val B64 l0) else false) s' (if wi e0 then eD (val B64 l0) e0 else 0)), .bool (decide (wi e0))]) ∧ RN w2 s' (if wi e0 then od (val B64 l0) else 0) := fun a => of_spec (r0.ahead a) (by omega) o0
  have ofY : ∀ {w'}, Ahead w w' → Calls pr surdlaw08_of_id #[.agg (c3 n1 s1 e1)] w' fun en w2 => Ahead w' w2 ∧ ∃ s', en = .returned (.tuple #[.agg (c3 (if wi e1 then nD n1 (val B64 l1) else false) s' (if wi e1 then eD (val B64 l1) e1 else 0)), .bool (decide (wi e1))]) ∧ RN w2 s' (if wi e1 then od (val B64 l1) else 0) := fun a => of_spec (r1.ahead a) (by omega) o1
  have end_ : ∀ w', Ahead w w' → Calls pr surdlaw08_awake_id #[] w' fun e w2 => ∃ b : Bool, e = .returned (.bool b) ∧ Ahead w' w2 ∧ Yes w (.returned (.bool b)) w2 := fun w' a =>
    Calls.mono (awake_spec (hT.ahead a)) fun e w2 ⟨h1, h2⟩ => ⟨true, h1, h2, rfl, a.trans h2⟩
  have fX := eD_far (e := e0) (NX (Ahead.refl _))
  have fY := eD_far (e := e1) (NY (Ahead.refl _))
  generalize hX : val B64 l0 = X at *
  generalize hY : val B64 l1 = Y at *
  refine Calls.mono (surdlaw08_DyadicOwn_v2 n0 s0 e0 n1 s1 e1 x2 w (Yes w)
    -- J0
    (fun t2 t11 t14 t16 t18 t20 t86 t87 t3_0 t3_1 t3_2 t4_0 t4_1 t4_2 t7_0 t7_1 t7_2 t9_0 t9_1 t9_2 t12_0 t12_1 t12_2 t13_0 t13_1 t13_2 t15_0 t15_1 t15_2 t17_0 t17_1 t17_2 t19_0 t19_1 t19_2 w' =>
      (x2 = t2 ∧ n1 = t4_0 ∧ s1 = t4_1 ∧ e1 = t4_2 ∧ t7_0 = nD n0 X ∧ t7_2 = eD X e0 ∧ t9_0 = nD n1 Y ∧ t9_2 = eD Y e1 ∧ n0 = t12_0 ∧ e0 = t12_2 ∧ n0 = t3_0 ∧ e0 = t3_2 ∧ t11 = t12_1) ∧ wi e0 ∧ wi e1 ∧ wi x2 ∧
      ∃ (bb : Nat) (L : List Nat) (j : Nat), t86 = (l0.length : Int) ∧ t87 = (j : Int) ∧ j ≤ l0.length ∧ L.length = l0.length ∧ ok B64 L ∧ RNo bb w' t7_1 (od X) ∧ RNo bb w' t9_1 (od Y) ∧ w.heap.size ≤ bb ∧ bb < w'.heap.size ∧ Own .u64 tU64 w' t11 (nn L) bb ∧
        PR t13_0 t13_2 t14 n0 X e0 x2 ∧ PM t15_0 t15_2 t16 n0 n1 X Y e0 e1 ∧ PR t17_0 t17_2 t18 n0 X e0 x2 ∧ PA t19_0 t19_2 t20 X e0 ∧
        Ow (bb + 1) w' [(t13_1, LL t14 (NR n0 X e0 x2)), (t15_1, LL t16 (od X * od Y)), (t17_1, LL t18 (NR n0 X e0 x2)), (t19_1, LL t20 (od X))])
    (fun _ _ _ _ _ _ n i _ => (n - i).toNat)
    -- K10
    (fun t2 t11 t14 t16 t3_0 t3_1 t3_2 t4_0 t4_1 t4_2 t7_0 t7_1 t7_2 t9_0 t9_1 t9_2 t12_0 t12_1 t12_2 t13_0 t13_1 t13_2 t15_0 t15_1 t15_2 w' =>
      (x2 = t2 ∧ n1 = t4_0 ∧ s1 = t4_1 ∧ e1 = t4_2 ∧ t7_0 = nD n0 X ∧ t7_2 = eD X e0 ∧ t9_0 = nD n1 Y ∧ t9_2 = eD Y e1 ∧ n0 = t12_0 ∧ e0 = t12_2 ∧ n0 = t3_0 ∧ e0 = t3_2 ∧ t11 = t12_1) ∧ wi e0 ∧ wi e1 ∧ wi x2 ∧
      ∃ (bb : Nat), RNo bb w' t7_1 (od X) ∧ RNo bb w' t9_1 (od Y) ∧ w.heap.size ≤ bb ∧ bb < w'.heap.size ∧ Own .u64 tU64 w' t11 (nn l0) bb ∧
        PR t13_0 t13_2 t14 n0 X e0 x2 ∧ PM t15_0 t15_2 t16 n0 n1 X Y e0 e1 ∧ Ow (bb + 1) w' [(t13_1, LL t14 (NR n0 X e0 x2)), (t15_1, LL t16 (od X * od Y))])
    -- K18
    (fun t2 t14 t16 t18 t20 t4_0 t4_1 t4_2 t7_0 t7_1 t7_2 t9_0 t9_1 t9_2 t12_0 t12_1 t12_2 t13_0 t13_1 t13_2 t15_0 t15_1 t15_2 t17_0 t17_1 t17_2 t19_0 t19_1 t19_2 t22_0 t22_1 t22_2 w' =>
      (x2 = t2 ∧ n1 = t4_0 ∧ s1 = t4_1 ∧ e1 = t4_2 ∧ t7_0 = nD n0 X ∧ t7_2 = eD X e0 ∧ t9_0 = nD n1 Y ∧ t9_2 = eD Y e1 ∧ n0 = t12_0 ∧ e0 = t12_2) ∧ wi e0 ∧ wi e1 ∧ wi x2 ∧
      ∃ (base X' : Nat), t22_0 = nD n0 X' ∧ t22_2 = eD X' e0 ∧ (digs B64 X').length ≤ 1048576 ∧ (digs B32 X').length ≤ 2 ^ 22 ∧ Num w' t12_1 X' ∧ RN w' t7_1 (od X) ∧ RN w' t9_1 (od Y) ∧ RN w' t22_1 (od X') ∧ w.heap.size ≤ base ∧ base ≤ w'.heap.size ∧
        PR t13_0 t13_2 t14 n0 X e0 x2 ∧ PM t15_0 t15_2 t16 n0 n1 X Y e0 e1 ∧ PR t17_0 t17_2 t18 n0 X e0 x2 ∧ PA t19_0 t19_2 t20 X e0 ∧
        Ow base w' [(t13_1, LL t14 (NR n0 X e0 x2)), (t15_1, LL t16 (od X * od Y)), (t17_1, LL t18 (NR n0 X e0 x2)), (t19_1, LL t20 (od X))])
    -- K20
    (fun t2 t14 t16 t18 t20 t24 t26 t7_0 t7_1 t7_2 t9_0 t9_1 t9_2 t12_0 t12_1 t12_2 t13_0 t13_1 t13_2 t15_0 t15_1 t15_2 t17_0 t17_1 t17_2 t19_0 t19_1 t19_2 t22_0 t22_1 t22_2 t23_0 t23_1 t23_2 t25_0 t25_1 t25_2 w' =>
      (x2 = t2 ∧ t7_0 = nD n0 X ∧ t7_2 = eD X e0 ∧ t9_0 = nD n1 Y ∧ t9_2 = eD Y e1 ∧ n0 = t12_0 ∧ e0 = t12_2) ∧ wi e0 ∧ wi e1 ∧ wi x2 ∧
      ∃ (base X' : Nat), t22_0 = nD n0 X' ∧ t22_2 = eD X' e0 ∧ (digs B64 X').length ≤ 1048576 ∧ (digs B32 X').length ≤ 2 ^ 22 ∧ Num w' t12_1 X' ∧ RN w' t7_1 (od X) ∧ RN w' t9_1 (od Y) ∧ RN w' t22_1 (od X') ∧ w.heap.size ≤ base ∧ base ≤ w'.heap.size ∧
        PR t13_0 t13_2 t14 n0 X e0 x2 ∧ PM t15_0 t15_2 t16 n0 n1 X Y e0 e1 ∧ PR t17_0 t17_2 t18 n0 X e0 x2 ∧ PA t19_0 t19_2 t20 X e0 ∧ PR t23_0 t23_2 t24 n0 X' e0 x2 ∧ PM t25_0 t25_2 t26 n0 n1 X' Y e0 e1 ∧
        Ow base w' [(t13_1, LL t14 (NR n0 X e0 x2)), (t15_1, LL t16 (od X * od Y)), (t17_1, LL t18 (NR n0 X e0 x2)), (t19_1, LL t20 (od X)), (t23_1, LL t24 (NR n0 X' e0 x2)), (t25_1, LL t26 (od X' * od Y))])
    ?_ ?_ ?_ ?_ ?_) fun e w' ⟨h1, h2⟩ => h2
  · intro w1 X1 a1
    refine Calls.mono (ofX a1) ?_
    rintro en w2 ⟨h2, sm, rfl, rm⟩
    have a2 := a1.trans h2
    refine ⟨_, _, _, _, rfl, h2, fun w3 X3 a3 => Calls.mono (ofY a3) ?_⟩
    rintro en w4 ⟨h4, sn, rfl, rn⟩
    have a4 := a3.trans h4
    refine ⟨_, _, _, _, rfl, h4, br_intro (fun _ => fun w5 X5 a5 => end_ w5 a5) (fun hw => br_intro (fun _ => fun w7 X7 a7 => end_ w7 a7) (fun hw' => fun w9 X9 a9 => ?_))⟩
    have we : wi e0 := by simpa using hw
    have we' : wi e1 := by simpa using hw'
    rw [if_pos we] at rm
    rw [if_pos we'] at rn
    rw [if_pos we, if_pos we, if_pos we', if_pos we']
    refine Calls.mono fit_spec ?_
    rintro en w10 ⟨rfl, rfl⟩
    refine ⟨_, rfl, Ahead.refl _, br_intro (fun _ => end_ _ a9) (fun hp => ?_)⟩
    have wp : wi x2 := by simpa using hp
    refine Calls.mono (Copy_spec (r0.ahead a9) (by omega)) ?_
    rintro en w12 ⟨h12, l, rfl, ol⟩
    have a12 := a9.trans h12
    have rm9 : RN w10 sm (od X) := ((rm.ext X3).ahead h4).ext X9
    have rn9 : RN w10 sn (od Y) := rn.ext X9
    have hlt := ol.lt
    refine ⟨_, rfl, h12, fun w13 X13 a13 => ?_⟩
    have ol13 := ol.ext X13
    have nl13 : Num w13 l X := by rw [← hX]; exact num_of ol13.rd o0 (by omega)
    have sz13 := X13.size
    refine Calls.mono (rnd_ans (hT.ahead a13) nl13 hX64 we wp) ?_
    rintro en w14 ⟨h14, b9, s4, x3, x4, rfl, p1, q1⟩
    have O14 : Ow (w10.heap.size + 1) w14 [(s4, LL x4 (NR n0 X e0 x2))] := Ow.nil.add h14 (by omega) q1 (LL_len p1)
    refine ⟨_, _, _, _, rfl, h14, fun w15 X15 a15 => Calls.mono in_spec ?_⟩
    rintro en w16 ⟨h16, rfl⟩
    refine ⟨_, _, _, rfl, h16, fun w17 X17 a17 => ?_⟩
    have X1317 := h14.ext.trans (X15.trans (h16.ext.trans X17))
    have sz17 := X1317.size
    refine Calls.mono (mul_ans (hT.ahead a17) (nl13.ext X1317) (NY a17) hX64 hY64 we we') ?_
    rintro en w18 ⟨h18, b11, s6, x6, x7, rfl, p2, q2⟩
    have O18 := (O14.ext (X15.trans (h16.ext.trans X17))).add h18 (by omega) q2 (LL_len p2)
    refine ⟨_, _, _, _, rfl, h18, fun w73 X73 a73 => ?_⟩
    have X1373 := X1317.trans (h18.ext.trans X73)
    have XA := h12.ext.trans (X13.trans X1373)
    have ol73 := ol13.ext X1373
    exact ⟨⟨rfl, rfl, rfl, rfl, rfl, rfl, rfl, rfl, rfl, rfl, rfl, rfl, rfl⟩, we, we', wp, w10.heap.size, (RNo.of rm9).ext XA, (RNo.of rn9).ext XA, a9.size, ol73.lt, ol73, p1, p2, O18.ext X73⟩
  · rintro t2 t11 t14 t16 t18 t20 t86 t87 t3_0 t3_1 t3_2 t4_0 t4_1 t4_2 t7_0 t7_1 t7_2 t9_0 t9_1 t9_2 t12_0 t12_1 t12_2 t13_0 t13_1 t13_2 t15_0 t15_1 t15_2 t17_0 t17_1 t17_2 t19_0 t19_1 t19_2 w1 hA
      ⟨⟨rfl, rfl, rfl, rfl, rfl, rfl, rfl, rfl, rfl, rfl, rfl, rfl, rfl⟩, we, we', wp, bb, L, j, rfl, rfl, hj, hL, okL, m7, m9, hbb, hlt, ol, p1, p2, p3, p4, O⟩
    refine br_intro (fun hl => ?_) (fun hg => ?_)
    · have hj' : j < l0.length := by have := of_decide_eq_true hl; omega
      have e8 : IntKind.i64.wrap ((j : Int) + 1) = ((j + 1 : Nat) : Int) := by rw [wrap_i64 (by omega) (by omega)]; omega
      refine ldO ol (by omega) ?_
      have hxo := xor_nine (ok_getD okL (by rw [B64v]; omega) j)
      rw [hxo.1]
      refine stO ol hbb (by omega) fun w2 ol2 ah2 keep => ⟨⟨⟨rfl, rfl, rfl, rfl, rfl, rfl, rfl, rfl, rfl, rfl, rfl, rfl, rfl⟩, we, we', wp, bb, _, j + 1, rfl, e8, hj', by simp [hL], ok_set okL hxo.2, m7.keep keep, m9.keep keep, hbb, ol2.lt, ol2, p1, p2, p3, p4, O.keep keep⟩, by rw [e8]; omega⟩
    · intro w25 X25 a25
      refine Calls.mono (zOf_spec (ol.ext X25).rd (by omega) okL) ?_
      rintro en w26 ⟨h26, s9, rfl, r9⟩
      have hX32' : (digs B32 (val B64 L)).length ≤ 2 ^ 22 := by have := len32 okL; omega
      have hX64' : (digs B64 (val B64 L)).length ≤ 1048576 := by have := Nat.len_le okL; omega
      refine ⟨_, _, rfl, h26, fun w27 X27 a27 => Calls.mono (dOf_spec (r9.ext X27) (by omega) (by unfold wi at we; omega)) ?_⟩
      rintro en w28 ⟨h28, s10, rfl, r10⟩
      refine ⟨_, _, _, rfl, h28, fun w63 X63 a63 => ?_⟩
      have XA := X25.trans (h26.ext.trans (X27.trans (h28.ext.trans X63)))
      have szA := XA.size
      exact ⟨⟨rfl, rfl, rfl, rfl, rfl, rfl, rfl, rfl, rfl, rfl⟩, we, we', wp, bb + 1, val B64 L, rfl, rfl, hX64', hX32', num_of (ol.ext XA).rd okL (by omega), m7.r.ext XA, m9.r.ext XA, r10.ext X63, by omega, by omega, p1, p2, p3, p4, O.ext XA⟩
  · rintro t2 t11 t14 t16 t3_0 t3_1 t3_2 t4_0 t4_1 t4_2 t7_0 t7_1 t7_2 t9_0 t9_1 t9_2 t12_0 t12_1 t12_2 t13_0 t13_1 t13_2 t15_0 t15_1 t15_2 w1 hA
      ⟨⟨rfl, rfl, rfl, rfl, rfl, rfl, rfl, rfl, rfl, rfl, rfl, rfl, rfl⟩, we, we', wp, bb, m7, m9, hbb, hlt, ol, p1, p2, O⟩
    have nl : Num w1 t11 X := by rw [← hX]; exact num_of ol.rd o0 (by omega)
    refine Calls.mono (rnd_ans (hT.ahead hA) nl hX64 we wp) ?_
    rintro en w19 ⟨h19, b12, s7, x8, x9, rfl, p3, q3⟩
    have O19 := O.add h19 (by omega) q3 (LL_len p3)
    refine ⟨_, _, _, _, rfl, h19, fun w20 X20 a20 => ?_⟩
    have X120 := h19.ext.trans X20
    have sz20 := X120.size
    refine Calls.mono (abs_ans (hT.ahead a20) (nl.ext X120) hX64 we) ?_
    rintro en w21 ⟨h21, b13, s8, x10, x11, rfl, p4, q4⟩
    have O21 := (O19.ext X20).add h21 (by omega) q4 (LL_len p4)
    refine ⟨_, _, _, _, rfl, h21, fun w72 X72 a72 => ?_⟩
    have XA := X120.trans (h21.ext.trans X72)
    have ol72 := ol.ext XA
    exact ⟨⟨rfl, rfl, rfl, rfl, rfl, rfl, rfl, rfl, rfl, rfl, rfl, rfl, rfl⟩, we, we', wp, bb, l0, 0, by rw [ol.n, nn_length], rfl, Nat.zero_le _, rfl, o0, m7.ext XA, m9.ext XA, hbb, ol72.lt, ol72, p1, p2, p3, p4, O21.ext X72⟩
  · rintro t2 t14 t16 t18 t20 t4_0 t4_1 t4_2 t7_0 t7_1 t7_2 t9_0 t9_1 t9_2 t12_0 t12_1 t12_2 t13_0 t13_1 t13_2 t15_0 t15_1 t15_2 t17_0 t17_1 t17_2 t19_0 t19_1 t19_2 t22_0 t22_1 t22_2 w1 hA
      ⟨⟨rfl, rfl, rfl, rfl, rfl, rfl, rfl, rfl, rfl, rfl⟩, we, we', wp, base, X', rfl, rfl, h64', h32', nl, m7, m9, m22, hb0, hb1, p1, p2, p3, p4, O⟩
    refine Calls.mono (rnd_ans (hT.ahead hA) nl h64' we wp) ?_
    rintro en w29 ⟨h29, b16, s11, x14, x15, rfl, p5, q5⟩
    have O29 := O.add h29 hb1 q5 (LL_len p5)
    refine ⟨_, _, _, _, rfl, h29, fun w30 X30 a30 => Calls.mono in_spec ?_⟩
    rintro en w31 ⟨h31, rfl⟩
    refine ⟨_, _, _, rfl, h31, fun w32 X32 a32 => ?_⟩
    have X132 := h29.ext.trans (X30.trans (h31.ext.trans X32))
    have sz32 := X132.size
    refine Calls.mono (mul_ans (hT.ahead a32) (nl.ext X132) (NY a32) h64' hY64 we we') ?_
    rintro en w33 ⟨h33, b18, s13, x17, x18, rfl, p6, q6⟩
    have O33 := (O29.ext (X30.trans (h31.ext.trans X32))).add h33 (by omega) q6 (LL_len p6)
    refine ⟨_, _, _, _, rfl, h33, fun w54 X54 a54 => ?_⟩
    have XA := X132.trans (h33.ext.trans X54)
    have szA := XA.size
    exact ⟨⟨rfl, rfl, rfl, rfl, rfl, rfl, rfl⟩, we, we', wp, base, X', rfl, rfl, h64', h32', nl.ext XA, m7.ext XA, m9.ext XA, m22.ext XA, hb0, by omega, p1, p2, p3, p4, p5, p6, O33.ext X54⟩
  · rintro t2 t14 t16 t18 t20 t24 t26 t7_0 t7_1 t7_2 t9_0 t9_1 t9_2 t12_0 t12_1 t12_2 t13_0 t13_1 t13_2 t15_0 t15_1 t15_2 t17_0 t17_1 t17_2 t19_0 t19_1 t19_2 t22_0 t22_1 t22_2 t23_0 t23_1 t23_2 t25_0 t25_1 t25_2 w1 hA
      ⟨⟨rfl, rfl, rfl, rfl, rfl, rfl, rfl⟩, we, we', wp, base, X', rfl, rfl, h64', h32', nl, m7, m9, m22, hb0, hb1, p1, p2, p3, p4, p5, p6, O⟩
    have gX : -2251799813685248 ≤ eD X e0 ∧ eD X e0 ≤ 2251799813685248 := by have := fX we; omega
    have gY : -2251799813685248 ≤ eD Y e1 ∧ eD Y e1 ≤ 2251799813685248 := by have := fY we'; omega
    have gX' : -2251799813685248 ≤ eD X' e0 ∧ eD X' e0 ≤ 2251799813685248 := by have := eD_far nl we; omega
    have lM : ∀ {U : Nat}, (digs B32 U).length ≤ 2 ^ 22 → (digs B32 (od U * od Y)).length ≤ 2 ^ 46 := fun {U} h => by
      have h1 := Ref.bl_len32 (ok_digs two32 U)
      have h2 := Ref.bl_len32 (ok_digs two32 Y)
      rw [val_digs two32] at h1 h2
      have h3 := bl_mono (Nat.mul_le_mul (od_le U) (od_le Y))
      have h4 := bl_le_mul U Y
      exact digs_len_bl32 (by omega)
    have lA : ∀ {U : Nat}, (digs B32 U).length ≤ 2 ^ 22 → (digs B32 (od U)).length ≤ 2 ^ 46 := fun {U} h => by
      have := len_mono two32 (od_le U)
      omega
    refine Calls.mono (abs_ans (hT.ahead hA) nl h64' we) ?_
    rintro en w34 ⟨h34, b19, s14, x19, x20, rfl, p7, q7⟩
    have O34 := O.add h34 hb1 q7 (LL_len p7)
    simp only [List.cons_append, List.nil_append] at O34
    refine ⟨_, _, _, _, rfl, h34, fun w35 X35 a35 => ?_⟩
    have X135 := h34.ext.trans X35
    have O35 := O34.ext X35
    have k7 := m7.ext X135
    have k9 := m9.ext X135
    have k22 := m22.ext X135
    -- the answers before
    refine Calls.mono (ref_rnd k7 hX32 gX wp) ?_
    rintro en w36 ⟨h36, u1, rfl, ru1⟩
    refine ⟨_, _, _, rfl, h36, Calls.mono (alk p1 ((O35.ahead h36).rd (by simp)) ru1 (hNR_len hX32)) ?_⟩
    rintro en w37 ⟨h37, rfl⟩
    have z37 := h36.trans h37
    refine ⟨_, rfl, h37, br_false rfl (Calls.mono (ref_rnd (k7.ahead z37) hX32 gX wp) ?_)⟩
    rintro en w38 ⟨h38, u2, rfl, ru2⟩
    refine ⟨_, _, _, rfl, h38, Calls.mono (alk p3 ((O35.ahead (z37.trans h38)).rd (by simp)) ru2 (hNR_len hX32)) ?_⟩
    rintro en w39 ⟨h39, rfl⟩
    have z39 := (z37.trans h38).trans h39
    refine ⟨_, rfl, h39, br_false rfl (Calls.mono (ref_mul (k7.ahead z39) (k9.ahead z39) hX32 hY32 gX gY) ?_)⟩
    rintro en w40 ⟨h40, u3, rfl, ru3⟩
    refine ⟨_, _, _, rfl, h40, Calls.mono (alk p2 ((O35.ahead (z39.trans h40)).rd (by simp)) ru3 (lM hX32)) ?_⟩
    rintro en w41 ⟨h41, rfl⟩
    have z41 := (z39.trans h40).trans h41
    refine ⟨_, rfl, h41, br_false rfl (Calls.mono (ref_abs (k7.ahead z41)) ?_)⟩
    rintro en w42 ⟨h42, u4, rfl, ru4⟩
    refine ⟨_, _, _, rfl, h42, Calls.mono (alk p4 ((O35.ahead (z41.trans h42)).rd (by simp)) ru4 (lA hX32)) ?_⟩
    rintro en w43 ⟨h43, rfl⟩
    have z43 := (z41.trans h42).trans h43
    refine ⟨_, rfl, h43, br_false rfl fun w44 X44 a44 => ?_⟩
    have X3544 := z43.ext.trans X44
    have O44 := O35.ext X3544
    have j9 := k9.ext X3544
    have j22 := k22.ext X3544
    -- the answers behind
    refine Calls.mono (ref_rnd j22 h32' gX' wp) ?_
    rintro en w45 ⟨h45, u5, rfl, ru5⟩
    refine ⟨_, _, _, rfl, h45, Calls.mono (alk p5 ((O44.ahead h45).rd (by simp)) ru5 (hNR_len h32')) ?_⟩
    rintro en w46 ⟨h46, rfl⟩
    have z46 := h45.trans h46
    refine ⟨_, rfl, h46, br_false rfl (Calls.mono (ref_mul (j22.ahead z46) (j9.ahead z46) h32' hY32 gX' gY) ?_)⟩
    rintro en w47 ⟨h47, u6, rfl, ru6⟩
    refine ⟨_, _, _, rfl, h47, Calls.mono (alk p6 ((O44.ahead (z46.trans h47)).rd (by simp)) ru6 (lM h32')) ?_⟩
    rintro en w48 ⟨h48, rfl⟩
    have z48 := (z46.trans h47).trans h48
    refine ⟨_, rfl, h48, br_false rfl (Calls.mono (ref_abs (j22.ahead z48)) ?_)⟩
    rintro en w49 ⟨h49, u7, rfl, ru7⟩
    refine ⟨_, _, _, rfl, h49, Calls.mono (alk p7 ((O44.ahead (z48.trans h49)).rd (by simp)) ru7 (lA h32')) ?_⟩
    rintro en w50 ⟨h50, rfl⟩
    have z50 := (z48.trans h49).trans h50
    have O50 := O44.ahead z50
    have sz35 := X135.size
    have sz44 := X3544.size
    have sz50 := z50.size
    have a50 := a44.trans z50
    refine ⟨_, rfl, h50, br_false rfl ?_⟩
    refine Calls.mono (own_step (w0 := w) (base := base) hb0 _ (by omega) O50.own O50.ap (by simp) rfl rfl) ?_
    rintro e w52 ⟨rfl, hst, hlow⟩
    have a52 : Ahead w w52 := Below.trans a50 (Below.mono hlow hb0)
    exact ⟨_, rfl, hst, br_true rfl (end_ w52 a52)⟩
end Do
end Go.Proofs.YtahbekmnphkiiaaDoor
