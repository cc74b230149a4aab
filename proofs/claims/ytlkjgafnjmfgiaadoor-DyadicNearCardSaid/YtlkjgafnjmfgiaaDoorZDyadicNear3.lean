/- What the law leans on, part 3. No condition. -/
import Derived.Test.YtlkjgafnjmfgiaaDoorZDyadicNear2
namespace Go.Proofs.YtlkjgafnjmfgiaaDoor
open Go Go.RowKit Eng
set_option linter.unusedVariables false

set_option maxRecDepth 100000 in
/-- surd/surdref06.Shift: function 32. -/
theorem surdref06_Shift_vc (a0_a_0 : Bool) (a0_a_1 : Slc) (a1_n : Int) (w : World) (R : Ending → World → Prop)
    
    (h : newC w #[Value.bool a0_a_0, a0_a_1.v] 33 fun ad1 w1 =>
    newC w1 #[Value.bool false, (⟨none, 0, 0⟩ : Slc).v] 33 fun ad2 w2 =>
    br (decide (a1_n ≥ 0))
    (ldB ad1 w2.drew fun b1 =>
     ldS (ad1.add 1) w2.drew fun s1 =>
     Calls Tryd.prog 48 #[s1.v, Value.int .i64 a1_n] w2.drew fun e1 w3 =>
     ∃ s2 : Slc, e1 = .returned s2.v ∧
     (Ahead w2.drew w3 ∧
      (Calls Tryd.prog 40 #[Value.bool b1, s2.v] w3 fun e2 w4 =>
       ∃ b2 : Bool, ∃ s3 : Slc, e2 = .returned (Value.agg #[Value.bool b2, s3.v]) ∧
       (Ahead w3 w4 ∧
        (stC ad2 (Value.bool b2) w4 fun w5 =>
         stC (ad2.add 1) s3.v w5 fun w6 =>
         ldB ad2 w6 fun b3 =>
         ldS (ad2.add 1) w6 fun s4 =>
         R (.returned (Value.agg #[Value.bool b3, s4.v])) w6)))))
    (ldS (ad1.add 1) w2 fun s5 =>
     Calls Tryd.prog 35 #[s5.v] w2 fun e3 w7 =>
     ∃ x1 : Int, e3 = .returned (Value.int .i64 x1) ∧
     (br (decide (a1_n < (IntKind.i64.wrap (0 - x1))))
      (ldB ad1 w7 fun b4 =>
       br b4
       (Calls Tryd.prog 34 #[Value.int .i64 (-1)] w7 fun e4 w8 =>
        ∃ b5 : Bool, ∃ s6 : Slc, e4 = .returned (Value.agg #[Value.bool b5, s6.v]) ∧
        (stC ad2 (Value.bool b5) w8 fun w9 =>
         stC (ad2.add 1) s6.v w9 fun w10 =>
         ldB ad2 w10 fun b6 =>
         ldS (ad2.add 1) w10 fun s7 =>
         R (.returned (Value.agg #[Value.bool b6, s7.v])) w10))
       (stC ad2 (Value.bool false) w7 fun w11 =>
        stC (ad2.add 1) ((⟨none, 0, 0⟩ : Slc).v) w11 fun w12 =>
        ldB ad2 w12 fun b7 =>
        ldS (ad2.add 1) w12 fun s8 =>
        R (.returned (Value.agg #[Value.bool b7, s8.v])) w12))
      (∃ V1 : Nat → Nat → Prop, Out (V1 0) ad1 (ldB ad1 w7.drew fun b8 =>
        ldS (ad1.add 1) w7.drew fun s9 =>
        (Calls Tryd.prog 50 #[Value.int .i64 1] w7.drew fun e5 w13 =>
         ∃ s10 : Slc, e5 = .returned s10.v ∧
         (Bar (V1 0) w7.drew w13 ∧
          ((Calls Tryd.prog 48 #[s10.v, Value.int .i64 (IntKind.i64.wrap (0 - a1_n))] w13 fun e6 w14 =>
            ∃ s11 : Slc, e6 = .returned s11.v ∧
            (Bar (V1 0) w13 w14 ∧
             ((Calls Tryd.prog 40 #[Value.bool false, s11.v] w14 fun e7 w15 =>
               ∃ b9 : Bool, ∃ s12 : Slc, e7 = .returned (Value.agg #[Value.bool b9, s12.v]) ∧
               (Bar (V1 0) w14 w15 ∧
                ((Calls Tryd.prog 49 #[Value.agg #[Value.bool b8, s9.v], Value.agg #[Value.bool b9, s12.v]] w15 fun e8 w16 =>
                  ∃ b10 : Bool, ∃ s13 : Slc, ∃ b11 : Bool, ∃ s14 : Slc, e8 = .returned (Value.tuple #[Value.agg #[Value.bool b10, s13.v], Value.agg #[Value.bool b11, s14.v]]) ∧
                  ((newC w16 #[Value.bool false, (⟨none, 0, 0⟩ : Slc).v] 33 fun ad3 w17 =>
                    Bar (V1 0) w16 w17 ∧
                    (newC w17 #[Value.bool false, (⟨none, 0, 0⟩ : Slc).v] 33 fun ad4 w18 =>
                     Bar (V1 0) w17 w18 ∧
                     (stC ad3 (Value.bool b10) w18 fun w19 =>
                      stC (ad3.add 1) s13.v w19 fun w20 =>
                      stC ad4 (Value.bool b11) w20 fun w21 =>
                      stC (ad4.add 1) s14.v w21 fun w22 =>
                      ldB ad3 w22 fun b12 =>
                      ldS (ad3.add 1) w22 fun s15 =>
                      stC ad2 (Value.bool b12) w22 fun w23 =>
                      stC (ad2.add 1) s15.v w23 fun w24 =>
                      ldB ad2 w24 fun b13 =>
                      ldS (ad2.add 1) w24 fun s16 =>
                      R (.returned (Value.agg #[Value.bool b13, s16.v])) w24))) ∧
                   (newC w16 #[Value.bool false, (⟨none, 0, 0⟩ : Slc).v] 33 fun ad5 w25 =>
                    Bar (V1 0) w16 w25 ∧
                    (newC w25 #[Value.bool false, (⟨none, 0, 0⟩ : Slc).v] 33 fun ad6 w26 =>
                     Bar (V1 0) w25 w26 ∧
                     (stC ad6 (Value.bool b10) w26 fun w27 =>
                      stC (ad6.add 1) s13.v w27 fun w28 =>
                      stC ad5 (Value.bool b11) w28 fun w29 =>
                      stC (ad5.add 1) s14.v w29 fun w30 =>
                      ldB ad6 w30 fun b14 =>
                      ldS (ad6.add 1) w30 fun s17 =>
                      stC ad2 (Value.bool b14) w30 fun w31 =>
                      stC (ad2.add 1) s17.v w31 fun w32 =>
                      ldB ad2 w32 fun b15 =>
                      ldS (ad2.add 1) w32 fun s18 =>
                      R (.returned (Value.agg #[Value.bool b15, s18.v])) w32))))) ∧
                 ((newC w15 #[Value.bool false, (⟨none, 0, 0⟩ : Slc).v] 33 fun ad7 w33 =>
                   Bar (V1 0) w15 w33 ∧
                   ((Calls Tryd.prog 49 #[Value.agg #[Value.bool b8, s9.v], Value.agg #[Value.bool b9, s12.v]] w33 fun e9 w34 =>
                     ∃ b16 : Bool, ∃ s19 : Slc, ∃ b17 : Bool, ∃ s20 : Slc, e9 = .returned (Value.tuple #[Value.agg #[Value.bool b16, s19.v], Value.agg #[Value.bool b17, s20.v]]) ∧
                     (newC w34 #[Value.bool false, (⟨none, 0, 0⟩ : Slc).v] 33 fun ad8 w35 =>
                      Bar (V1 0) w34 w35 ∧
                      (stC ad7 (Value.bool b16) w35 fun w36 =>
                       stC (ad7.add 1) s19.v w36 fun w37 =>
                       stC ad8 (Value.bool b17) w37 fun w38 =>
                       stC (ad8.add 1) s20.v w38 fun w39 =>
                       ldB ad7 w39 fun b18 =>
                       ldS (ad7.add 1) w39 fun s21 =>
                       stC ad2 (Value.bool b18) w39 fun w40 =>
                       stC (ad2.add 1) s21.v w40 fun w41 =>
                       ldB ad2 w41 fun b19 =>
                       ldS (ad2.add 1) w41 fun s22 =>
                       R (.returned (Value.agg #[Value.bool b19, s22.v])) w41))) ∧
                    (newC w33 #[Value.bool false, (⟨none, 0, 0⟩ : Slc).v] 33 fun ad9 w42 =>
                     Bar (V1 0) w33 w42 ∧
                     (Calls Tryd.prog 49 #[Value.agg #[Value.bool b8, s9.v], Value.agg #[Value.bool b9, s12.v]] w42 fun e10 w43 =>
                      ∃ b20 : Bool, ∃ s23 : Slc, ∃ b21 : Bool, ∃ s24 : Slc, e10 = .returned (Value.tuple #[Value.agg #[Value.bool b20, s23.v], Value.agg #[Value.bool b21, s24.v]]) ∧
                      (stC ad7 (Value.bool b20) w43 fun w44 =>
                       stC (ad7.add 1) s23.v w44 fun w45 =>
                       stC ad9 (Value.bool b21) w45 fun w46 =>
                       stC (ad9.add 1) s24.v w46 fun w47 =>
                       ldB ad7 w47 fun b22 =>
                       ldS (ad7.add 1) w47 fun s25 =>
                       stC ad2 (Value.bool b22) w47 fun w48 =>
                       stC (ad2.add 1) s25.v w48 fun w49 =>
                       ldB ad2 w49 fun b23 =>
                       ldS (ad2.add 1) w49 fun s26 =>
                       R (.returned (Value.agg #[Value.bool b23, s26.v])) w49))))) ∧
                  (newC w15 #[Value.bool false, (⟨none, 0, 0⟩ : Slc).v] 33 fun ad10 w50 =>
                   Bar (V1 0) w15 w50 ∧
                   ((Calls Tryd.prog 49 #[Value.agg #[Value.bool b8, s9.v], Value.agg #[Value.bool b9, s12.v]] w50 fun e11 w51 =>
                     ∃ b24 : Bool, ∃ s27 : Slc, ∃ b25 : Bool, ∃ s28 : Slc, e11 = .returned (Value.tuple #[Value.agg #[Value.bool b24, s27.v], Value.agg #[Value.bool b25, s28.v]]) ∧
                     (newC w51 #[Value.bool false, (⟨none, 0, 0⟩ : Slc).v] 33 fun ad11 w52 =>
                      Bar (V1 0) w51 w52 ∧
                      (stC ad11 (Value.bool b24) w52 fun w53 =>
                       stC (ad11.add 1) s27.v w53 fun w54 =>
                       stC ad10 (Value.bool b25) w54 fun w55 =>
                       stC (ad10.add 1) s28.v w55 fun w56 =>
                       ldB ad11 w56 fun b26 =>
                       ldS (ad11.add 1) w56 fun s29 =>
                       stC ad2 (Value.bool b26) w56 fun w57 =>
                       stC (ad2.add 1) s29.v w57 fun w58 =>
                       ldB ad2 w58 fun b27 =>
                       ldS (ad2.add 1) w58 fun s30 =>
                       R (.returned (Value.agg #[Value.bool b27, s30.v])) w58))) ∧
                    (newC w50 #[Value.bool false, (⟨none, 0, 0⟩ : Slc).v] 33 fun ad12 w59 =>
                     Bar (V1 0) w50 w59 ∧
                     (Calls Tryd.prog 49 #[Value.agg #[Value.bool b8, s9.v], Value.agg #[Value.bool b9, s12.v]] w59 fun e12 w60 =>
                      ∃ b28 : Bool, ∃ s31 : Slc, ∃ b29 : Bool, ∃ s32 : Slc, e12 = .returned (Value.tuple #[Value.agg #[Value.bool b28, s31.v], Value.agg #[Value.bool b29, s32.v]]) ∧
                      (stC ad12 (Value.bool b28) w60 fun w61 =>
                       stC (ad12.add 1) s31.v w61 fun w62 =>
                       stC ad10 (Value.bool b29) w62 fun w63 =>
                       stC (ad10.add 1) s32.v w63 fun w64 =>
                       ldB ad12 w64 fun b30 =>
                       ldS (ad12.add 1) w64 fun s33 =>
                       stC ad2 (Value.bool b30) w64 fun w65 =>
                       stC (ad2.add 1) s33.v w65 fun w66 =>
                       ldB ad2 w66 fun b31 =>
                       ldS (ad2.add 1) w66 fun s34 =>
                       R (.returned (Value.agg #[Value.bool b31, s34.v])) w66))))))))) ∧
              ((newC w14 #[Value.bool false, (⟨none, 0, 0⟩ : Slc).v] 33 fun ad13 w67 =>
                Bar (V1 0) w14 w67 ∧
                ((Calls Tryd.prog 40 #[Value.bool false, s11.v] w67 fun e13 w68 =>
                  ∃ b32 : Bool, ∃ s35 : Slc, e13 = .returned (Value.agg #[Value.bool b32, s35.v]) ∧
                  (Bar (V1 0) w67 w68 ∧
                   ((Calls Tryd.prog 49 #[Value.agg #[Value.bool b8, s9.v], Value.agg #[Value.bool b32, s35.v]] w68 fun e14 w69 =>
                     ∃ b33 : Bool, ∃ s36 : Slc, ∃ b34 : Bool, ∃ s37 : Slc, e14 = .returned (Value.tuple #[Value.agg #[Value.bool b33, s36.v], Value.agg #[Value.bool b34, s37.v]]) ∧
                     (newC w69 #[Value.bool false, (⟨none, 0, 0⟩ : Slc).v] 33 fun ad14 w70 =>
                      Bar (V1 0) w69 w70 ∧
                      (stC ad13 (Value.bool b33) w70 fun w71 =>
                       stC (ad13.add 1) s36.v w71 fun w72 =>
                       stC ad14 (Value.bool b34) w72 fun w73 =>
                       stC (ad14.add 1) s37.v w73 fun w74 =>
                       ldB ad13 w74 fun b35 =>
                       ldS (ad13.add 1) w74 fun s38 =>
                       stC ad2 (Value.bool b35) w74 fun w75 =>
                       stC (ad2.add 1) s38.v w75 fun w76 =>
                       ldB ad2 w76 fun b36 =>
                       ldS (ad2.add 1) w76 fun s39 =>
                       R (.returned (Value.agg #[Value.bool b36, s39.v])) w76))) ∧
                    (newC w68 #[Value.bool false, (⟨none, 0, 0⟩ : Slc).v] 33 fun ad15 w77 =>
                     Bar (V1 0) w68 w77 ∧
                     (Calls Tryd.prog 49 #[Value.agg #[Value.bool b8, s9.v], Value.agg #[Value.bool b32, s35.v]] w77 fun e15 w78 =>
                      ∃ b37 : Bool, ∃ s40 : Slc, ∃ b38 : Bool, ∃ s41 : Slc, e15 = .returned (Value.tuple #[Value.agg #[Value.bool b37, s40.v], Value.agg #[Value.bool b38, s41.v]]) ∧
                      (stC ad13 (Value.bool b37) w78 fun w79 =>
                       stC (ad13.add 1) s40.v w79 fun w80 =>
                       stC ad15 (Value.bool b38) w80 fun w81 =>
                       stC (ad15.add 1) s41.v w81 fun w82 =>
                       ldB ad13 w82 fun b39 =>
                       ldS (ad13.add 1) w82 fun s42 =>
                       stC ad2 (Value.bool b39) w82 fun w83 =>
                       stC (ad2.add 1) s42.v w83 fun w84 =>
                       ldB ad2 w84 fun b40 =>
                       ldS (ad2.add 1) w84 fun s43 =>
                       R (.returned (Value.agg #[Value.bool b40, s43.v])) w84)))))) ∧
                 (newC w67 #[Value.bool false, (⟨none, 0, 0⟩ : Slc).v] 33 fun ad16 w85 =>
                  Bar (V1 0) w67 w85 ∧
                  (Calls Tryd.prog 40 #[Value.bool false, s11.v] w85 fun e16 w86 =>
                   ∃ b41 : Bool, ∃ s44 : Slc, e16 = .returned (Value.agg #[Value.bool b41, s44.v]) ∧
                   (Bar (V1 0) w85 w86 ∧
                    (Calls Tryd.prog 49 #[Value.agg #[Value.bool b8, s9.v], Value.agg #[Value.bool b41, s44.v]] w86 fun e17 w87 =>
                     ∃ b42 : Bool, ∃ s45 : Slc, ∃ b43 : Bool, ∃ s46 : Slc, e17 = .returned (Value.tuple #[Value.agg #[Value.bool b42, s45.v], Value.agg #[Value.bool b43, s46.v]]) ∧
                     (stC ad13 (Value.bool b42) w87 fun w88 =>
                      stC (ad13.add 1) s45.v w88 fun w89 =>
                      stC ad16 (Value.bool b43) w89 fun w90 =>
                      stC (ad16.add 1) s46.v w90 fun w91 =>
                      ldB ad13 w91 fun b44 =>
                      ldS (ad13.add 1) w91 fun s47 =>
                      stC ad2 (Value.bool b44) w91 fun w92 =>
                      stC (ad2.add 1) s47.v w92 fun w93 =>
                      ldB ad2 w93 fun b45 =>
                      ldS (ad2.add 1) w93 fun s48 =>
                      R (.returned (Value.agg #[Value.bool b45, s48.v])) w93))))))) ∧
               (newC w14 #[Value.bool false, (⟨none, 0, 0⟩ : Slc).v] 33 fun ad17 w94 =>
                Bar (V1 0) w14 w94 ∧
                ((Calls Tryd.prog 40 #[Value.bool false, s11.v] w94 fun e18 w95 =>
                  ∃ b46 : Bool, ∃ s49 : Slc, e18 = .returned (Value.agg #[Value.bool b46, s49.v]) ∧
                  (Bar (V1 0) w94 w95 ∧
                   ((Calls Tryd.prog 49 #[Value.agg #[Value.bool b8, s9.v], Value.agg #[Value.bool b46, s49.v]] w95 fun e19 w96 =>
                     ∃ b47 : Bool, ∃ s50 : Slc, ∃ b48 : Bool, ∃ s51 : Slc, e19 = .returned (Value.tuple #[Value.agg #[Value.bool b47, s50.v], Value.agg #[Value.bool b48, s51.v]]) ∧
                     (newC w96 #[Value.bool false, (⟨none, 0, 0⟩ : Slc).v] 33 fun ad18 w97 =>
                      Bar (V1 0) w96 w97 ∧
                      (stC ad18 (Value.bool b47) w97 fun w98 =>
                       stC (ad18.add 1) s50.v w98 fun w99 =>
                       stC ad17 (Value.bool b48) w99 fun w100 =>
                       stC (ad17.add 1) s51.v w100 fun w101 =>
                       ldB ad18 w101 fun b49 =>
                       ldS (ad18.add 1) w101 fun s52 =>
                       stC ad2 (Value.bool b49) w101 fun w102 =>
                       stC (ad2.add 1) s52.v w102 fun w103 =>
                       ldB ad2 w103 fun b50 =>
                       ldS (ad2.add 1) w103 fun s53 =>
                       R (.returned (Value.agg #[Value.bool b50, s53.v])) w103))) ∧
                    (newC w95 #[Value.bool false, (⟨none, 0, 0⟩ : Slc).v] 33 fun ad19 w104 =>
                     Bar (V1 0) w95 w104 ∧
                     (Calls Tryd.prog 49 #[Value.agg #[Value.bool b8, s9.v], Value.agg #[Value.bool b46, s49.v]] w104 fun e20 w105 =>
                      ∃ b51 : Bool, ∃ s54 : Slc, ∃ b52 : Bool, ∃ s55 : Slc, e20 = .returned (Value.tuple #[Value.agg #[Value.bool b51, s54.v], Value.agg #[Value.bool b52, s55.v]]) ∧
                      (stC ad19 (Value.bool b51) w105 fun w106 =>
                       stC (ad19.add 1) s54.v w106 fun w107 =>
                       stC ad17 (Value.bool b52) w107 fun w108 =>
                       stC (ad17.add 1) s55.v w108 fun w109 =>
                       ldB ad19 w109 fun b53 =>
                       ldS (ad19.add 1) w109 fun s56 =>
                       stC ad2 (Value.bool b53) w109 fun w110 =>
                       stC (ad2.add 1) s56.v w110 fun w111 =>
                       ldB ad2 w111 fun b54 =>
                       ldS (ad2.add 1) w111 fun s57 =>
                       R (.returned (Value.agg #[Value.bool b54, s57.v])) w111)))))) ∧
                 (newC w94 #[Value.bool false, (⟨none, 0, 0⟩ : Slc).v] 33 fun ad20 w112 =>
                  Bar (V1 0) w94 w112 ∧
                  (Calls Tryd.prog 40 #[Value.bool false, s11.v] w112 fun e21 w113 =>
                   ∃ b55 : Bool, ∃ s58 : Slc, e21 = .returned (Value.agg #[Value.bool b55, s58.v]) ∧
                   (Bar (V1 0) w112 w113 ∧
                    (Calls Tryd.prog 49 #[Value.agg #[Value.bool b8, s9.v], Value.agg #[Value.bool b55, s58.v]] w113 fun e22 w114 =>
                     ∃ b56 : Bool, ∃ s59 : Slc, ∃ b57 : Bool, ∃ s60 : Slc, e22 = .returned (Value.tuple #[Value.agg #[Value.bool b56, s59.v], Value.agg #[Value.bool b57, s60.v]]) ∧
                     (stC ad20 (Value.bool b56) w114 fun w115 =>
                      stC (ad20.add 1) s59.v w115 fun w116 =>
                      stC ad17 (Value.bool b57) w116 fun w117 =>
                      stC (ad17.add 1) s60.v w117 fun w118 =>
                      ldB ad20 w118 fun b58 =>
                      ldS (ad20.add 1) w118 fun s61 =>
                      stC ad2 (Value.bool b58) w118 fun w119 =>
                      stC (ad2.add 1) s61.v w119 fun w120 =>
                      ldB ad2 w120 fun b59 =>
                      ldS (ad2.add 1) w120 fun s62 =>
                      R (.returned (Value.agg #[Value.bool b59, s62.v])) w120))))))))))) ∧
           ((newC w13 #[Value.bool false, (⟨none, 0, 0⟩ : Slc).v] 33 fun ad21 w121 =>
             Bar (V1 0) w13 w121 ∧
             ((Calls Tryd.prog 48 #[s10.v, Value.int .i64 (IntKind.i64.wrap (0 - a1_n))] w121 fun e23 w122 =>
               ∃ s63 : Slc, e23 = .returned s63.v ∧
               (Bar (V1 0) w121 w122 ∧
                ((Calls Tryd.prog 40 #[Value.bool false, s63.v] w122 fun e24 w123 =>
                  ∃ b60 : Bool, ∃ s64 : Slc, e24 = .returned (Value.agg #[Value.bool b60, s64.v]) ∧
                  (Bar (V1 0) w122 w123 ∧
                   ((Calls Tryd.prog 49 #[Value.agg #[Value.bool b8, s9.v], Value.agg #[Value.bool b60, s64.v]] w123 fun e25 w124 =>
                     ∃ b61 : Bool, ∃ s65 : Slc, ∃ b62 : Bool, ∃ s66 : Slc, e25 = .returned (Value.tuple #[Value.agg #[Value.bool b61, s65.v], Value.agg #[Value.bool b62, s66.v]]) ∧
                     (newC w124 #[Value.bool false, (⟨none, 0, 0⟩ : Slc).v] 33 fun ad22 w125 =>
                      Bar (V1 0) w124 w125 ∧
                      (stC ad21 (Value.bool b61) w125 fun w126 =>
                       stC (ad21.add 1) s65.v w126 fun w127 =>
                       stC ad22 (Value.bool b62) w127 fun w128 =>
                       stC (ad22.add 1) s66.v w128 fun w129 =>
                       ldB ad21 w129 fun b63 =>
                       ldS (ad21.add 1) w129 fun s67 =>
                       stC ad2 (Value.bool b63) w129 fun w130 =>
                       stC (ad2.add 1) s67.v w130 fun w131 =>
                       ldB ad2 w131 fun b64 =>
                       ldS (ad2.add 1) w131 fun s68 =>
                       R (.returned (Value.agg #[Value.bool b64, s68.v])) w131))) ∧
                    (newC w123 #[Value.bool false, (⟨none, 0, 0⟩ : Slc).v] 33 fun ad23 w132 =>
                     Bar (V1 0) w123 w132 ∧
                     (Calls Tryd.prog 49 #[Value.agg #[Value.bool b8, s9.v], Value.agg #[Value.bool b60, s64.v]] w132 fun e26 w133 =>
                      ∃ b65 : Bool, ∃ s69 : Slc, ∃ b66 : Bool, ∃ s70 : Slc, e26 = .returned (Value.tuple #[Value.agg #[Value.bool b65, s69.v], Value.agg #[Value.bool b66, s70.v]]) ∧
                      (stC ad21 (Value.bool b65) w133 fun w134 =>
                       stC (ad21.add 1) s69.v w134 fun w135 =>
                       stC ad23 (Value.bool b66) w135 fun w136 =>
                       stC (ad23.add 1) s70.v w136 fun w137 =>
                       ldB ad21 w137 fun b67 =>
                       ldS (ad21.add 1) w137 fun s71 =>
                       stC ad2 (Value.bool b67) w137 fun w138 =>
                       stC (ad2.add 1) s71.v w138 fun w139 =>
                       ldB ad2 w139 fun b68 =>
                       ldS (ad2.add 1) w139 fun s72 =>
                       R (.returned (Value.agg #[Value.bool b68, s72.v])) w139)))))) ∧
                 (newC w122 #[Value.bool false, (⟨none, 0, 0⟩ : Slc).v] 33 fun ad24 w140 =>
                  Bar (V1 0) w122 w140 ∧
                  (Calls Tryd.prog 40 #[Value.bool false, s63.v] w140 fun e27 w141 =>
                   ∃ b69 : Bool, ∃ s73 : Slc, e27 = .returned (Value.agg #[Value.bool b69, s73.v]) ∧
                   (Bar (V1 0) w140 w141 ∧
                    (Calls Tryd.prog 49 #[Value.agg #[Value.bool b8, s9.v], Value.agg #[Value.bool b69, s73.v]] w141 fun e28 w142 =>
                     ∃ b70 : Bool, ∃ s74 : Slc, ∃ b71 : Bool, ∃ s75 : Slc, e28 = .returned (Value.tuple #[Value.agg #[Value.bool b70, s74.v], Value.agg #[Value.bool b71, s75.v]]) ∧
                     (stC ad21 (Value.bool b70) w142 fun w143 =>
                      stC (ad21.add 1) s74.v w143 fun w144 =>
                      stC ad24 (Value.bool b71) w144 fun w145 =>
                      stC (ad24.add 1) s75.v w145 fun w146 =>
                      ldB ad21 w146 fun b72 =>
                      ldS (ad21.add 1) w146 fun s76 =>
                      stC ad2 (Value.bool b72) w146 fun w147 =>
                      stC (ad2.add 1) s76.v w147 fun w148 =>
                      ldB ad2 w148 fun b73 =>
                      ldS (ad2.add 1) w148 fun s77 =>
                      R (.returned (Value.agg #[Value.bool b73, s77.v])) w148)))))))) ∧
              (newC w121 #[Value.bool false, (⟨none, 0, 0⟩ : Slc).v] 33 fun ad25 w149 =>
               Bar (V1 0) w121 w149 ∧
               (Calls Tryd.prog 48 #[s10.v, Value.int .i64 (IntKind.i64.wrap (0 - a1_n))] w149 fun e29 w150 =>
                ∃ s78 : Slc, e29 = .returned s78.v ∧
                (Bar (V1 0) w149 w150 ∧
                 (Calls Tryd.prog 40 #[Value.bool false, s78.v] w150 fun e30 w151 =>
                  ∃ b74 : Bool, ∃ s79 : Slc, e30 = .returned (Value.agg #[Value.bool b74, s79.v]) ∧
                  (Bar (V1 0) w150 w151 ∧
                   (Calls Tryd.prog 49 #[Value.agg #[Value.bool b8, s9.v], Value.agg #[Value.bool b74, s79.v]] w151 fun e31 w152 =>
                    ∃ b75 : Bool, ∃ s80 : Slc, ∃ b76 : Bool, ∃ s81 : Slc, e31 = .returned (Value.tuple #[Value.agg #[Value.bool b75, s80.v], Value.agg #[Value.bool b76, s81.v]]) ∧
                    (stC ad21 (Value.bool b75) w152 fun w153 =>
                     stC (ad21.add 1) s80.v w153 fun w154 =>
                     stC ad25 (Value.bool b76) w154 fun w155 =>
                     stC (ad25.add 1) s81.v w155 fun w156 =>
                     ldB ad21 w156 fun b77 =>
                     ldS (ad21.add 1) w156 fun s82 =>
                     stC ad2 (Value.bool b77) w156 fun w157 =>
                     stC (ad2.add 1) s82.v w157 fun w158 =>
                     ldB ad2 w158 fun b78 =>
                     ldS (ad2.add 1) w158 fun s83 =>
                     R (.returned (Value.agg #[Value.bool b78, s83.v])) w158))))))))) ∧
            (newC w13 #[Value.bool false, (⟨none, 0, 0⟩ : Slc).v] 33 fun ad26 w159 =>
             Bar (V1 0) w13 w159 ∧
             ((Calls Tryd.prog 48 #[s10.v, Value.int .i64 (IntKind.i64.wrap (0 - a1_n))] w159 fun e32 w160 =>
               ∃ s84 : Slc, e32 = .returned s84.v ∧
               (Bar (V1 0) w159 w160 ∧
                ((Calls Tryd.prog 40 #[Value.bool false, s84.v] w160 fun e33 w161 =>
                  ∃ b79 : Bool, ∃ s85 : Slc, e33 = .returned (Value.agg #[Value.bool b79, s85.v]) ∧
                  (Bar (V1 0) w160 w161 ∧
                   ((Calls Tryd.prog 49 #[Value.agg #[Value.bool b8, s9.v], Value.agg #[Value.bool b79, s85.v]] w161 fun e34 w162 =>
                     ∃ b80 : Bool, ∃ s86 : Slc, ∃ b81 : Bool, ∃ s87 : Slc, e34 = .returned (Value.tuple #[Value.agg #[Value.bool b80, s86.v], Value.agg #[Value.bool b81, s87.v]]) ∧
                     (newC w162 #[Value.bool false, (⟨none, 0, 0⟩ : Slc).v] 33 fun ad27 w163 =>
                      Bar (V1 0) w162 w163 ∧
                      (stC ad27 (Value.bool b80) w163 fun w164 =>
                       stC (ad27.add 1) s86.v w164 fun w165 =>
                       stC ad26 (Value.bool b81) w165 fun w166 =>
                       stC (ad26.add 1) s87.v w166 fun w167 =>
                       ldB ad27 w167 fun b82 =>
                       ldS (ad27.add 1) w167 fun s88 =>
                       stC ad2 (Value.bool b82) w167 fun w168 =>
                       stC (ad2.add 1) s88.v w168 fun w169 =>
                       ldB ad2 w169 fun b83 =>
                       ldS (ad2.add 1) w169 fun s89 =>
                       R (.returned (Value.agg #[Value.bool b83, s89.v])) w169))) ∧
                    (newC w161 #[Value.bool false, (⟨none, 0, 0⟩ : Slc).v] 33 fun ad28 w170 =>
                     Bar (V1 0) w161 w170 ∧
                     (Calls Tryd.prog 49 #[Value.agg #[Value.bool b8, s9.v], Value.agg #[Value.bool b79, s85.v]] w170 fun e35 w171 =>
                      ∃ b84 : Bool, ∃ s90 : Slc, ∃ b85 : Bool, ∃ s91 : Slc, e35 = .returned (Value.tuple #[Value.agg #[Value.bool b84, s90.v], Value.agg #[Value.bool b85, s91.v]]) ∧
                      (stC ad28 (Value.bool b84) w171 fun w172 =>
                       stC (ad28.add 1) s90.v w172 fun w173 =>
                       stC ad26 (Value.bool b85) w173 fun w174 =>
                       stC (ad26.add 1) s91.v w174 fun w175 =>
                       ldB ad28 w175 fun b86 =>
                       ldS (ad28.add 1) w175 fun s92 =>
                       stC ad2 (Value.bool b86) w175 fun w176 =>
                       stC (ad2.add 1) s92.v w176 fun w177 =>
                       ldB ad2 w177 fun b87 =>
                       ldS (ad2.add 1) w177 fun s93 =>
                       R (.returned (Value.agg #[Value.bool b87, s93.v])) w177)))))) ∧
                 (newC w160 #[Value.bool false, (⟨none, 0, 0⟩ : Slc).v] 33 fun ad29 w178 =>
                  Bar (V1 0) w160 w178 ∧
                  (Calls Tryd.prog 40 #[Value.bool false, s84.v] w178 fun e36 w179 =>
                   ∃ b88 : Bool, ∃ s94 : Slc, e36 = .returned (Value.agg #[Value.bool b88, s94.v]) ∧
                   (Bar (V1 0) w178 w179 ∧
                    (Calls Tryd.prog 49 #[Value.agg #[Value.bool b8, s9.v], Value.agg #[Value.bool b88, s94.v]] w179 fun e37 w180 =>
                     ∃ b89 : Bool, ∃ s95 : Slc, ∃ b90 : Bool, ∃ s96 : Slc, e37 = .returned (Value.tuple #[Value.agg #[Value.bool b89, s95.v], Value.agg #[Value.bool b90, s96.v]]) ∧
                     (stC ad29 (Value.bool b89) w180 fun w181 =>
                      stC (ad29.add 1) s95.v w181 fun w182 =>
                      stC ad26 (Value.bool b90) w182 fun w183 =>
                      stC (ad26.add 1) s96.v w183 fun w184 =>
                      ldB ad29 w184 fun b91 =>
                      ldS (ad29.add 1) w184 fun s97 =>
                      stC ad2 (Value.bool b91) w184 fun w185 =>
                      stC (ad2.add 1) s97.v w185 fun w186 =>
                      ldB ad2 w186 fun b92 =>
                      ldS (ad2.add 1) w186 fun s98 =>
                      R (.returned (Value.agg #[Value.bool b92, s98.v])) w186)))))))) ∧
              (newC w159 #[Value.bool false, (⟨none, 0, 0⟩ : Slc).v] 33 fun ad30 w187 =>
               Bar (V1 0) w159 w187 ∧
               (Calls Tryd.prog 48 #[s10.v, Value.int .i64 (IntKind.i64.wrap (0 - a1_n))] w187 fun e38 w188 =>
                ∃ s99 : Slc, e38 = .returned s99.v ∧
                (Bar (V1 0) w187 w188 ∧
                 (Calls Tryd.prog 40 #[Value.bool false, s99.v] w188 fun e39 w189 =>
                  ∃ b93 : Bool, ∃ s100 : Slc, e39 = .returned (Value.agg #[Value.bool b93, s100.v]) ∧
                  (Bar (V1 0) w188 w189 ∧
                   (Calls Tryd.prog 49 #[Value.agg #[Value.bool b8, s9.v], Value.agg #[Value.bool b93, s100.v]] w189 fun e40 w190 =>
                    ∃ b94 : Bool, ∃ s101 : Slc, ∃ b95 : Bool, ∃ s102 : Slc, e40 = .returned (Value.tuple #[Value.agg #[Value.bool b94, s101.v], Value.agg #[Value.bool b95, s102.v]]) ∧
                    (stC ad30 (Value.bool b94) w190 fun w191 =>
                     stC (ad30.add 1) s101.v w191 fun w192 =>
                     stC ad26 (Value.bool b95) w192 fun w193 =>
                     stC (ad26.add 1) s102.v w193 fun w194 =>
                     ldB ad30 w194 fun b96 =>
                     ldS (ad30.add 1) w194 fun s103 =>
                     stC ad2 (Value.bool b96) w194 fun w195 =>
                     stC (ad2.add 1) s103.v w195 fun w196 =>
                     ldB ad2 w196 fun b97 =>
                     ldS (ad2.add 1) w196 fun s104 =>
                     R (.returned (Value.agg #[Value.bool b97, s104.v])) w196))))))))))))) ∧
        ((newC w7.drew #[Value.bool false, (⟨none, 0, 0⟩ : Slc).v] 33 fun ad31 w197 =>
          Bar (V1 0) w7.drew w197 ∧
          ((Calls Tryd.prog 50 #[Value.int .i64 1] w197 fun e41 w198 =>
            ∃ s105 : Slc, e41 = .returned s105.v ∧
            (Bar (V1 0) w197 w198 ∧
             ((Calls Tryd.prog 48 #[s105.v, Value.int .i64 (IntKind.i64.wrap (0 - a1_n))] w198 fun e42 w199 =>
               ∃ s106 : Slc, e42 = .returned s106.v ∧
               (Bar (V1 0) w198 w199 ∧
                ((Calls Tryd.prog 40 #[Value.bool false, s106.v] w199 fun e43 w200 =>
                  ∃ b98 : Bool, ∃ s107 : Slc, e43 = .returned (Value.agg #[Value.bool b98, s107.v]) ∧
                  (Bar (V1 0) w199 w200 ∧
                   ((Calls Tryd.prog 49 #[Value.agg #[Value.bool b8, s9.v], Value.agg #[Value.bool b98, s107.v]] w200 fun e44 w201 =>
                     ∃ b99 : Bool, ∃ s108 : Slc, ∃ b100 : Bool, ∃ s109 : Slc, e44 = .returned (Value.tuple #[Value.agg #[Value.bool b99, s108.v], Value.agg #[Value.bool b100, s109.v]]) ∧
                     (newC w201 #[Value.bool false, (⟨none, 0, 0⟩ : Slc).v] 33 fun ad32 w202 =>
                      Bar (V1 0) w201 w202 ∧
                      (stC ad31 (Value.bool b99) w202 fun w203 =>
                       stC (ad31.add 1) s108.v w203 fun w204 =>
                       stC ad32 (Value.bool b100) w204 fun w205 =>
                       stC (ad32.add 1) s109.v w205 fun w206 =>
                       ldB ad31 w206 fun b101 =>
                       ldS (ad31.add 1) w206 fun s110 =>
                       stC ad2 (Value.bool b101) w206 fun w207 =>
                       stC (ad2.add 1) s110.v w207 fun w208 =>
                       ldB ad2 w208 fun b102 =>
                       ldS (ad2.add 1) w208 fun s111 =>
                       R (.returned (Value.agg #[Value.bool b102, s111.v])) w208))) ∧
                    (newC w200 #[Value.bool false, (⟨none, 0, 0⟩ : Slc).v] 33 fun ad33 w209 =>
                     Bar (V1 0) w200 w209 ∧
                     (Calls Tryd.prog 49 #[Value.agg #[Value.bool b8, s9.v], Value.agg #[Value.bool b98, s107.v]] w209 fun e45 w210 =>
                      ∃ b103 : Bool, ∃ s112 : Slc, ∃ b104 : Bool, ∃ s113 : Slc, e45 = .returned (Value.tuple #[Value.agg #[Value.bool b103, s112.v], Value.agg #[Value.bool b104, s113.v]]) ∧
                      (stC ad31 (Value.bool b103) w210 fun w211 =>
                       stC (ad31.add 1) s112.v w211 fun w212 =>
                       stC ad33 (Value.bool b104) w212 fun w213 =>
                       stC (ad33.add 1) s113.v w213 fun w214 =>
                       ldB ad31 w214 fun b105 =>
                       ldS (ad31.add 1) w214 fun s114 =>
                       stC ad2 (Value.bool b105) w214 fun w215 =>
                       stC (ad2.add 1) s114.v w215 fun w216 =>
                       ldB ad2 w216 fun b106 =>
                       ldS (ad2.add 1) w216 fun s115 =>
                       R (.returned (Value.agg #[Value.bool b106, s115.v])) w216)))))) ∧
                 (newC w199 #[Value.bool false, (⟨none, 0, 0⟩ : Slc).v] 33 fun ad34 w217 =>
                  Bar (V1 0) w199 w217 ∧
                  (Calls Tryd.prog 40 #[Value.bool false, s106.v] w217 fun e46 w218 =>
                   ∃ b107 : Bool, ∃ s116 : Slc, e46 = .returned (Value.agg #[Value.bool b107, s116.v]) ∧
                   (Bar (V1 0) w217 w218 ∧
                    (Calls Tryd.prog 49 #[Value.agg #[Value.bool b8, s9.v], Value.agg #[Value.bool b107, s116.v]] w218 fun e47 w219 =>
                     ∃ b108 : Bool, ∃ s117 : Slc, ∃ b109 : Bool, ∃ s118 : Slc, e47 = .returned (Value.tuple #[Value.agg #[Value.bool b108, s117.v], Value.agg #[Value.bool b109, s118.v]]) ∧
                     (stC ad31 (Value.bool b108) w219 fun w220 =>
                      stC (ad31.add 1) s117.v w220 fun w221 =>
                      stC ad34 (Value.bool b109) w221 fun w222 =>
                      stC (ad34.add 1) s118.v w222 fun w223 =>
                      ldB ad31 w223 fun b110 =>
                      ldS (ad31.add 1) w223 fun s119 =>
                      stC ad2 (Value.bool b110) w223 fun w224 =>
                      stC (ad2.add 1) s119.v w224 fun w225 =>
                      ldB ad2 w225 fun b111 =>
                      ldS (ad2.add 1) w225 fun s120 =>
                      R (.returned (Value.agg #[Value.bool b111, s120.v])) w225)))))))) ∧
              (newC w198 #[Value.bool false, (⟨none, 0, 0⟩ : Slc).v] 33 fun ad35 w226 =>
               Bar (V1 0) w198 w226 ∧
               (Calls Tryd.prog 48 #[s105.v, Value.int .i64 (IntKind.i64.wrap (0 - a1_n))] w226 fun e48 w227 =>
                ∃ s121 : Slc, e48 = .returned s121.v ∧
                (Bar (V1 0) w226 w227 ∧
                 (Calls Tryd.prog 40 #[Value.bool false, s121.v] w227 fun e49 w228 =>
                  ∃ b112 : Bool, ∃ s122 : Slc, e49 = .returned (Value.agg #[Value.bool b112, s122.v]) ∧
                  (Bar (V1 0) w227 w228 ∧
                   (Calls Tryd.prog 49 #[Value.agg #[Value.bool b8, s9.v], Value.agg #[Value.bool b112, s122.v]] w228 fun e50 w229 =>
                    ∃ b113 : Bool, ∃ s123 : Slc, ∃ b114 : Bool, ∃ s124 : Slc, e50 = .returned (Value.tuple #[Value.agg #[Value.bool b113, s123.v], Value.agg #[Value.bool b114, s124.v]]) ∧
                    (stC ad31 (Value.bool b113) w229 fun w230 =>
                     stC (ad31.add 1) s123.v w230 fun w231 =>
                     stC ad35 (Value.bool b114) w231 fun w232 =>
                     stC (ad35.add 1) s124.v w232 fun w233 =>
                     ldB ad31 w233 fun b115 =>
                     ldS (ad31.add 1) w233 fun s125 =>
                     stC ad2 (Value.bool b115) w233 fun w234 =>
                     stC (ad2.add 1) s125.v w234 fun w235 =>
                     ldB ad2 w235 fun b116 =>
                     ldS (ad2.add 1) w235 fun s126 =>
                     R (.returned (Value.agg #[Value.bool b116, s126.v])) w235)))))))))) ∧
           (newC w197 #[Value.bool false, (⟨none, 0, 0⟩ : Slc).v] 33 fun ad36 w236 =>
            Bar (V1 0) w197 w236 ∧
            (Calls Tryd.prog 50 #[Value.int .i64 1] w236 fun e51 w237 =>
             ∃ s127 : Slc, e51 = .returned s127.v ∧
             (Bar (V1 0) w236 w237 ∧
              (Calls Tryd.prog 48 #[s127.v, Value.int .i64 (IntKind.i64.wrap (0 - a1_n))] w237 fun e52 w238 =>
               ∃ s128 : Slc, e52 = .returned s128.v ∧
               (Bar (V1 0) w237 w238 ∧
                (Calls Tryd.prog 40 #[Value.bool false, s128.v] w238 fun e53 w239 =>
                 ∃ b117 : Bool, ∃ s129 : Slc, e53 = .returned (Value.agg #[Value.bool b117, s129.v]) ∧
                 (Bar (V1 0) w238 w239 ∧
                  (Calls Tryd.prog 49 #[Value.agg #[Value.bool b8, s9.v], Value.agg #[Value.bool b117, s129.v]] w239 fun e54 w240 =>
                   ∃ b118 : Bool, ∃ s130 : Slc, ∃ b119 : Bool, ∃ s131 : Slc, e54 = .returned (Value.tuple #[Value.agg #[Value.bool b118, s130.v], Value.agg #[Value.bool b119, s131.v]]) ∧
                   (stC ad31 (Value.bool b118) w240 fun w241 =>
                    stC (ad31.add 1) s130.v w241 fun w242 =>
                    stC ad36 (Value.bool b119) w242 fun w243 =>
                    stC (ad36.add 1) s131.v w243 fun w244 =>
                    ldB ad31 w244 fun b120 =>
                    ldS (ad31.add 1) w244 fun s132 =>
                    stC ad2 (Value.bool b120) w244 fun w245 =>
                    stC (ad2.add 1) s132.v w245 fun w246 =>
                    ldB ad2 w246 fun b121 =>
                    ldS (ad2.add 1) w246 fun s133 =>
                    R (.returned (Value.agg #[Value.bool b121, s133.v])) w246))))))))))) ∧
         (newC w7.drew #[Value.bool false, (⟨none, 0, 0⟩ : Slc).v] 33 fun ad37 w247 =>
          Bar (V1 0) w7.drew w247 ∧
          ((Calls Tryd.prog 50 #[Value.int .i64 1] w247 fun e55 w248 =>
            ∃ s134 : Slc, e55 = .returned s134.v ∧
            (Bar (V1 0) w247 w248 ∧
             ((Calls Tryd.prog 48 #[s134.v, Value.int .i64 (IntKind.i64.wrap (0 - a1_n))] w248 fun e56 w249 =>
               ∃ s135 : Slc, e56 = .returned s135.v ∧
               (Bar (V1 0) w248 w249 ∧
                ((Calls Tryd.prog 40 #[Value.bool false, s135.v] w249 fun e57 w250 =>
                  ∃ b122 : Bool, ∃ s136 : Slc, e57 = .returned (Value.agg #[Value.bool b122, s136.v]) ∧
                  (Bar (V1 0) w249 w250 ∧
                   ((Calls Tryd.prog 49 #[Value.agg #[Value.bool b8, s9.v], Value.agg #[Value.bool b122, s136.v]] w250 fun e58 w251 =>
                     ∃ b123 : Bool, ∃ s137 : Slc, ∃ b124 : Bool, ∃ s138 : Slc, e58 = .returned (Value.tuple #[Value.agg #[Value.bool b123, s137.v], Value.agg #[Value.bool b124, s138.v]]) ∧
                     (newC w251 #[Value.bool false, (⟨none, 0, 0⟩ : Slc).v] 33 fun ad38 w252 =>
                      Bar (V1 0) w251 w252 ∧
                      (stC ad38 (Value.bool b123) w252 fun w253 =>
                       stC (ad38.add 1) s137.v w253 fun w254 =>
                       stC ad37 (Value.bool b124) w254 fun w255 =>
                       stC (ad37.add 1) s138.v w255 fun w256 =>
                       ldB ad38 w256 fun b125 =>
                       ldS (ad38.add 1) w256 fun s139 =>
                       stC ad2 (Value.bool b125) w256 fun w257 =>
                       stC (ad2.add 1) s139.v w257 fun w258 =>
                       ldB ad2 w258 fun b126 =>
                       ldS (ad2.add 1) w258 fun s140 =>
                       R (.returned (Value.agg #[Value.bool b126, s140.v])) w258))) ∧
                    (newC w250 #[Value.bool false, (⟨none, 0, 0⟩ : Slc).v] 33 fun ad39 w259 =>
                     Bar (V1 0) w250 w259 ∧
                     (Calls Tryd.prog 49 #[Value.agg #[Value.bool b8, s9.v], Value.agg #[Value.bool b122, s136.v]] w259 fun e59 w260 =>
                      ∃ b127 : Bool, ∃ s141 : Slc, ∃ b128 : Bool, ∃ s142 : Slc, e59 = .returned (Value.tuple #[Value.agg #[Value.bool b127, s141.v], Value.agg #[Value.bool b128, s142.v]]) ∧
                      (stC ad39 (Value.bool b127) w260 fun w261 =>
                       stC (ad39.add 1) s141.v w261 fun w262 =>
                       stC ad37 (Value.bool b128) w262 fun w263 =>
                       stC (ad37.add 1) s142.v w263 fun w264 =>
                       ldB ad39 w264 fun b129 =>
                       ldS (ad39.add 1) w264 fun s143 =>
                       stC ad2 (Value.bool b129) w264 fun w265 =>
                       stC (ad2.add 1) s143.v w265 fun w266 =>
                       ldB ad2 w266 fun b130 =>
                       ldS (ad2.add 1) w266 fun s144 =>
                       R (.returned (Value.agg #[Value.bool b130, s144.v])) w266)))))) ∧
                 (newC w249 #[Value.bool false, (⟨none, 0, 0⟩ : Slc).v] 33 fun ad40 w267 =>
                  Bar (V1 0) w249 w267 ∧
                  (Calls Tryd.prog 40 #[Value.bool false, s135.v] w267 fun e60 w268 =>
                   ∃ b131 : Bool, ∃ s145 : Slc, e60 = .returned (Value.agg #[Value.bool b131, s145.v]) ∧
                   (Bar (V1 0) w267 w268 ∧
                    (Calls Tryd.prog 49 #[Value.agg #[Value.bool b8, s9.v], Value.agg #[Value.bool b131, s145.v]] w268 fun e61 w269 =>
                     ∃ b132 : Bool, ∃ s146 : Slc, ∃ b133 : Bool, ∃ s147 : Slc, e61 = .returned (Value.tuple #[Value.agg #[Value.bool b132, s146.v], Value.agg #[Value.bool b133, s147.v]]) ∧
                     (stC ad40 (Value.bool b132) w269 fun w270 =>
                      stC (ad40.add 1) s146.v w270 fun w271 =>
                      stC ad37 (Value.bool b133) w271 fun w272 =>
                      stC (ad37.add 1) s147.v w272 fun w273 =>
                      ldB ad40 w273 fun b134 =>
                      ldS (ad40.add 1) w273 fun s148 =>
                      stC ad2 (Value.bool b134) w273 fun w274 =>
                      stC (ad2.add 1) s148.v w274 fun w275 =>
                      ldB ad2 w275 fun b135 =>
                      ldS (ad2.add 1) w275 fun s149 =>
                      R (.returned (Value.agg #[Value.bool b135, s149.v])) w275)))))))) ∧
              (newC w248 #[Value.bool false, (⟨none, 0, 0⟩ : Slc).v] 33 fun ad41 w276 =>
               Bar (V1 0) w248 w276 ∧
               (Calls Tryd.prog 48 #[s134.v, Value.int .i64 (IntKind.i64.wrap (0 - a1_n))] w276 fun e62 w277 =>
                ∃ s150 : Slc, e62 = .returned s150.v ∧
                (Bar (V1 0) w276 w277 ∧
                 (Calls Tryd.prog 40 #[Value.bool false, s150.v] w277 fun e63 w278 =>
                  ∃ b136 : Bool, ∃ s151 : Slc, e63 = .returned (Value.agg #[Value.bool b136, s151.v]) ∧
                  (Bar (V1 0) w277 w278 ∧
                   (Calls Tryd.prog 49 #[Value.agg #[Value.bool b8, s9.v], Value.agg #[Value.bool b136, s151.v]] w278 fun e64 w279 =>
                    ∃ b137 : Bool, ∃ s152 : Slc, ∃ b138 : Bool, ∃ s153 : Slc, e64 = .returned (Value.tuple #[Value.agg #[Value.bool b137, s152.v], Value.agg #[Value.bool b138, s153.v]]) ∧
                    (stC ad41 (Value.bool b137) w279 fun w280 =>
                     stC (ad41.add 1) s152.v w280 fun w281 =>
                     stC ad37 (Value.bool b138) w281 fun w282 =>
                     stC (ad37.add 1) s153.v w282 fun w283 =>
                     ldB ad41 w283 fun b139 =>
                     ldS (ad41.add 1) w283 fun s154 =>
                     stC ad2 (Value.bool b139) w283 fun w284 =>
                     stC (ad2.add 1) s154.v w284 fun w285 =>
                     ldB ad2 w285 fun b140 =>
                     ldS (ad2.add 1) w285 fun s155 =>
                     R (.returned (Value.agg #[Value.bool b140, s155.v])) w285)))))))))) ∧
           (newC w247 #[Value.bool false, (⟨none, 0, 0⟩ : Slc).v] 33 fun ad42 w286 =>
            Bar (V1 0) w247 w286 ∧
            (Calls Tryd.prog 50 #[Value.int .i64 1] w286 fun e65 w287 =>
             ∃ s156 : Slc, e65 = .returned s156.v ∧
             (Bar (V1 0) w286 w287 ∧
              (Calls Tryd.prog 48 #[s156.v, Value.int .i64 (IntKind.i64.wrap (0 - a1_n))] w287 fun e66 w288 =>
               ∃ s157 : Slc, e66 = .returned s157.v ∧
               (Bar (V1 0) w287 w288 ∧
                (Calls Tryd.prog 40 #[Value.bool false, s157.v] w288 fun e67 w289 =>
                 ∃ b141 : Bool, ∃ s158 : Slc, e67 = .returned (Value.agg #[Value.bool b141, s158.v]) ∧
                 (Bar (V1 0) w288 w289 ∧
                  (Calls Tryd.prog 49 #[Value.agg #[Value.bool b8, s9.v], Value.agg #[Value.bool b141, s158.v]] w289 fun e68 w290 =>
                   ∃ b142 : Bool, ∃ s159 : Slc, ∃ b143 : Bool, ∃ s160 : Slc, e68 = .returned (Value.tuple #[Value.agg #[Value.bool b142, s159.v], Value.agg #[Value.bool b143, s160.v]]) ∧
                   (stC ad42 (Value.bool b142) w290 fun w291 =>
                    stC (ad42.add 1) s159.v w291 fun w292 =>
                    stC ad37 (Value.bool b143) w292 fun w293 =>
                    stC (ad37.add 1) s160.v w293 fun w294 =>
                    ldB ad42 w294 fun b144 =>
                    ldS (ad42.add 1) w294 fun s161 =>
                    stC ad2 (Value.bool b144) w294 fun w295 =>
                    stC (ad2.add 1) s161.v w295 fun w296 =>
                    ldB ad2 w296 fun b145 =>
                    ldS (ad2.add 1) w296 fun s162 =>
                    R (.returned (Value.agg #[Value.bool b145, s162.v])) w296))))))))))))))))) :
    Calls Tryd.prog 32 #[Value.agg #[Value.bool a0_a_0, a0_a_1.v], Value.int .i64 a1_n] w R := by
  refine calls_of_vc (marks [2000007] (fun _ => none)) (by kernel_rfl) Tryd.func32 rfl ?_ ?_
  · refine kcast h ?_; kernel_rfl
  · exact (obl_seq rfl (obl_reg (obl_seq rfl (obl_seq rfl (obl_reg (obl_cond (obl_seq rfl (obl_held (by kernel_rfl) (by kernel_rfl) (by kernel_rfl) (obl_ret (obl_skip (obl_seq rfl (obl_seq rfl (obl_reg (obl_cond (obl_seq rfl (obl_seq rfl (obl_reg (obl_cond (obl_seq rfl (obl_reg (obl_ret (obl_skip (obl_seq rfl (obl_reg (obl_ret (obl_skip (obl_seq rfl (obl_store _ rfl (by kernel_rfl) (obl_seq rfl (obl_reg (obl_ret trivial)))))))))))))))))))))))))))))))

end Go.Proofs.YtlkjgafnjmfgiaaDoor
namespace Go.Proofs.YtlkjgafnjmfgiaaDoor
open Go Go.RowKit Eng L2
set_option linter.unusedVariables false
set_option maxHeartbeats 2000000
set_option maxRecDepth 100000

/-- surd/dyadic.steps: function 44, its local variables as values. -/
theorem dyadic_steps_v2 (a0_0 : Bool) (a0_1 : Slc) (a0_2 : Int) (a1 : Int) (a2 : Int) (w : World) (R : Ending → World → Prop)
    (K3 : Int → Int → Bool → Bool → Slc → Int → Bool → Slc → World → Prop) (K8 : Int → Int → Slc → Bool → Slc → Int → Bool → Slc → World → Prop) (K16 : Slc → Bool → Bool → Slc → Int → Bool → Slc → World → Prop)
    (h : ∀ w1, Ext w w1 → Ahead w w1 →
    (Calls Tryd.prog 43 #[Value.agg #[Value.bool a0_0, a0_1.v]] w1 fun e1 w2 =>
     ∃ x1 : Int, e1 = .returned (Value.int .i64 x1) ∧ Ahead w1 w2 ∧
     (br (x1 == 0)
      (K3 a1 a2 true a0_0 a0_1 a0_2 false (⟨none, 0, 0⟩ : Slc) w2)
      (K3 a1 a2 (decide (a0_2 ≥ a1)) a0_0 a0_1 a0_2 false (⟨none, 0, 0⟩ : Slc) w2))))
    (h3000003 : ∀ (t1 : Int) (t2 : Int) (t19 : Bool) (t3_0 : Bool) (t3_1 : Slc) (t3_2 : Int) (t6_0 : Bool) (t6_1 : Slc) (w_ : World), Ahead w w_ → K3 t1 t2 t19 t3_0 t3_1 t3_2 t6_0 t6_1 w_ → 
    br t19
    (∀ w3, Ext w_ w3 → Ahead w w3 →
     (Calls Tryd.prog 61 #[t3_1.v, Value.int .i64 (maxI (IntKind.i64.wrap (t3_2 - t1)) 0)] w3 fun e2 w4 =>
      ∃ s1 : Slc, e2 = .returned s1.v ∧ Ahead w3 w4 ∧
      (∀ w5, Ext w4 w5 → Ahead w w5 →
       (R (.returned (Value.agg #[Value.bool t3_0, s1.v])) w5))))
    (Calls Tryd.prog 45 #[Value.agg #[Value.bool t3_0, t3_1.v]] w_ fun e3 w6 =>
     ∃ x2 : Int, e3 = .returned (Value.int .i64 x2) ∧ Ahead w_ w6 ∧
     (br (decide ((IntKind.i64.wrap (t1 - t3_2)) < x2))
      (Calls Tryd.prog 60 #[t3_1.v, Value.int .i64 (IntKind.i64.wrap (t1 - t3_2))] w6 fun e4 w7 =>
       ∃ s2 : Slc, e4 = .returned s2.v ∧ Ahead w6 w7 ∧
       (K8 t2 (IntKind.i64.wrap (t1 - t3_2)) s2 t3_0 t3_1 t3_2 t6_0 t6_1 w7))
      (K8 t2 (IntKind.i64.wrap (t1 - t3_2)) (⟨none, 0, 0⟩ : Slc) t3_0 t3_1 t3_2 t6_0 t6_1 w6))))
    (h3000008 : ∀ (t2 : Int) (t7 : Int) (t8 : Slc) (t3_0 : Bool) (t3_1 : Slc) (t3_2 : Int) (t6_0 : Bool) (t6_1 : Slc) (w_ : World), Ahead w w_ → K8 t2 t7 t8 t3_0 t3_1 t3_2 t6_0 t6_1 w_ → 
    br (t2 == 2)
    (Calls Tryd.prog 62 #[t3_1.v, Value.int .i64 (IntKind.i64.wrap (t7 - 1))] w_ fun e5 w8 =>
     ∃ x3 : Int, e5 = .returned (Value.int .i64 x3) ∧ Ahead w_ w8 ∧
     (br (x3 == 1)
      (Calls Tryd.prog 59 #[t3_1.v] w8 fun e6 w9 =>
       ∃ x4 : Int, e6 = .returned (Value.int .i64 x4) ∧ Ahead w8 w9 ∧
       (br (decide (x4 < (IntKind.i64.wrap (t7 - 1))))
        (K16 t8 true t3_0 t3_1 t3_2 t6_0 t6_1 w9)
        (Calls Tryd.prog 62 #[t8.v, Value.int .i64 0] w9 fun e9 w14 =>
         ∃ x5 : Int, e9 = .returned (Value.int .i64 x5) ∧ Ahead w9 w14 ∧
         (br (!(x5 == 1))
          (K16 t8 false t3_0 t3_1 t3_2 t6_0 t6_1 w14)
          (K16 t8 true t3_0 t3_1 t3_2 t6_0 t6_1 w14)))))
      (K16 t8 false t3_0 t3_1 t3_2 t6_0 t6_1 w8)))
    (br (t2 == 0)
     (K16 t8 t3_0 t3_0 t3_1 t3_2 t6_0 t6_1 w_)
     (K16 t8 (!t3_0) t3_0 t3_1 t3_2 t6_0 t6_1 w_)))
    (h3000016 : ∀ (t8 : Slc) (t9 : Bool) (t3_0 : Bool) (t3_1 : Slc) (t3_2 : Int) (t6_0 : Bool) (t6_1 : Slc) (w_ : World), Ahead w w_ → K16 t8 t9 t3_0 t3_1 t3_2 t6_0 t6_1 w_ → 
    br t9
    (Calls Tryd.prog 64 #[Value.int .u64 1] w_ fun e7 w10 =>
     ∃ s3 : Slc, e7 = .returned s3.v ∧ Ahead w_ w10 ∧
     (Calls Tryd.prog 63 #[t8.v, s3.v] w10 fun e8 w11 =>
      ∃ s4 : Slc, e8 = .returned s4.v ∧ Ahead w10 w11 ∧
      (∀ w12, Ext w11 w12 → Ahead w w12 →
       (R (.returned (Value.agg #[Value.bool t3_0, s4.v])) w12))))
    (∀ w13, Ext w_ w13 → Ahead w w13 →
     (R (.returned (Value.agg #[Value.bool t3_0, t8.v])) w13))) :
    Calls Tryd.prog 44 #[Value.agg #[Value.bool a0_0, a0_1.v, Value.int .i64 a0_2], Value.int .i64 a1, Value.int .i64 a2] w (fun e_ w_ => Ahead w w_ ∧ R e_ w_) := by
  refine dyadic_steps_vc a0_0 a0_1 a0_2 a1 a2 w _ (fun t1 t2 t3 t6 t19 w_ => ∃ c3_ : Nat, ∃ c6_ : Nat, ∃ t3_0 : Bool, ∃ t3_1 : Slc, ∃ t3_2 : Int, ∃ t6_0 : Bool, ∃ t6_1 : Slc, t3 = ⟨c3_, 0, none⟩ ∧ Blt w_ c3_ 63 #[Value.bool t3_0, t3_1.v, Value.int .i64 t3_2] ∧ w.heap.size ≤ c3_ ∧ t6 = ⟨c6_, 0, none⟩ ∧ Blt w_ c6_ 27 #[Value.bool t6_0, t6_1.v] ∧ w.heap.size ≤ c6_ ∧ c3_ ≠ c6_ ∧ Ahead w w_ ∧ K3 t1 t2 t19 t3_0 t3_1 t3_2 t6_0 t6_1 w_) (fun t2 t3 t6 t7 t8 w_ => ∃ c3_ : Nat, ∃ c6_ : Nat, ∃ t3_0 : Bool, ∃ t3_1 : Slc, ∃ t3_2 : Int, ∃ t6_0 : Bool, ∃ t6_1 : Slc, t3 = ⟨c3_, 0, none⟩ ∧ Blt w_ c3_ 63 #[Value.bool t3_0, t3_1.v, Value.int .i64 t3_2] ∧ w.heap.size ≤ c3_ ∧ t6 = ⟨c6_, 0, none⟩ ∧ Blt w_ c6_ 27 #[Value.bool t6_0, t6_1.v] ∧ w.heap.size ≤ c6_ ∧ c3_ ≠ c6_ ∧ Ahead w w_ ∧ K8 t2 t7 t8 t3_0 t3_1 t3_2 t6_0 t6_1 w_) (fun t3 t6 t8 t9 w_ => ∃ c3_ : Nat, ∃ c6_ : Nat, ∃ t3_0 : Bool, ∃ t3_1 : Slc, ∃ t3_2 : Int, ∃ t6_0 : Bool, ∃ t6_1 : Slc, t3 = ⟨c3_, 0, none⟩ ∧ Blt w_ c3_ 63 #[Value.bool t3_0, t3_1.v, Value.int .i64 t3_2] ∧ w.heap.size ≤ c3_ ∧ t6 = ⟨c6_, 0, none⟩ ∧ Blt w_ c6_ 27 #[Value.bool t6_0, t6_1.v] ∧ w.heap.size ≤ c6_ ∧ c3_ ≠ c6_ ∧ Ahead w w_ ∧ K16 t8 t9 t3_0 t3_1 t3_2 t6_0 t6_1 w_) ?_ ?_ ?_ ?_
  · have A : Ahead w w := Ahead.refl w
    have X : Ext w w := Ext.refl w
    refine newC_t fun bk1 u1 hb1 ha_u1 _ B1 => ?_
    have g1 := le_eq A.size hb1
    obtain ⟨A, X⟩ := axa2 ha_u1 A X
    refine newC_t fun bk2 u2 hb2 ha_u2 _ B2 => ?_
    have g2 := le_eq A.size hb2
    have l1_2 := lt1 hb2 B1
    replace B1 := B1.ahead ha_u2
    obtain ⟨A, X⟩ := axa2 ha_u2 A X
    refine ldB_t 0 B1 rfl ?_
    refine ldS_t 1 B1 rfl ?_
    replace h := h _ X A
    refine Calls.mono h ?_
    clear h
    rintro e1 w2 ⟨x1, he_, ha_w2, h⟩
    refine ⟨x1, he_, ?_⟩
    clear he_
    obtain ⟨B1, B2⟩ := ah2 ha_w2 B1 B2
    obtain ⟨A, X⟩ := axa2 ha_w2 A X
    replace X : Ext w2 w2 := Ext.refl _
    refine br_map h (fun h_ => ?_) (fun h_ => ?_)
    ·clear h
     have h := h_
     clear h_
     exact ⟨bk1, bk2, a0_0, a0_1, a0_2, false, (⟨none, 0, 0⟩ : Slc), rfl, B1, g1, rfl, B2, g2, (by omega), A, h⟩
    ·clear h
     have h := h_
     clear h_
     refine ldI_t 2 B1 rfl ?_
     exact ⟨bk1, bk2, a0_0, a0_1, a0_2, false, (⟨none, 0, 0⟩ : Slc), rfl, B1, g1, rfl, B2, g2, (by omega), A, h⟩
  · clear h
    rintro t1 t2 t3 t6 t19 w_ ⟨bk1, bk2, t3_0, t3_1, t3_2, t6_0, t6_1, rfl, B1, g1, rfl, B2, g2, n1_2, A, hJ3000003⟩
    have h := h3000003  t1 t2 t19 t3_0 t3_1 t3_2 t6_0 t6_1 w_ A hJ3000003
    have X : Ext w_ w_ := Ext.refl _
    refine br_map h (fun h_ => ?_) (fun h_ => ?_)
    ·clear h
     have h := h_
     clear h_
     have hd_ := Sp.Ahead.drew w_
     obtain ⟨B1, B2⟩ := ah2 hd_ B1 B2
     obtain ⟨A, X⟩ := axa2 hd_ A X
     clear hd_
     refine ldB_t 0 B1 rfl ?_
     refine ldS_t 1 B1 rfl ?_
     refine ldI_t 2 B1 rfl ?_
     replace h := h _ X A
     refine Calls.mono h ?_
     clear h
     rintro e2 w4 ⟨s1, he_, ha_w4, h⟩
     refine ⟨s1, he_, ?_⟩
     clear he_
     obtain ⟨B1, B2⟩ := ah2 ha_w4 B1 B2
     obtain ⟨A, X⟩ := axa2 ha_w4 A X
     replace X : Ext w4 w4 := Ext.refl _
     refine ⟨ha_w4, ?_⟩
     refine st2_t B2 rfl rfl rfl fun u3 k_u3 B2 => ?_
     replace B1 := up1 k_u3 B1
     obtain ⟨A, X⟩ := axu2 k_u3 g2 A X
     refine ldB_t 0 B2 rfl ?_
     refine ldS_t 1 B2 rfl ?_
     replace h := h _ X A
     exact ⟨A, h⟩
    ·clear h
     have h := h_
     clear h_
     refine ldI_t 2 B1 rfl ?_
     refine ldB_t 0 B1 rfl ?_
     refine ldS_t 1 B1 rfl ?_
     refine Calls.mono h ?_
     clear h
     rintro e3 w6 ⟨x2, he_, ha_w6, h⟩
     refine ⟨x2, he_, ?_⟩
     clear he_
     obtain ⟨B1, B2⟩ := ah2 ha_w6 B1 B2
     obtain ⟨A, X⟩ := axa2 ha_w6 A X
     replace X : Ext w6 w6 := Ext.refl _
     refine br_map h (fun h_ => ?_) (fun h_ => ?_)
     ·clear h
      have h := h_
      clear h_
      refine ldS_t 1 B1 rfl ?_
      refine Calls.mono h ?_
      clear h
      rintro e4 w7 ⟨s2, he_, ha_w7, h⟩
      refine ⟨s2, he_, ?_⟩
      clear he_
      obtain ⟨B1, B2⟩ := ah2 ha_w7 B1 B2
      obtain ⟨A, X⟩ := axa2 ha_w7 A X
      replace X : Ext w7 w7 := Ext.refl _
      exact ⟨bk1, bk2, t3_0, t3_1, t3_2, t6_0, t6_1, rfl, B1, g1, rfl, B2, g2, (by omega), A, h⟩
     ·clear h
      have h := h_
      clear h_
      exact ⟨bk1, bk2, t3_0, t3_1, t3_2, t6_0, t6_1, rfl, B1, g1, rfl, B2, g2, (by omega), A, h⟩
  · clear h
    rintro t2 t3 t6 t7 t8 w_ ⟨bk1, bk2, t3_0, t3_1, t3_2, t6_0, t6_1, rfl, B1, g1, rfl, B2, g2, n1_2, A, hJ3000008⟩
    have h := h3000008  t2 t7 t8 t3_0 t3_1 t3_2 t6_0 t6_1 w_ A hJ3000008
    have X : Ext w_ w_ := Ext.refl _
    refine br_map h (fun h_ => ?_) (fun h_ => ?_)
    ·clear h
     have h := h_
     clear h_
     refine ldS_t 1 B1 rfl ?_
     refine Calls.mono h ?_
     clear h
     rintro e5 w8 ⟨x3, he_, ha_w8, h⟩
     refine ⟨x3, he_, ?_⟩
     clear he_
     obtain ⟨B1, B2⟩ := ah2 ha_w8 B1 B2
     obtain ⟨A, X⟩ := axa2 ha_w8 A X
     replace X : Ext w8 w8 := Ext.refl _
     refine br_map h (fun h_ => ?_) (fun h_ => ?_)
     ·clear h
      have h := h_
      clear h_
      refine ldS_t 1 B1 rfl ?_
      refine Calls.mono h ?_
      clear h
      rintro e6 w9 ⟨x4, he_, ha_w9, h⟩
      refine ⟨x4, he_, ?_⟩
      clear he_
      obtain ⟨B1, B2⟩ := ah2 ha_w9 B1 B2
      obtain ⟨A, X⟩ := axa2 ha_w9 A X
      replace X : Ext w9 w9 := Ext.refl _
      refine br_map h (fun h_ => ?_) (fun h_ => ?_)
      ·clear h
       have h := h_
       clear h_
       exact ⟨bk1, bk2, t3_0, t3_1, t3_2, t6_0, t6_1, rfl, B1, g1, rfl, B2, g2, (by omega), A, h⟩
      ·clear h
       have h := h_
       clear h_
       refine Calls.mono h ?_
       clear h
       rintro e9 w14 ⟨x5, he_, ha_w14, h⟩
       refine ⟨x5, he_, ?_⟩
       clear he_
       obtain ⟨B1, B2⟩ := ah2 ha_w14 B1 B2
       obtain ⟨A, X⟩ := axa2 ha_w14 A X
       replace X : Ext w14 w14 := Ext.refl _
       refine br_map h (fun h_ => ?_) (fun h_ => ?_)
       ·clear h
        have h := h_
        clear h_
        exact ⟨bk1, bk2, t3_0, t3_1, t3_2, t6_0, t6_1, rfl, B1, g1, rfl, B2, g2, (by omega), A, h⟩
       ·clear h
        have h := h_
        clear h_
        exact ⟨bk1, bk2, t3_0, t3_1, t3_2, t6_0, t6_1, rfl, B1, g1, rfl, B2, g2, (by omega), A, h⟩
     ·clear h
      have h := h_
      clear h_
      exact ⟨bk1, bk2, t3_0, t3_1, t3_2, t6_0, t6_1, rfl, B1, g1, rfl, B2, g2, (by omega), A, h⟩
    ·clear h
     have h := h_
     clear h_
     refine br_map h (fun h_ => ?_) (fun h_ => ?_)
     ·clear h
      have h := h_
      clear h_
      refine ldB_t 0 B1 rfl ?_
      exact ⟨bk1, bk2, t3_0, t3_1, t3_2, t6_0, t6_1, rfl, B1, g1, rfl, B2, g2, (by omega), A, h⟩
     ·clear h
      have h := h_
      clear h_
      refine ldB_t 0 B1 rfl ?_
      exact ⟨bk1, bk2, t3_0, t3_1, t3_2, t6_0, t6_1, rfl, B1, g1, rfl, B2, g2, (by omega), A, h⟩
  · clear h
    rintro t3 t6 t8 t9 w_ ⟨bk1, bk2, t3_0, t3_1, t3_2, t6_0, t6_1, rfl, B1, g1, rfl, B2, g2, n1_2, A, hJ3000016⟩
    have h := h3000016  t8 t9 t3_0 t3_1 t3_2 t6_0 t6_1 w_ A hJ3000016
    have X : Ext w_ w_ := Ext.refl _
    refine br_map h (fun h_ => ?_) (fun h_ => ?_)
    ·clear h
     have h := h_
     clear h_
     refine Calls.mono h ?_
     clear h
     rintro e7 w10 ⟨s3, he_, ha_w10, h⟩
     refine ⟨s3, he_, ?_⟩
     clear he_
     obtain ⟨B1, B2⟩ := ah2 ha_w10 B1 B2
     obtain ⟨A, X⟩ := axa2 ha_w10 A X
     replace X : Ext w10 w10 := Ext.refl _
     refine Calls.mono h ?_
     clear h
     rintro e8 w11 ⟨s4, he_, ha_w11, h⟩
     refine ⟨s4, he_, ?_⟩
     clear he_
     obtain ⟨B1, B2⟩ := ah2 ha_w11 B1 B2
     obtain ⟨A, X⟩ := axa2 ha_w11 A X
     replace X : Ext w11 w11 := Ext.refl _
     refine ldB_t 0 B1 rfl ?_
     refine st2_t B2 rfl rfl rfl fun u4 k_u4 B2 => ?_
     replace B1 := up1 k_u4 B1
     obtain ⟨A, X⟩ := axu2 k_u4 g2 A X
     refine ldB_t 0 B2 rfl ?_
     refine ldS_t 1 B2 rfl ?_
     replace h := h _ X A
     exact ⟨A, h⟩
    ·clear h
     have h := h_
     clear h_
     refine ldB_t 0 B1 rfl ?_
     refine st2_t B2 rfl rfl rfl fun u5 k_u5 B2 => ?_
     replace B1 := up1 k_u5 B1
     obtain ⟨A, X⟩ := axu2 k_u5 g2 A X
     refine ldB_t 0 B2 rfl ?_
     refine ldS_t 1 B2 rfl ?_
     replace h := h _ X A
     exact ⟨A, h⟩

/-- surd/dyadic.rounded: function 27, its local variables as values. -/
theorem dyadic_rounded_v2 (a0_x_0 : Bool) (a0_x_1 : Slc) (a0_x_2 : Int) (a1_pos : Int) (a2_m : Int) (w : World) (R : Ending → World → Prop)
    
    (h : ∀ w1, Ext w w1 → Ahead w w1 →
    (Calls Tryd.prog 43 #[Value.agg #[Value.bool a0_x_0, a0_x_1.v]] w1 fun e1 w2 =>
     ∃ x1 : Int, e1 = .returned (Value.int .i64 x1) ∧ Ahead w1 w2 ∧
     (br (x1 == 0)
      (Calls Tryd.prog 28 #[Value.agg #[Value.bool a0_x_0, a0_x_1.v], Value.int .i64 a0_x_2] w2 fun e2 w3 =>
       ∃ b1 : Bool, ∃ s1 : Slc, ∃ x2 : Int, ∃ x3 : Int, e2 = .returned (Value.tuple #[Value.agg #[Value.bool b1, s1.v, Value.int .i64 x2], Value.int .i64 x3]) ∧ Ahead w2 w3 ∧
       (∀ w4, Ext w3 w4 → Ahead w w4 →
        (R (.returned (Value.tuple #[Value.agg #[Value.bool b1, s1.v, Value.int .i64 x2], Value.int .i64 x3])) w4)))
      (br (decide (a0_x_2 ≥ a1_pos))
       (Calls Tryd.prog 28 #[Value.agg #[Value.bool a0_x_0, a0_x_1.v], Value.int .i64 a0_x_2] w2 fun e3 w5 =>
        ∃ b2 : Bool, ∃ s2 : Slc, ∃ x4 : Int, ∃ x5 : Int, e3 = .returned (Value.tuple #[Value.agg #[Value.bool b2, s2.v, Value.int .i64 x4], Value.int .i64 x5]) ∧ Ahead w2 w5 ∧
        (∀ w6, Ext w5 w6 → Ahead w w6 →
         (R (.returned (Value.tuple #[Value.agg #[Value.bool b2, s2.v, Value.int .i64 x4], Value.int .i64 x5])) w6)))
       (Calls Tryd.prog 44 #[Value.agg #[Value.bool a0_x_0, a0_x_1.v, Value.int .i64 a0_x_2], Value.int .i64 a1_pos, Value.int .i64 a2_m] w2 fun e4 w7 =>
        ∃ b3 : Bool, ∃ s3 : Slc, e4 = .returned (Value.agg #[Value.bool b3, s3.v]) ∧ Ahead w2 w7 ∧
        (Calls Tryd.prog 28 #[Value.agg #[Value.bool b3, s3.v], Value.int .i64 a1_pos] w7 fun e5 w8 =>
         ∃ b4 : Bool, ∃ s4 : Slc, ∃ x6 : Int, ∃ x7 : Int, e5 = .returned (Value.tuple #[Value.agg #[Value.bool b4, s4.v, Value.int .i64 x6], Value.int .i64 x7]) ∧ Ahead w7 w8 ∧
         (∀ w9, Ext w8 w9 → Ahead w w9 →
          (R (.returned (Value.tuple #[Value.agg #[Value.bool b4, s4.v, Value.int .i64 x6], Value.int .i64 x7])) w9))))))))
     :
    Calls Tryd.prog 27 #[Value.agg #[Value.bool a0_x_0, a0_x_1.v, Value.int .i64 a0_x_2], Value.int .i64 a1_pos, Value.int .i64 a2_m] w (fun e_ w_ => Ahead w w_ ∧ R e_ w_) := by
  refine dyadic_rounded_vc a0_x_0 a0_x_1 a0_x_2 a1_pos a2_m w _  ?_
  · have A : Ahead w w := Ahead.refl w
    have X : Ext w w := Ext.refl w
    refine newC_t fun bk1 u1 hb1 ha_u1 _ B1 => ?_
    have g1 := le_eq A.size hb1
    obtain ⟨A, X⟩ := axa2 ha_u1 A X
    refine newC_t fun bk2 u2 hb2 ha_u2 _ B2 => ?_
    have g2 := le_eq A.size hb2
    have l1_2 := lt1 hb2 B1
    replace B1 := B1.ahead ha_u2
    obtain ⟨A, X⟩ := axa2 ha_u2 A X
    refine ldB_t 0 B1 rfl ?_
    refine ldS_t 1 B1 rfl ?_
    replace h := h _ X A
    refine Calls.mono h ?_
    clear h
    rintro e1 w2 ⟨x1, he_, ha_w2, h⟩
    refine ⟨x1, he_, ?_⟩
    clear he_
    obtain ⟨B1, B2⟩ := ah2 ha_w2 B1 B2
    obtain ⟨A, X⟩ := axa2 ha_w2 A X
    replace X : Ext w2 w2 := Ext.refl _
    refine br_map h (fun h_ => ?_) (fun h_ => ?_)
    ·clear h
     have h := h_
     clear h_
     refine ldB_t 0 B1 rfl ?_
     refine ldS_t 1 B1 rfl ?_
     refine ldI_t 2 B1 rfl ?_
     refine Calls.mono h ?_
     clear h
     rintro e2 w3 ⟨b1, s1, x2, x3, he_, ha_w3, h⟩
     refine ⟨b1, s1, x2, x3, he_, ?_⟩
     clear he_
     obtain ⟨B1, B2⟩ := ah2 ha_w3 B1 B2
     obtain ⟨A, X⟩ := axa2 ha_w3 A X
     replace X : Ext w3 w3 := Ext.refl _
     refine st3_t B2 rfl rfl rfl rfl fun u3 k_u3 B2 => ?_
     replace B1 := up1 k_u3 B1
     obtain ⟨A, X⟩ := axu2 k_u3 g2 A X
     refine ldB_t 0 B2 rfl ?_
     refine ldS_t 1 B2 rfl ?_
     refine ldI_t 2 B2 rfl ?_
     replace h := h _ X A
     exact ⟨A, h⟩
    ·clear h
     have h := h_
     clear h_
     refine ldI_t 2 B1 rfl ?_
     refine br_map h (fun h_ => ?_) (fun h_ => ?_)
     ·clear h
      have h := h_
      clear h_
      refine ldB_t 0 B1 rfl ?_
      refine ldS_t 1 B1 rfl ?_
      refine ldI_t 2 B1 rfl ?_
      refine Calls.mono h ?_
      clear h
      rintro e3 w5 ⟨b2, s2, x4, x5, he_, ha_w5, h⟩
      refine ⟨b2, s2, x4, x5, he_, ?_⟩
      clear he_
      obtain ⟨B1, B2⟩ := ah2 ha_w5 B1 B2
      obtain ⟨A, X⟩ := axa2 ha_w5 A X
      replace X : Ext w5 w5 := Ext.refl _
      refine st3_t B2 rfl rfl rfl rfl fun u4 k_u4 B2 => ?_
      replace B1 := up1 k_u4 B1
      obtain ⟨A, X⟩ := axu2 k_u4 g2 A X
      refine ldB_t 0 B2 rfl ?_
      refine ldS_t 1 B2 rfl ?_
      refine ldI_t 2 B2 rfl ?_
      replace h := h _ X A
      exact ⟨A, h⟩
     ·clear h
      have h := h_
      clear h_
      refine ldB_t 0 B1 rfl ?_
      refine ldS_t 1 B1 rfl ?_
      refine ldI_t 2 B1 rfl ?_
      refine Calls.mono h ?_
      clear h
      rintro e4 w7 ⟨b3, s3, he_, ha_w7, h⟩
      refine ⟨b3, s3, he_, ?_⟩
      clear he_
      obtain ⟨B1, B2⟩ := ah2 ha_w7 B1 B2
      obtain ⟨A, X⟩ := axa2 ha_w7 A X
      replace X : Ext w7 w7 := Ext.refl _
      refine Calls.mono h ?_
      clear h
      rintro e5 w8 ⟨b4, s4, x6, x7, he_, ha_w8, h⟩
      refine ⟨b4, s4, x6, x7, he_, ?_⟩
      clear he_
      obtain ⟨B1, B2⟩ := ah2 ha_w8 B1 B2
      obtain ⟨A, X⟩ := axa2 ha_w8 A X
      replace X : Ext w8 w8 := Ext.refl _
      refine st3_t B2 rfl rfl rfl rfl fun u5 k_u5 B2 => ?_
      replace B1 := up1 k_u5 B1
      obtain ⟨A, X⟩ := axu2 k_u5 g2 A X
      refine ldB_t 0 B2 rfl ?_
      refine ldS_t 1 B2 rfl ?_
      refine ldI_t 2 B2 rfl ?_
      replace h := h _ X A
      exact ⟨A, h⟩

/-- surd/dyadic.Round: function 8, its local variables as values. -/
theorem dyadic_Round_v2 (a0_a_0 : Bool) (a0_a_1 : Slc) (a0_a_2 : Int) (a1_pos : Int) (a2_m : Int) (w : World) (R : Ending → World → Prop)
    
    (h : ∀ w1, Ext w w1 → Ahead w w1 →
    (Calls Tryd.prog 24 #[Value.agg #[Value.bool a0_a_0, a0_a_1.v, Value.int .i64 a0_a_2]] w1 fun e1 w2 =>
     ∃ b1 : Bool, ∃ s1 : Slc, ∃ x1 : Int, ∃ x2 : Int, e1 = .returned (Value.tuple #[Value.agg #[Value.bool b1, s1.v, Value.int .i64 x1], Value.int .i64 x2]) ∧ Ahead w1 w2 ∧
     (br (x2 != 0)
      (∀ w3, Ext w2 w3 → Ahead w w3 →
       (R (.returned (Value.tuple #[Value.agg #[Value.bool (false), ((⟨none, 0, 0⟩ : Slc)).v, Value.int .i64 (0 : Int)], Value.int .i64 x2])) w3))
      (∀ w4, Ext w2 w4 → Ahead w w4 →
       (Calls Tryd.prog 25 #[Value.int .i64 a1_pos] w4 fun e2 w5 =>
        ∃ b2 : Bool, e2 = .returned (Value.bool b2) ∧ Ahead w4 w5 ∧
        (br (!b2)
         (∀ w6, Ext w5 w6 → Ahead w w6 →
          (R (.returned (Value.tuple #[Value.agg #[Value.bool (false), ((⟨none, 0, 0⟩ : Slc)).v, Value.int .i64 (0 : Int)], Value.int .i64 1])) w6))
         (Calls Tryd.prog 26 #[Value.int .i64 a2_m] w5 fun e3 w7 =>
          ∃ b3 : Bool, e3 = .returned (Value.bool b3) ∧ Ahead w5 w7 ∧
          (br (!b3)
           (∀ w8, Ext w7 w8 → Ahead w w8 →
            (R (.returned (Value.tuple #[Value.agg #[Value.bool (false), ((⟨none, 0, 0⟩ : Slc)).v, Value.int .i64 (0 : Int)], Value.int .i64 81])) w8))
           (Calls Tryd.prog 27 #[Value.agg #[Value.bool b1, s1.v, Value.int .i64 x1], Value.int .i64 a1_pos, Value.int .i64 a2_m] w7 fun e4 w9 =>
            ∃ b4 : Bool, ∃ s2 : Slc, ∃ x3 : Int, ∃ x4 : Int, e4 = .returned (Value.tuple #[Value.agg #[Value.bool b4, s2.v, Value.int .i64 x3], Value.int .i64 x4]) ∧ Ahead w7 w9 ∧
            (∀ w10, Ext w9 w10 → Ahead w w10 →
             (R (.returned (Value.tuple #[Value.agg #[Value.bool b4, s2.v, Value.int .i64 x3], Value.int .i64 x4])) w10)))))))))))
     :
    Calls Tryd.prog 8 #[Value.agg #[Value.bool a0_a_0, a0_a_1.v, Value.int .i64 a0_a_2], Value.int .i64 a1_pos, Value.int .i64 a2_m] w (fun e_ w_ => Ahead w w_ ∧ R e_ w_) := by
  refine dyadic_Round_vc a0_a_0 a0_a_1 a0_a_2 a1_pos a2_m w _  ?_
  · have A : Ahead w w := Ahead.refl w
    have X : Ext w w := Ext.refl w
    refine newC_t fun bk1 u1 hb1 ha_u1 _ B1 => ?_
    have g1 := le_eq A.size hb1
    obtain ⟨A, X⟩ := axa2 ha_u1 A X
    refine newC_t fun bk2 u2 hb2 ha_u2 _ B2 => ?_
    have g2 := le_eq A.size hb2
    have l1_2 := lt1 hb2 B1
    replace B1 := B1.ahead ha_u2
    obtain ⟨A, X⟩ := axa2 ha_u2 A X
    refine ldB_t 0 B1 rfl ?_
    refine ldS_t 1 B1 rfl ?_
    refine ldI_t 2 B1 rfl ?_
    replace h := h _ X A
    refine Calls.mono h ?_
    clear h
    rintro e1 w2 ⟨b1, s1, x1, x2, he_, ha_w2, h⟩
    refine ⟨b1, s1, x1, x2, he_, ?_⟩
    clear he_
    obtain ⟨B1, B2⟩ := ah2 ha_w2 B1 B2
    obtain ⟨A, X⟩ := axa2 ha_w2 A X
    replace X : Ext w2 w2 := Ext.refl _
    refine newC_t fun bk3 u3 hb3 ha_u3 _ B3 => ?_
    have g3 := le_eq A.size hb3
    obtain ⟨_, _⟩ := lt2 hb3 B1 B2
    obtain ⟨B1, B2⟩ := ah2 ha_u3 B1 B2
    obtain ⟨A, X⟩ := axa2 ha_u3 A X
    refine st3_t B3 rfl rfl rfl rfl fun u4 k_u4 B3 => ?_
    obtain ⟨B1, B2⟩ := up2 k_u4 B1 B2
    obtain ⟨A, X⟩ := axu2 k_u4 g3 A X
    refine br_map h (fun h_ => ?_) (fun h_ => ?_)
    ·clear h
     have h := h_
     clear h_
     refine st3_t B2 rfl rfl rfl rfl fun u5 k_u5 B2 => ?_
     obtain ⟨B1, B3⟩ := up2 k_u5 B1 B3
     obtain ⟨A, X⟩ := axu2 k_u5 g2 A X
     refine ldB_t 0 B2 rfl ?_
     refine ldS_t 1 B2 rfl ?_
     refine ldI_t 2 B2 rfl ?_
     replace h := h _ X A
     exact ⟨A, h⟩
    ·clear h
     have h := h_
     clear h_
     replace h := h _ X A
     refine Calls.mono h ?_
     clear h
     rintro e2 w5 ⟨b2, he_, ha_w5, h⟩
     refine ⟨b2, he_, ?_⟩
     clear he_
     obtain ⟨B1, B2, B3⟩ := ah3 ha_w5 B1 B2 B3
     obtain ⟨A, X⟩ := axa2 ha_w5 A X
     replace X : Ext w5 w5 := Ext.refl _
     refine br_map h (fun h_ => ?_) (fun h_ => ?_)
     ·clear h
      have h := h_
      clear h_
      refine st3_t B2 rfl rfl rfl rfl fun u6 k_u6 B2 => ?_
      obtain ⟨B1, B3⟩ := up2 k_u6 B1 B3
      obtain ⟨A, X⟩ := axu2 k_u6 g2 A X
      refine ldB_t 0 B2 rfl ?_
      refine ldS_t 1 B2 rfl ?_
      refine ldI_t 2 B2 rfl ?_
      replace h := h _ X A
      exact ⟨A, h⟩
     ·clear h
      have h := h_
      clear h_
      refine Calls.mono h ?_
      clear h
      rintro e3 w7 ⟨b3, he_, ha_w7, h⟩
      refine ⟨b3, he_, ?_⟩
      clear he_
      obtain ⟨B1, B2, B3⟩ := ah3 ha_w7 B1 B2 B3
      obtain ⟨A, X⟩ := axa2 ha_w7 A X
      replace X : Ext w7 w7 := Ext.refl _
      refine br_map h (fun h_ => ?_) (fun h_ => ?_)
      ·clear h
       have h := h_
       clear h_
       refine st3_t B2 rfl rfl rfl rfl fun u7 k_u7 B2 => ?_
       obtain ⟨B1, B3⟩ := up2 k_u7 B1 B3
       obtain ⟨A, X⟩ := axu2 k_u7 g2 A X
       refine ldB_t 0 B2 rfl ?_
       refine ldS_t 1 B2 rfl ?_
       refine ldI_t 2 B2 rfl ?_
       replace h := h _ X A
       exact ⟨A, h⟩
      ·clear h
       have h := h_
       clear h_
       refine ldB_t 0 B3 rfl ?_
       refine ldS_t 1 B3 rfl ?_
       refine ldI_t 2 B3 rfl ?_
       refine Calls.mono h ?_
       clear h
       rintro e4 w9 ⟨b4, s2, x3, x4, he_, ha_w9, h⟩
       refine ⟨b4, s2, x3, x4, he_, ?_⟩
       clear he_
       obtain ⟨B1, B2, B3⟩ := ah3 ha_w9 B1 B2 B3
       obtain ⟨A, X⟩ := axa2 ha_w9 A X
       replace X : Ext w9 w9 := Ext.refl _
       refine st3_t B2 rfl rfl rfl rfl fun u8 k_u8 B2 => ?_
       obtain ⟨B1, B3⟩ := up2 k_u8 B1 B3
       obtain ⟨A, X⟩ := axu2 k_u8 g2 A X
       refine ldB_t 0 B2 rfl ?_
       refine ldS_t 1 B2 rfl ?_
       refine ldI_t 2 B2 rfl ?_
       replace h := h _ X A
       exact ⟨A, h⟩

/-- surd/surdref06.Neg: function 37, its local variables as values. -/
theorem surdref06_Neg_v2 (a0_a_0 : Bool) (a0_a_1 : Slc) (w : World) (R : Ending → World → Prop)
    
    (h : ∀ w1, Ext w w1 → Ahead w w1 →
    (Calls Tryd.prog 40 #[Value.bool (!a0_a_0), a0_a_1.v] w1 fun e1 w2 =>
     ∃ b1 : Bool, ∃ s1 : Slc, e1 = .returned (Value.agg #[Value.bool b1, s1.v]) ∧ Ahead w1 w2 ∧
     (∀ w3, Ext w2 w3 → Ahead w w3 →
      (R (.returned (Value.agg #[Value.bool b1, s1.v])) w3))))
     :
    Calls Tryd.prog 37 #[Value.agg #[Value.bool a0_a_0, a0_a_1.v]] w (fun e_ w_ => Ahead w w_ ∧ R e_ w_) := by
  refine surdref06_Neg_vc a0_a_0 a0_a_1 w _  ?_
  · have A : Ahead w w := Ahead.refl w
    have X : Ext w w := Ext.refl w
    refine newC_t fun bk1 u1 hb1 ha_u1 _ B1 => ?_
    have g1 := le_eq A.size hb1
    obtain ⟨A, X⟩ := axa2 ha_u1 A X
    refine newC_t fun bk2 u2 hb2 ha_u2 _ B2 => ?_
    have g2 := le_eq A.size hb2
    have l1_2 := lt1 hb2 B1
    replace B1 := B1.ahead ha_u2
    obtain ⟨A, X⟩ := axa2 ha_u2 A X
    refine ldB_t 0 B1 rfl ?_
    refine ldS_t 1 B1 rfl ?_
    replace h := h _ X A
    refine Calls.mono h ?_
    clear h
    rintro e1 w2 ⟨b1, s1, he_, ha_w2, h⟩
    refine ⟨b1, s1, he_, ?_⟩
    clear he_
    obtain ⟨B1, B2⟩ := ah2 ha_w2 B1 B2
    obtain ⟨A, X⟩ := axa2 ha_w2 A X
    replace X : Ext w2 w2 := Ext.refl _
    refine st2_t B2 rfl rfl rfl fun u3 k_u3 B2 => ?_
    replace B1 := up1 k_u3 B1
    obtain ⟨A, X⟩ := axu2 k_u3 g2 A X
    refine ldB_t 0 B2 rfl ?_
    refine ldS_t 1 B2 rfl ?_
    replace h := h _ X A
    exact ⟨A, h⟩

/-- surd/surdref06.Add: function 36, its local variables as values. -/
theorem surdref06_Add_v2 (a0_a_0 : Bool) (a0_a_1 : Slc) (a1_b_0 : Bool) (a1_b_1 : Slc) (w : World) (R : Ending → World → Prop)
    
    (h : br (a0_a_0 == a1_b_0)
    (∀ w1, Ext w w1 → Ahead w w1 →
     (Calls Tryd.prog 52 #[a0_a_1.v, a1_b_1.v] w1 fun e1 w2 =>
      ∃ s1 : Slc, e1 = .returned s1.v ∧ Ahead w1 w2 ∧
      (Calls Tryd.prog 40 #[Value.bool a0_a_0, s1.v] w2 fun e2 w3 =>
       ∃ b1 : Bool, ∃ s2 : Slc, e2 = .returned (Value.agg #[Value.bool b1, s2.v]) ∧ Ahead w2 w3 ∧
       (∀ w4, Ext w3 w4 → Ahead w w4 →
        (R (.returned (Value.agg #[Value.bool b1, s2.v])) w4)))))
    (∀ w5, Ext w w5 → Ahead w w5 →
     (Calls Tryd.prog 47 #[a0_a_1.v, a1_b_1.v] w5 fun e3 w6 =>
      ∃ x1 : Int, e3 = .returned (Value.int .i64 x1) ∧ Ahead w5 w6 ∧
      (br (decide (x1 ≥ 0))
       (∀ w7, Ext w6 w7 → Ahead w w7 →
        (Calls Tryd.prog 53 #[a0_a_1.v, a1_b_1.v] w7 fun e4 w8 =>
         ∃ s3 : Slc, e4 = .returned s3.v ∧ Ahead w7 w8 ∧
         (Calls Tryd.prog 40 #[Value.bool a0_a_0, s3.v] w8 fun e5 w9 =>
          ∃ b2 : Bool, ∃ s4 : Slc, e5 = .returned (Value.agg #[Value.bool b2, s4.v]) ∧ Ahead w8 w9 ∧
          (∀ w10, Ext w9 w10 → Ahead w w10 →
           (R (.returned (Value.agg #[Value.bool b2, s4.v])) w10)))))
       (∀ w11, Ext w6 w11 → Ahead w w11 →
        (Calls Tryd.prog 53 #[a1_b_1.v, a0_a_1.v] w11 fun e6 w12 =>
         ∃ s5 : Slc, e6 = .returned s5.v ∧ Ahead w11 w12 ∧
         (Calls Tryd.prog 40 #[Value.bool a1_b_0, s5.v] w12 fun e7 w13 =>
          ∃ b3 : Bool, ∃ s6 : Slc, e7 = .returned (Value.agg #[Value.bool b3, s6.v]) ∧ Ahead w12 w13 ∧
          (∀ w14, Ext w13 w14 → Ahead w w14 →
           (R (.returned (Value.agg #[Value.bool b3, s6.v])) w14)))))))))
     :
    Calls Tryd.prog 36 #[Value.agg #[Value.bool a0_a_0, a0_a_1.v], Value.agg #[Value.bool a1_b_0, a1_b_1.v]] w (fun e_ w_ => Ahead w w_ ∧ R e_ w_) := by
  refine surdref06_Add_vc a0_a_0 a0_a_1 a1_b_0 a1_b_1 w _  ?_
  · have A : Ahead w w := Ahead.refl w
    have X : Ext w w := Ext.refl w
    refine newC_t fun bk1 u1 hb1 ha_u1 _ B1 => ?_
    have g1 := le_eq A.size hb1
    obtain ⟨A, X⟩ := axa2 ha_u1 A X
    refine newC_t fun bk2 u2 hb2 ha_u2 _ B2 => ?_
    have g2 := le_eq A.size hb2
    have l1_2 := lt1 hb2 B1
    replace B1 := B1.ahead ha_u2
    obtain ⟨A, X⟩ := axa2 ha_u2 A X
    refine newC_t fun bk3 u3 hb3 ha_u3 _ B3 => ?_
    have g3 := le_eq A.size hb3
    obtain ⟨_, _⟩ := lt2 hb3 B1 B2
    obtain ⟨B1, B2⟩ := ah2 ha_u3 B1 B2
    obtain ⟨A, X⟩ := axa2 ha_u3 A X
    refine ldB_t 0 B1 rfl ?_
    refine ldB_t 0 B2 rfl ?_
    refine br_map h (fun h_ => ?_) (fun h_ => ?_)
    ·clear h
     have h := h_
     clear h_
     have hd_ := Sp.Ahead.drew u3
     obtain ⟨B1, B2, B3⟩ := ah3 hd_ B1 B2 B3
     obtain ⟨A, X⟩ := axa2 hd_ A X
     clear hd_
     refine ldB_t 0 B1 rfl ?_
     refine ldS_t 1 B1 rfl ?_
     refine ldS_t 1 B2 rfl ?_
     replace h := h _ X A
     refine Calls.mono h ?_
     clear h
     rintro e1 w2 ⟨s1, he_, ha_w2, h⟩
     refine ⟨s1, he_, ?_⟩
     clear he_
     obtain ⟨B1, B2, B3⟩ := ah3 ha_w2 B1 B2 B3
     obtain ⟨A, X⟩ := axa2 ha_w2 A X
     replace X : Ext w2 w2 := Ext.refl _
     refine ⟨ha_w2, ?_⟩
     refine Calls.mono h ?_
     clear h
     rintro e2 w3 ⟨b1, s2, he_, ha_w3, h⟩
     refine ⟨b1, s2, he_, ?_⟩
     clear he_
     obtain ⟨B1, B2, B3⟩ := ah3 ha_w3 B1 B2 B3
     obtain ⟨A, X⟩ := axa2 ha_w3 A X
     replace X : Ext w3 w3 := Ext.refl _
     refine ⟨ha_w3, ?_⟩
     refine st2_t B3 rfl rfl rfl fun u4 k_u4 B3 => ?_
     obtain ⟨B1, B2⟩ := up2 k_u4 B1 B2
     obtain ⟨A, X⟩ := axu2 k_u4 g3 A X
     refine ldB_t 0 B3 rfl ?_
     refine ldS_t 1 B3 rfl ?_
     replace h := h _ X A
     exact ⟨A, h⟩
    ·clear h
     have h := h_
     clear h_
     refine ldS_t 1 B1 rfl ?_
     refine ldS_t 1 B2 rfl ?_
     replace h := h _ X A
     refine Calls.mono h ?_
     clear h
     rintro e3 w6 ⟨x1, he_, ha_w6, h⟩
     refine ⟨x1, he_, ?_⟩
     clear he_
     obtain ⟨B1, B2, B3⟩ := ah3 ha_w6 B1 B2 B3
     obtain ⟨A, X⟩ := axa2 ha_w6 A X
     replace X : Ext w6 w6 := Ext.refl _
     refine br_map h (fun h_ => ?_) (fun h_ => ?_)
     ·clear h
      have h := h_
      clear h_
      have hd_ := Sp.Ahead.drew w6
      obtain ⟨B1, B2, B3⟩ := ah3 hd_ B1 B2 B3
      obtain ⟨A, X⟩ := axa2 hd_ A X
      clear hd_
      refine ldB_t 0 B1 rfl ?_
      refine ldS_t 1 B1 rfl ?_
      refine ldS_t 1 B2 rfl ?_
      replace h := h _ X A
      refine Calls.mono h ?_
      clear h
      rintro e4 w8 ⟨s3, he_, ha_w8, h⟩
      refine ⟨s3, he_, ?_⟩
      clear he_
      obtain ⟨B1, B2, B3⟩ := ah3 ha_w8 B1 B2 B3
      obtain ⟨A, X⟩ := axa2 ha_w8 A X
      replace X : Ext w8 w8 := Ext.refl _
      refine ⟨ha_w8, ?_⟩
      refine Calls.mono h ?_
      clear h
      rintro e5 w9 ⟨b2, s4, he_, ha_w9, h⟩
      refine ⟨b2, s4, he_, ?_⟩
      clear he_
      obtain ⟨B1, B2, B3⟩ := ah3 ha_w9 B1 B2 B3
      obtain ⟨A, X⟩ := axa2 ha_w9 A X
      replace X : Ext w9 w9 := Ext.refl _
      refine ⟨ha_w9, ?_⟩
      refine st2_t B3 rfl rfl rfl fun u5 k_u5 B3 => ?_
      obtain ⟨B1, B2⟩ := up2 k_u5 B1 B2
      obtain ⟨A, X⟩ := axu2 k_u5 g3 A X
      refine ldB_t 0 B3 rfl ?_
      refine ldS_t 1 B3 rfl ?_
      replace h := h _ X A
      exact ⟨A, h⟩
     ·clear h
      have h := h_
      clear h_
      have hd_ := Sp.Ahead.drew w6
      obtain ⟨B1, B2, B3⟩ := ah3 hd_ B1 B2 B3
      obtain ⟨A, X⟩ := axa2 hd_ A X
      clear hd_
      refine ldB_t 0 B2 rfl ?_
      refine ldS_t 1 B2 rfl ?_
      refine ldS_t 1 B1 rfl ?_
      replace h := h _ X A
      refine Calls.mono h ?_
      clear h
      rintro e6 w12 ⟨s5, he_, ha_w12, h⟩
      refine ⟨s5, he_, ?_⟩
      clear he_
      obtain ⟨B1, B2, B3⟩ := ah3 ha_w12 B1 B2 B3
      obtain ⟨A, X⟩ := axa2 ha_w12 A X
      replace X : Ext w12 w12 := Ext.refl _
      refine ⟨ha_w12, ?_⟩
      refine Calls.mono h ?_
      clear h
      rintro e7 w13 ⟨b3, s6, he_, ha_w13, h⟩
      refine ⟨b3, s6, he_, ?_⟩
      clear he_
      obtain ⟨B1, B2, B3⟩ := ah3 ha_w13 B1 B2 B3
      obtain ⟨A, X⟩ := axa2 ha_w13 A X
      replace X : Ext w13 w13 := Ext.refl _
      refine ⟨ha_w13, ?_⟩
      refine st2_t B3 rfl rfl rfl fun u6 k_u6 B3 => ?_
      obtain ⟨B1, B2⟩ := up2 k_u6 B1 B2
      obtain ⟨A, X⟩ := axu2 k_u6 g3 A X
      refine ldB_t 0 B3 rfl ?_
      refine ldS_t 1 B3 rfl ?_
      replace h := h _ X A
      exact ⟨A, h⟩

/-- surd/surdlaw08.of: function 5, its local variables as values. -/
theorem surdlaw08_of_v2 (a0_a_0 : Bool) (a0_a_1 : Slc) (a0_a_2 : Int) (w : World) (R : Ending → World → Prop)
    
    (h : ∀ w1, Ext w w1 → Ahead w w1 →
    (Calls Tryd.prog 18 #[Value.int .i64 a0_a_2] w1 fun e1 w2 =>
     ∃ b1 : Bool, e1 = .returned (Value.bool b1) ∧ Ahead w1 w2 ∧
     (br (!b1)
      (∀ w3, Ext w2 w3 → Ahead w w3 →
       (R (.returned (Value.tuple #[Value.agg #[Value.bool (false), ((⟨none, 0, 0⟩ : Slc)).v, Value.int .i64 (0 : Int)], Value.bool false])) w3))
      (∀ w4, Ext w2 w4 → Ahead w w4 →
       (Calls Tryd.prog 20 #[Value.bool a0_a_0, a0_a_1.v] w4 fun e2 w5 =>
        ∃ b2 : Bool, ∃ s1 : Slc, e2 = .returned (Value.agg #[Value.bool b2, s1.v]) ∧ Ahead w4 w5 ∧
        (Calls Tryd.prog 19 #[Value.agg #[Value.bool b2, s1.v], Value.int .i64 a0_a_2] w5 fun e3 w6 =>
         ∃ b3 : Bool, ∃ s2 : Slc, ∃ x1 : Int, e3 = .returned (Value.agg #[Value.bool b3, s2.v, Value.int .i64 x1]) ∧ Ahead w5 w6 ∧
         (∀ w7, Ext w6 w7 → Ahead w w7 →
          (R (.returned (Value.tuple #[Value.agg #[Value.bool b3, s2.v, Value.int .i64 x1], Value.bool true])) w7))))))))
     :
    Calls Tryd.prog 5 #[Value.agg #[Value.bool a0_a_0, a0_a_1.v, Value.int .i64 a0_a_2]] w (fun e_ w_ => Ahead w w_ ∧ R e_ w_) := by
  refine surdlaw08_of_vc a0_a_0 a0_a_1 a0_a_2 w _  ?_
  · have A : Ahead w w := Ahead.refl w
    have X : Ext w w := Ext.refl w
    refine newC_t fun bk1 u1 hb1 ha_u1 _ B1 => ?_
    have g1 := le_eq A.size hb1
    obtain ⟨A, X⟩ := axa2 ha_u1 A X
    refine newC_t fun bk2 u2 hb2 ha_u2 _ B2 => ?_
    have g2 := le_eq A.size hb2
    have l1_2 := lt1 hb2 B1
    replace B1 := B1.ahead ha_u2
    obtain ⟨A, X⟩ := axa2 ha_u2 A X
    refine ldI_t 2 B1 rfl ?_
    replace h := h _ X A
    refine Calls.mono h ?_
    clear h
    rintro e1 w2 ⟨b1, he_, ha_w2, h⟩
    refine ⟨b1, he_, ?_⟩
    clear he_
    obtain ⟨B1, B2⟩ := ah2 ha_w2 B1 B2
    obtain ⟨A, X⟩ := axa2 ha_w2 A X
    replace X : Ext w2 w2 := Ext.refl _
    refine br_map h (fun h_ => ?_) (fun h_ => ?_)
    ·clear h
     have h := h_
     clear h_
     refine st3_t B2 rfl rfl rfl rfl fun u3 k_u3 B2 => ?_
     replace B1 := up1 k_u3 B1
     obtain ⟨A, X⟩ := axu2 k_u3 g2 A X
     refine ldB_t 0 B2 rfl ?_
     refine ldS_t 1 B2 rfl ?_
     refine ldI_t 2 B2 rfl ?_
     replace h := h _ X A
     exact ⟨A, h⟩
    ·clear h
     have h := h_
     clear h_
     have hd_ := Sp.Ahead.drew w2
     obtain ⟨B1, B2⟩ := ah2 hd_ B1 B2
     obtain ⟨A, X⟩ := axa2 hd_ A X
     clear hd_
     refine ldB_t 0 B1 rfl ?_
     refine ldS_t 1 B1 rfl ?_
     refine ldI_t 2 B1 rfl ?_
     replace h := h _ X A
     refine Calls.mono h ?_
     clear h
     rintro e2 w5 ⟨b2, s1, he_, ha_w5, h⟩
     refine ⟨b2, s1, he_, ?_⟩
     clear he_
     obtain ⟨B1, B2⟩ := ah2 ha_w5 B1 B2
     obtain ⟨A, X⟩ := axa2 ha_w5 A X
     replace X : Ext w5 w5 := Ext.refl _
     refine ⟨ha_w5, ?_⟩
     refine Calls.mono h ?_
     clear h
     rintro e3 w6 ⟨b3, s2, x1, he_, ha_w6, h⟩
     refine ⟨b3, s2, x1, he_, ?_⟩
     clear he_
     obtain ⟨B1, B2⟩ := ah2 ha_w6 B1 B2
     obtain ⟨A, X⟩ := axa2 ha_w6 A X
     replace X : Ext w6 w6 := Ext.refl _
     refine ⟨ha_w6, ?_⟩
     refine st3_t B2 rfl rfl rfl rfl fun u4 k_u4 B2 => ?_
     replace B1 := up1 k_u4 B1
     obtain ⟨A, X⟩ := axu2 k_u4 g2 A X
     refine ldB_t 0 B2 rfl ?_
     refine ldS_t 1 B2 rfl ?_
     refine ldI_t 2 B2 rfl ?_
     replace h := h _ X A
     exact ⟨A, h⟩

end Go.Proofs.YtlkjgafnjmfgiaaDoor
namespace Go.Proofs.YtlkjgafnjmfgiaaDoor
open Go Go.RowKit Eng Sp Dg L2
set_option linter.unusedVariables false
set_option linter.unusedSimpArgs false
set_option maxRecDepth 100000
namespace Dy
open _root_.Go.Proofs.YtlkjgafnjmfgiaaDoor.Nat (ldN ldNf stF stFf mkF Fill OwnNil Num Num.bl OwnNil.mono OwnNil.ext OwnNil.rd OwnNil.ahead OwnNil.nil bigC leftC left_num Norm_spec Length_spec len_num semShr semShl fixShl orI_nat digs_len_bl From_spec nBit_spec)
open _root_.Go.Proofs.YtlkjgafnjmfgiaaDoor.Ref (len_mono)
open Sb

theorem limb_spec {w : World} {s : Slc} {l : List Nat} (h : Rd .u64 w s (nn l)) {i : Int} (h0 : 0 ≤ i) :
    Calls pr dyadic_limb_id #[s.v, .int .i64 i] w fun e w' => w' = w ∧ e = .returned (.int .u64 (l.getD i.toNat 0 : Nat)) := by
  have hn : s.n = l.length := by rw [h.n, nn_length]
  refine dyadic_limb_vc s i w _ (br_intro (fun hlt => ?_) (fun hge => ?_))
  · have hlt' : i < l.length := by have := of_decide_eq_true hlt; omega
    exact ldN h h0 hlt' ⟨rfl, rfl⟩
  · refine ⟨rfl, ?_⟩
    rw [getD_ge l 0 (by have := of_decide_eq_false hge; omega)]; rfl

theorem plus_spec {w : World} {p q : Slc} {x y : Nat} (hp : Rd .u64 w p (nn (digs B64 x))) (hq : Rd .u64 w q (nn (digs B64 y))) (la : (digs B64 x).length + 1 ≤ 2 ^ 44) (lb : (digs B64 y).length + 1 ≤ 2 ^ 44) :
    Calls pr dyadic_plus_id #[p.v, q.v] w fun e w' => Ahead w w' ∧ ∃ s, e = .returned (Slc.v s) ∧ OwnNil w.heap.size w' s (digs B64 (x + y)) := by
  have hB := B64v
  have hna : p.n = (digs B64 x).length := by rw [hp.n, nn_length]
  have hnb : q.n = (digs B64 y).length := by rw [hq.n, nn_length]
  have oa := ok_digs two64 x
  have ob := ok_digs two64 y
  have vx := val_digs two64 x
  have vy := val_digs two64 y
  generalize digs B64 x = A at *
  generalize digs B64 y = C at *
  refine dyadic_plus_vc p q w _ (fun s t out k n i w' => s = p ∧ t = q ∧ ∃ (m : Nat) (l : List Nat) (j cr : Nat), n = ((m + 1 : Nat) : Int) ∧ A.length ≤ m ∧ C.length ≤ m ∧ m + 1 ≤ 2 ^ 44 ∧ k = (cr : Int) ∧ cr ≤ 1 ∧ i = (j : Int) ∧ j ≤ m + 1 ∧
    Fill w w' out l (fun _ => True) ∧ l.length = m + 1 ∧ ok B64 l ∧ val B64 (l.take j) + cr * B64 ^ j = val B64 (A.take j) + val B64 (C.take j)) (fun _ _ _ _ n i _ => (n - i).toNat) ?_ ?_
  · have em : maxI (p.n : Int) (q.n : Int) = ((max A.length C.length : Nat) : Int) := by
      unfold maxI; split <;> omega
    rw [em, wrap_i64 (by omega) (by omega)]
    refine mkF (S := fun _ => True) (w0 := w) (by omega) (by omega) (Ahead.refl _) trivial ?_
    intro s w1 hsn hf ha
    refine ⟨rfl, rfl, max A.length C.length, _, 0, 0, by rw [hsn]; omega, by omega, by omega, by omega, rfl, by omega, rfl, Nat.zero_le _, hf, by rw [List.length_replicate]; omega, ok_replicate (by omega) _, by simp [val]⟩
  · rintro s t out k n i w1 ⟨rfl, rfl, m, l, j, cr, rfl, hA, hC, hm, rfl, hcr, rfl, hj, hf, hl, ol, hv⟩
    refine br_intro (fun hlt => ?_) (fun hge => ?_)
    · have hj' : j < m + 1 := by have := of_decide_eq_true hlt; omega
      refine Calls.mono (limb_spec (hp.ahead hf.base) (by omega)) ?_
      rintro e w2 ⟨rfl, rfl⟩
      refine ⟨_, rfl, Calls.mono (limb_spec (hq.ahead hf.base) (by omega)) ?_⟩
      rintro e w3 ⟨rfl, rfl⟩
      refine ⟨_, rfl, ?_⟩
      rw [Int.toNat_natCast]
      have hx := ok_getD oa (by omega : 0 < B64) j
      have hy := ok_getD ob (by omega : 0 < B64) j
      have e8 : IntKind.i64.wrap ((j : Int) + 1) = ((j + 1 : Nat) : Int) := by rw [wrap_i64 (by omega) (by omega)]; omega
      have t1 := val_take_succ' A j (B := B64)
      have t2 := val_take_succ' C j (B := B64)
      generalize A.getD j 0 = a at *
      generalize C.getD j 0 = c at *
      have e1 : IntKind.u64.wrap ((a : Int) + (c : Int)) = (((a + c) % B64 : Nat) : Int) := by rw [wrap_u64, hB]; omega
      have e2 : IntKind.u64.wrap ((((a + c) % B64 : Nat) : Int) + (cr : Int)) = (((a + c + cr) % B64 : Nat) : Int) := by rw [wrap_u64, hB]; omega
      rw [e1, e2]
      -- a round's end
      have fin : ∀ cr' : Nat, cr' = (a + c + cr) / B64 → semA pr (Instr.indexAt 25 out.v (.int .i64 (j : Int))) w3 fun ad1 w4 => stC ad1 (.int .u64 (((a + c + cr) % B64 : Nat) : Int)) w4 fun w5 =>
          (s = s ∧ t = t ∧ ∃ (m' : Nat) (l : List Nat) (j' cr : Nat), ((m + 1 : Nat) : Int) = ((m' + 1 : Nat) : Int) ∧ A.length ≤ m' ∧ C.length ≤ m' ∧ m' + 1 ≤ 2 ^ 44 ∧ (cr' : Int) = (cr : Int) ∧ cr ≤ 1 ∧ IntKind.i64.wrap ((j : Int) + 1) = (j' : Int) ∧ j' ≤ m' + 1 ∧
    Fill w w5 out l (fun _ => True) ∧ l.length = m' + 1 ∧ ok B64 l ∧ val B64 (l.take j') + cr * B64 ^ j' = val B64 (A.take j') + val B64 (C.take j')) ∧ (((m + 1 : Nat) : Int) - IntKind.i64.wrap ((j : Int) + 1)).toNat < (((m + 1 : Nat) : Int) - (j : Int)).toNat := by
        intro cr' hc'
        refine stF hf (by omega) (by omega) ?_
        intro w5 hf5
        simp only [Int.toNat_natCast] at hf5
        refine ⟨⟨rfl, rfl, m, _, j + 1, cr', rfl, hA, hC, hm, rfl, by rw [hc', hB]; omega, e8, hj', hf5, by simpa using hl, ok_set ol (Nat.mod_lt _ (by omega)), ?_⟩, by rw [e8]; omega⟩
        rw [val_take_set _ _ _ (by omega), t1, t2, Nat.pow_succ]
        exact add_step (by have := Nat.mod_add_div (a + c + cr) B64; rw [hc']; omega) hv
      refine br_intro (fun h1 => ?_) (fun h1 => br_intro (fun h2 => ?_) (fun h2 => ?_))
      · exact fin 1 (by have := of_decide_eq_true h1; rw [hB] at this ⊢; omega)
      · exact fin 1 (by have := of_decide_eq_true h2; rw [hB] at this ⊢; omega)
      · exact fin 0 (by have q1 := of_decide_eq_false h1; have q2 := of_decide_eq_false h2; rw [hB] at q1 q2 ⊢; omega)
    · have hj' : j = m + 1 := by have := of_decide_eq_false hge; omega
      subst hj'
      rw [val_take_all l (by omega), val_take_all A (by omega), val_take_all C (by omega), vx, vy] at hv
      have h1 : x < B64 ^ m := by rw [← vx]; exact Nat.lt_of_lt_of_le (val_lt oa) (Nat.pow_le_pow_right (by omega) hA)
      have h2 : y < B64 ^ m := by rw [← vy]; exact Nat.lt_of_lt_of_le (val_lt ob) (Nat.pow_le_pow_right (by omega) hC)
      have h3 : cr = 0 := by
        rcases Nat.lt_or_ge cr 1 with h | h
        · omega
        · have hc1 : cr = 1 := by omega
          subst hc1
          have : 2 * B64 ^ m ≤ B64 ^ (m + 1) := by rw [Nat.pow_succ, Nat.mul_comm]; exact Nat.mul_le_mul_left _ (by omega)
          omega
      subst h3
      have hv' : val B64 l = x + y := by omega
      refine Calls.mono (Norm_spec hf.rd (by omega) ol) ?_
      rw [hv']
      rintro e w6 ⟨h6, s', rfl, hr⟩
      exact ⟨_, rfl, hf.base.trans h6, _, rfl, hr.mono hf.base.size⟩

theorem set_getD_self (l : List Nat) (i : Nat) (h : i < l.length) : l.set i (l.getD i 0) = l := by
  rw [getD_lt _ _ h]; exact List.set_getElem_self h
theorem dleft_spec {w : World} {a : Slc} {x k : Nat} (ra : Rd .u64 w a (nn (digs B64 x))) (na : (digs B64 x).length + k / 64 + 1 ≤ 2 ^ 44) :
    Calls pr dyadic_left_id #[a.v, .int .i64 (k : Int)] w fun e w' => Ahead w w' ∧ ∃ s, e = .returned (Slc.v s) ∧ OwnNil w.heap.size w' s (digs B64 (x * 2 ^ k)) := by
  have hB := B64v
  have h64 : B64 = 2 ^ 64 := rfl
  have hA0 := val_digs two64 x
  have hoA := ok_digs two64 x
  have hw : k % 64 < 64 := Nat.mod_lt _ (by omega)
  have hp2 : B64 ^ (k / 64) * 2 ^ (k % 64) = 2 ^ k := (pow_split k 64).symm
  have hnum : Num w a x := ⟨_, ra, by omega, hoA, hA0⟩
  have hna : a.n = (digs B64 x).length := by rw [ra.n, nn_length]
  generalize digs B64 x = A at *
  refine dyadic_left_vc a k w _ (fun t7 t8 t9 t32 t33 t34 w' => t7 = ((k / 64 : Nat) : Int) ∧ t8 = ((k % 64 : Nat) : Int) ∧ t33 = (A.length : Int) ∧ ∃ (l : List Nat) (j : Nat), t34 = (j : Int) ∧ j ≤ A.length ∧
    Fill w w' t9 l (fun w' => Rd .u64 w' t32 (nn A)) ∧ l.length = k / 64 + A.length + 1 ∧ ok B64 l ∧ val B64 l = val B64 (A.take j) * (B64 ^ (k / 64) * 2 ^ (k % 64))) (fun _ _ _ _ n i _ => (n - i).toNat) ?_ ?_
  · refine Calls.mono (left_num hnum (n := (k : Int)) (by omega) (by omega)) ?_
    rintro e w1 ⟨h1, s, rfl, os⟩
    have ek : ((k : Int)).toNat = k := by omega
    rw [ek] at os
    refine ⟨_, _, rfl, br_intro (fun hc => ?_) (fun hc => ?_)⟩
    · have hc0 : leftC x (k : Int) = 0 := by simpa using hc
      rw [if_pos hc0] at os
      exact ⟨h1, s, rfl, os⟩
    · rw [tdivN (by omega), tmodN, hna, wrap_i64 (x := (A.length : Int) + _) (by omega) (by omega), wrap_i64 (by omega) (by omega), show (A.length : Int) + ((k / 64 : Nat) : Int) + 1 = ((k / 64 + A.length + 1 : Nat) : Int) by omega]
      refine mkF (w0 := w) (S := fun w' => Rd .u64 w' a (nn A)) (by omega) (by omega) h1 (ra.ahead h1) ?_
      intro c w3 hcn hf ha
      refine ⟨rfl, rfl, rfl, _, 0, rfl, Nat.zero_le _, hf, by rw [List.length_replicate]; omega, ok_replicate (by omega) _, ?_⟩
      rw [val_replicate]; simp [val]
  · rintro t7 t8 c t32 t33 t34 w' ⟨rfl, rfl, rfl, l, j, rfl, hj, hf, hl, ol, hv⟩
    have hS := hf.src (fun _ h hs => Rd.ahead hs h)
    refine br_intro (fun hlt => ?_) (fun hge => ?_)
    · have hj' : j < A.length := by have := of_decide_eq_true hlt; omega
      have hfacts := left_facts (w := 64) (l := l) (A := A) (j := j) (wd := k / 64) (s := k % 64) hw (by omega) hoA hj' hv
      refine ldN hS (by omega) (by omega) ?_
      rw [wrap_i64 (x := (j : Int) + ((k / 64 : Nat) : Int)) (by omega) (by omega), show (j : Int) + ((k / 64 : Nat) : Int) = ((k / 64 + j : Nat) : Int) by omega,
        wrap_i64 (x := ((k / 64 + j : Nat) : Int) + 1) (by omega) (by omega), show ((k / 64 + j : Nat) : Int) + 1 = ((k / 64 + j + 1 : Nat) : Int) by omega]
      refine ldN hf.rd (by omega) (by omega) ?_
      refine semShl (by omega) ?_
      have hx := ok_getD hoA (by omega : 0 < B64) j
      have hlk := ok_getD ol (by omega : 0 < B64) (k / 64 + j)
      simp only [Int.toNat_natCast]
      rw [orI_nat hlk (Nat.mod_lt _ (by omega))]
      refine stF hf (by omega) (by omega) ?_
      intro w7 hf7
      simp only [Int.toNat_natCast] at hf7
      have e8 : IntKind.i64.wrap ((j : Int) + 1) = ((j + 1 : Nat) : Int) := by rw [wrap_i64 (by omega) (by omega)]; omega
      have hlo : l.getD (k / 64 + j) 0 ||| A.getD j 0 * 2 ^ (k % 64) % B64 = l.getD (k / 64 + j) 0 + A.getD j 0 * 2 ^ (k % 64) % 2 ^ 64 := by
        have h2 := shl_lo (A.getD j 0) (k % 64) 64 (by omega)
        have h2' : A.getD j 0 * 2 ^ (k % 64) % B64 = _ := h2
        rw [h2', h2, or_add hfacts.1]
      have hlolt : l.getD (k / 64 + j) 0 ||| A.getD j 0 * 2 ^ (k % 64) % B64 < B64 := Nat.or_lt_two_pow (n := 64) hlk (Nat.mod_lt _ (by omega))
      have hhi : A.getD j 0 * 2 ^ (k % 64) / 2 ^ 64 < B64 := by
        rw [shl_hi _ _ _ (by omega)]
        exact Nat.lt_of_le_of_lt (Nat.div_le_self _ _) hx
      have stp := left_step (w := 64) (lo := l.getD (k / 64 + j) 0 ||| A.getD j 0 * 2 ^ (k % 64) % B64) hw (by omega) hoA hj' hv hlo rfl
      refine br_intro (fun hs => ?_) (fun hs => ?_)
      · have hs' : 0 < k % 64 := by have := of_decide_eq_true hs; omega
        rw [show IntKind.u64.wrap (64 - ((k % 64 : Nat) : Int)) = ((64 - k % 64 : Nat) : Int) by rw [wrap_u64' (by omega) (by omega)]; omega]
        refine semShr (by omega) ?_
        rw [← shl_hi _ _ 64 (by omega)]
        refine stF hf7 (by omega) (by simp; omega) ?_
        intro w10 hf10
        simp only [Int.toNat_natCast] at hf10
        exact ⟨⟨by trivial, by trivial, by trivial, _, j + 1, e8, by omega, hf10, by simpa using hl, ok_set (ok_set ol hlolt) hhi, stp⟩, by rw [e8]; omega⟩
      · have hs' : k % 64 = 0 := by have := of_decide_eq_false hs; omega
        have hz : A.getD j 0 * 2 ^ (k % 64) / 2 ^ 64 = 0 := by
          rw [hs', Nat.pow_zero, Nat.mul_one]; exact Nat.div_eq_of_lt hx
        rw [hz] at stp
        have hzero : (l.set (k / 64 + j) (l.getD (k / 64 + j) 0 ||| A.getD j 0 * 2 ^ (k % 64) % B64)).getD (k / 64 + j + 1) 0 = 0 := by
          rw [getD_set _ _ _ _ (by omega), if_neg (by omega)]; exact hfacts.2
        have hsame := set_getD_self (l.set (k / 64 + j) (l.getD (k / 64 + j) 0 ||| A.getD j 0 * 2 ^ (k % 64) % B64)) (k / 64 + j + 1) (by simp; omega)
        rw [hzero] at hsame
        rw [hsame] at stp
        exact ⟨⟨by trivial, by trivial, by trivial, _, j + 1, e8, by omega, hf7, by simpa using hl, ok_set ol hlolt, stp⟩, by rw [e8]; omega⟩
    · have hj' : j = A.length := by have := of_decide_eq_false hge; omega
      subst hj'
      rw [List.take_length, hA0, hp2] at hv
      refine Calls.mono (Norm_spec hf.rd (by omega) ol) ?_
      rw [hv]
      rintro e w3 ⟨h3, s, rfl, os⟩
      exact ⟨_, rfl, hf.base.trans h3, _, rfl, os.mono hf.base.size⟩

theorem direction_spec {w : World} {m : Int} : Calls pr dyadic_direction_id #[.int .i64 m] w fun e w' => w' = w ∧ e = .returned (.bool (decide (0 ≤ m ∧ m ≤ 2))) := by
  refine dyadic_direction_vc m w _ (br_intro (fun h => ?_) (fun h => br_intro (fun h2 => ?_) (fun h2 => ?_)))
  · have h' : m = 0 := by simpa using h
    subst h'; exact ⟨rfl, rfl⟩
  · have h' : m = 1 := by simpa using h2
    subst h'; exact ⟨rfl, rfl⟩
  · have h1 : m ≠ 0 := by simpa using h
    have h3 : m ≠ 1 := by simpa using h2
    refine ⟨rfl, ?_⟩
    congr 2
    rw [Bool.eq_iff_iff]
    simp; omega

/-- Does the size grow by a step? -/
def upR (neg : Bool) (n gap : Nat) (m : Int) : Bool := if m = 2 then decide (n / 2 ^ (gap - 1) % 2 = 1) && (decide (tz n < gap - 1) || decide (n / 2 ^ gap % 2 = 1)) else if m = 0 then neg else !neg
/-- The size of a number of so many steps, rounded. -/
def rq (neg : Bool) (n gap : Nat) (m : Int) : Nat := n / 2 ^ gap + if upR neg n gap m then 1 else 0
def stq (neg : Bool) (n : Nat) (e pos m : Int) : Nat := if n = 0 ∨ pos ≤ e then n * 2 ^ (e - pos).toNat else rq neg n (pos - e).toNat m

theorem steps_spec {w : World} {neg : Bool} {s : Slc} {n : Nat} {e pos m : Int} (hT : Tab w) (r : Rd .u64 w s (nn (digs B64 n))) (hl : (digs B64 n).length + 1 ≤ 2 ^ 44) (he : -2305843009213693952 ≤ e ∧ e ≤ 2305843009213693952) (hp : -2305843009213693952 ≤ pos ∧ pos ≤ 2305843009213693952)
    (hsz : n = 0 ∨ pos ≤ e → (digs B64 n).length + (e - pos).toNat / 64 + 1 ≤ 2 ^ 44) :
    Calls pr dyadic_steps_id #[.agg (c3 neg s e), .int .i64 pos, .int .i64 m] w fun en w' => Ahead w w' ∧ ∃ s', en = .returned (.agg (c2 neg s')) ∧ OwnNil w.heap.size w' s' (digs B64 (stq neg n e pos m)) := by
  have hB := B64v
  have on := ok_digs two64 n
  have vn := val_digs two64 n
  have hnum : Num w s n := ⟨_, r, by omega, on, vn⟩
  have hbl := Num.bl hnum
  refine dyadic_steps_v2 neg s e pos m w _
    (fun t1 t2 t19 b s' e' _ _ w' => pos = t1 ∧ m = t2 ∧ t19 = decide (n = 0 ∨ pos ≤ e) ∧ neg = b ∧ s = s' ∧ e = e')
    (fun t2 t7 t8 b s' e' _ _ w' => m = t2 ∧ t7 = (((pos - e).toNat : Nat) : Int) ∧ ¬ (n = 0 ∨ pos ≤ e) ∧ OwnNil w.heap.size w' t8 (digs B64 (n / 2 ^ (pos - e).toNat)) ∧ neg = b ∧ s = s')
    (fun t8 t9 b s' e' _ _ w' => ¬ (n = 0 ∨ pos ≤ e) ∧ OwnNil w.heap.size w' t8 (digs B64 (n / 2 ^ (pos - e).toNat)) ∧ t9 = upR neg n (pos - e).toNat m ∧ neg = b) ?_ ?_ ?_ ?_
  · intro w1 x1 a1
    refine Calls.mono (part_sign_spec (hnum.ahead a1)) ?_
    rintro en w2 ⟨h2, rfl⟩
    refine ⟨_, rfl, h2, br_intro (fun hz => ?_) (fun hz => ?_)⟩
    · have hn : n = 0 := sgn_zero_iff.1 (by simpa using hz)
      exact ⟨rfl, rfl, by simp [hn], rfl, rfl, rfl⟩
    · have hn : n ≠ 0 := fun e0 => by rw [e0] at hz; simp [sgn] at hz
      exact ⟨rfl, rfl, by simp [hn], rfl, rfl, rfl⟩
  · rintro _ _ _ _ _ _ _ _ w1 a1 ⟨rfl, rfl, rfl, rfl, rfl, rfl⟩
    refine br_intro (fun hc => ?_) (fun hc => ?_)
    · have hc' := of_decide_eq_true hc
      intro w3 x3 a3
      have e1 : maxI (IntKind.i64.wrap (e - pos)) 0 = (((e - pos).toNat : Nat) : Int) := by
        rw [wrap_i64 (by omega) (by omega)]; unfold maxI; split <;> omega
      rw [e1]
      refine Calls.mono (dleft_spec (r.ahead a3) (hsz hc')) ?_
      rintro en w4 ⟨h4, s1, rfl, o1⟩
      refine ⟨_, rfl, h4, fun w5 x5 a5 => ⟨_, rfl, ?_⟩⟩
      rw [stq, if_pos hc']
      exact (o1.ext x5).mono a3.size
    · have hc' := of_decide_eq_false hc
      have hn : n ≠ 0 := fun h => hc' (.inl h)
      have hpe : e < pos := by
        rcases Int.lt_or_le e pos with h | h
        · exact h
        · exact absurd (.inr h) hc'
      refine Calls.mono (part_length_spec (hnum.ahead a1)) ?_
      rintro en w6 ⟨h6, rfl⟩
      have e1 : IntKind.i64.wrap (pos - e) = (((pos - e).toNat : Nat) : Int) := by rw [wrap_i64 (by omega) (by omega)]; omega
      rw [e1]
      refine ⟨_, rfl, h6, br_intro (fun hg => ?_) (fun hg => ?_)⟩
      · have hg' := of_decide_eq_true hg
        refine Calls.mono (shifted_spec (r.ahead (a1.trans h6)) (by omega) (by omega)) ?_
        rintro en w7 ⟨h7, s2, rfl, o2⟩
        exact ⟨_, rfl, h7, rfl, rfl, hc', o2.mono (a1.trans h6).size, rfl, rfl⟩
      · have hg' := of_decide_eq_false hg
        have hz : n / 2 ^ (pos - e).toNat = 0 := Nat.div_eq_of_lt (bl_le_iff.1 (by omega))
        refine ⟨rfl, rfl, hc', ?_, rfl, rfl⟩
        rw [hz, digs_zero]; exact OwnNil.nil
  · rintro _ _ t8 _ _ _ _ _ w1 a1 ⟨rfl, rfl, hc, o8, rfl, rfl⟩
    have hn : n ≠ 0 := fun h => hc (.inl h)
    have hpe : e < pos := by
      rcases Int.lt_or_le e pos with h | h
      · exact h
      · exact absurd (.inr h) hc
    obtain ⟨g, hg⟩ : ∃ g, (pos - e).toNat = g + 1 := ⟨(pos - e).toNat - 1, by omega⟩
    rw [hg] at o8 ⊢
    refine br_intro (fun h2 => ?_) (fun h2 => ?_)
    · have h2' : m = 2 := by simpa using h2
      rw [show IntKind.i64.wrap (((g + 1 : Nat) : Int) - 1) = (g : Int) by rw [wrap_i64 (by omega) (by omega)]; omega]
      refine Calls.mono (nBit_spec (r.ahead a1) (by omega) on (by omega)) ?_
      rw [vn]
      rintro en w8 ⟨rfl, rfl⟩
      refine ⟨_, rfl, Ahead.refl _, br_intro (fun hb => ?_) (fun hb => ?_)⟩
      · have hb' : n / 2 ^ g % 2 = 1 := by have := eq_of_beq hb; omega
        refine Calls.mono (Tail_spec (hT.ahead a1) (r.ahead a1) (by omega) on) ?_
        rw [vn]
        rintro en w9 ⟨rfl, rfl⟩
        refine ⟨_, rfl, Ahead.refl _, br_intro (fun ht => ?_) (fun ht => ?_)⟩
        · have ht' := of_decide_eq_true ht
          refine ⟨hc, o8, ?_, rfl⟩
          rw [upR, if_pos h2', Nat.add_sub_cancel, decide_eq_true hb', decide_eq_true (show tz n < g by omega)]; rfl
        · have ht' := of_decide_eq_false ht
          have lq : (digs B64 (n / 2 ^ (g + 1))).length ≤ 2 ^ 46 := Nat.le_trans (len_mono two64 (Nat.div_le_self _ _)) (by omega)
          have hb0 := nBit_spec (i := 0) o8.rd lq (ok_digs two64 _) (by omega)
          rw [val_digs two64, Nat.pow_zero, Nat.div_one] at hb0
          refine Calls.mono hb0 ?_
          rintro en w14 ⟨rfl, rfl⟩
          have hup : upR neg n (g + 1) m = decide (n / 2 ^ (g + 1) % 2 = 1) := by
            rw [upR, if_pos h2', Nat.add_sub_cancel, decide_eq_true hb', decide_eq_false (show ¬ tz n < g by omega)]; simp
          refine ⟨_, rfl, Ahead.refl _, br_intro (fun hq => ?_) (fun hq => ?_)⟩
          · refine ⟨hc, o8, ?_, rfl⟩
            rw [hup, decide_eq_false]
            intro h
            rw [h] at hq
            simp at hq
          · refine ⟨hc, o8, ?_, rfl⟩
            rw [hup, decide_eq_true]
            have := Nat.mod_lt (n / 2 ^ (g + 1)) (show 2 > 0 by omega)
            rcases Nat.lt_or_ge (n / 2 ^ (g + 1) % 2) 1 with h | h
            · have h0 : n / 2 ^ (g + 1) % 2 = 0 := by omega
              rw [h0] at hq
              simp at hq
            · omega
      · refine ⟨hc, o8, ?_, rfl⟩
        have hb' : ¬ n / 2 ^ g % 2 = 1 := fun h => by rw [h] at hb; simp at hb
        rw [upR, if_pos h2', Nat.add_sub_cancel, decide_eq_false hb']; rfl
    · have h2' : m ≠ 2 := by simpa using h2
      refine br_intro (fun h0 => ?_) (fun h0 => ?_)
      · exact ⟨hc, o8, by rw [upR, if_neg h2', if_pos (by simpa using h0)], rfl⟩
      · exact ⟨hc, o8, by rw [upR, if_neg h2', if_neg (by simpa using h0)], rfl⟩
  · rintro t8 _ _ _ _ _ _ w1 a1 ⟨hc, o8, rfl, rfl⟩
    have hst : stq neg n e pos m = rq neg n (pos - e).toNat m := if_neg hc
    have lq : (digs B64 (n / 2 ^ (pos - e).toNat)).length + 1 ≤ 2 ^ 44 := Nat.le_trans (Nat.add_le_add_right (len_mono two64 (Nat.div_le_self _ _)) 1) hl
    refine br_intro (fun hu => ?_) (fun hu => ?_)
    · refine Calls.mono (From_spec (v := 1) (by omega)) ?_
      rintro en w10 ⟨h10, s3, rfl, o3⟩
      have l1 : (digs B64 1).length ≤ 1 := digs_length_le two64 (by rw [Nat.pow_one]; omega)
      refine ⟨_, rfl, h10, Calls.mono (plus_spec (o8.ahead h10).rd o3.rd lq (by omega)) ?_⟩
      rintro en w11 ⟨h11, s4, rfl, o4⟩
      refine ⟨_, rfl, h11, fun w12 x12 a12 => ⟨_, rfl, ?_⟩⟩
      rw [hst, rq, if_pos hu]
      exact (o4.ext x12).mono (a1.trans h10).size
    · intro w13 x13 a13
      refine ⟨_, rfl, ?_⟩
      rw [hst, rq, if_neg (by rw [hu]; simp), Nat.add_zero]
      exact o8.ext x13

end Dy
end Go.Proofs.YtlkjgafnjmfgiaaDoor
namespace Go.Proofs.YtlkjgafnjmfgiaaDoor
open Go Go.RowKit Eng Sp Dg L2
set_option linter.unusedVariables false
set_option linter.unusedSimpArgs false
set_option maxRecDepth 100000
namespace Dy
open _root_.Go.Proofs.YtlkjgafnjmfgiaaDoor.Ref (RN RN.nil RN.ext RN.ahead Is_spec Len_spec zero_spec Shl_spec Cmp_spec Int_spec len_mono bl_len32)
open Sb

def zb (z : Int) : Bool := decide (z < 0)
/-- The number of a sign and a size. -/
def sg (neg : Bool) (n : Nat) : Int := if neg then -(n : Int) else n
theorem sg_abs (neg : Bool) (n : Nat) : (sg neg n).natAbs = n := by unfold sg; cases neg <;> simp
theorem zb_sg (neg : Bool) (n : Nat) : zb (sg neg n) = nD neg n := by
  unfold zb sg nD
  cases neg
  · simp
  · by_cases h : n = 0
    · subst h; rfl
    · simp [h]; omega
theorem zb_nD (z : Int) : nD (zb z) z.natAbs = zb z := by
  unfold nD zb
  by_cases h : z < 0
  · have : z.natAbs ≠ 0 := by omega
    simp [h, this]
  · simp [h]
theorem sg_zb (z : Int) : sg (zb z) z.natAbs = z := by
  unfold sg zb
  by_cases h : z < 0
  · rw [decide_eq_true h]; simp; omega
  · rw [decide_eq_false h]; simp; omega
theorem zb_neg (z : Int) : nD (!zb z) z.natAbs = zb (-z) := by
  rw [← zb_sg]
  congr 1
  unfold sg zb
  by_cases h : z < 0
  · rw [decide_eq_true h]; simp; omega
  · rw [decide_eq_false h]; simp; omega
/-- A whole number as an answer. -/
def ZRet (z : Int) (e : Ending) (w' : World) : Prop := ∃ s, e = .returned (.agg (c2 (zb z) s)) ∧ RN w' s z.natAbs

theorem dl_le {B x y : Nat} (hB : 2 ≤ B) (h : x ≤ y) : (digs B x).length ≤ (digs B y).length := len_mono hB h
theorem dl_add {x y k : Nat} (hx : (digs B32 x).length ≤ k) (hy : (digs B32 y).length ≤ k) : (digs B32 (x + y)).length ≤ k + 1 := by
  have h : ∀ z, (digs B32 z).length ≤ k → z < B32 ^ k := fun z hz => by
    have := val_lt (ok_digs two32 z)
    rw [val_digs two32] at this
    exact Nat.lt_of_lt_of_le this (Nat.pow_le_pow_right (by rw [B32v]; omega) hz)
  refine digs_length_le two32 ?_
  have h1 := h x hx
  have h2 := h y hy
  rw [Nat.pow_succ]
  have := Nat.mul_le_mul_left (B32 ^ k) two32
  omega

theorem zNeg_spec {w : World} {a : Slc} {x : Int} (ha : RN w a x.natAbs) :
    Calls pr surdref06_Neg_id #[.agg (c2 (zb x) a)] w fun e w' => Ahead w w' ∧ ZRet (-x) e w' := by
  refine surdref06_Neg_v2 (zb x) a w _ fun w1 x1 a1 => Calls.mono (make1_spec (ha.ahead a1)) ?_
  rintro e w2 ⟨h2, rfl, r2⟩
  refine ⟨_, _, rfl, h2, fun w3 x3 a3 => ⟨a, by rw [zb_neg], ?_⟩⟩
  rw [Int.natAbs_neg]; exact r2.ext x3

theorem zAdd_spec {w : World} {a b : Slc} {x y : Int} (ha : RN w a x.natAbs) (hb : RN w b y.natAbs) (la : (digs B32 x.natAbs).length + 1 ≤ 2 ^ 45) (lb : (digs B32 y.natAbs).length + 1 ≤ 2 ^ 45) :
    Calls pr surdref06_Add_id #[.agg (c2 (zb x) a), .agg (c2 (zb y) b)] w fun e w' => Ahead w w' ∧ ZRet (x + y) e w' := by
  refine surdref06_Add_v2 (zb x) a (zb y) b w _ (br_intro (fun he => ?_) (fun hne => ?_))
  · intro w1 x1 a1
    have he' := eq_of_beq he
    refine Calls.mono (Ref.Add_spec (ha.ahead a1) (hb.ahead a1) la lb) ?_
    rintro e w2 ⟨h2, s, rfl, r2⟩
    refine ⟨_, rfl, h2, Calls.mono (make1_spec r2) ?_⟩
    rintro e w3 ⟨h3, rfl, r3⟩
    have es : sg (zb x) (x.natAbs + y.natAbs) = x + y := by
      have h1 := sg_zb x
      have h2 := sg_zb y
      rw [← he'] at h2
      unfold sg at *
      split <;> simp_all <;> omega
    refine ⟨_, _, rfl, h3, fun w4 x4 a4 => ⟨s, ?_, ?_⟩⟩
    · rw [← es, zb_sg]
    · rw [← es, sg_abs]; exact r3.ext x4
  · intro w5 x5 a5
    have hne' : zb x ≠ zb y := fun h => by rw [h] at hne; simp at hne
    have hy' : zb y = !zb x := by cases hx : zb x <;> cases hy : zb y <;> simp_all
    refine Calls.mono (Cmp_spec (ha.ahead a5) (hb.ahead a5) (by omega) (by omega)) ?_
    rintro e w6 ⟨h6, rfl⟩
    have a6 := a5.trans h6
    have hc := cmpI_neg (m := x.natAbs) (n := y.natAbs)
    have h1 := sg_zb x
    have h2 := sg_zb y
    rw [hy'] at h2
    refine ⟨_, rfl, h6, br_intro (fun hg => ?_) (fun hl => ?_)⟩
    · have hle : y.natAbs ≤ x.natAbs := by
        rcases Nat.lt_or_ge x.natAbs y.natAbs with h | h
        · have := hc.2 h; have := of_decide_eq_true hg; omega
        · exact h
      intro w7 x7 a7
      refine Calls.mono (Ref.Sub_spec (ha.ahead a7) (hb.ahead a7) hle (by omega)) ?_
      rintro e w8 ⟨h8, s, rfl, r8⟩
      refine ⟨_, rfl, h8, Calls.mono (make1_spec r8) ?_⟩
      rintro e w9 ⟨h9, rfl, r9⟩
      have es : sg (zb x) (x.natAbs - y.natAbs) = x + y := by
        unfold sg at *
        cases hx : zb x <;> simp_all <;> omega
      refine ⟨_, _, rfl, h9, fun w4 x4 a4 => ⟨s, ?_, ?_⟩⟩
      · rw [← es, zb_sg]
      · rw [← es, sg_abs]; exact r9.ext x4
    · have hlt : x.natAbs < y.natAbs := hc.1 (by have := of_decide_eq_false hl; omega)
      intro w7 x7 a7
      refine Calls.mono (Ref.Sub_spec (hb.ahead a7) (ha.ahead a7) (by omega) (by omega)) ?_
      rintro e w8 ⟨h8, s, rfl, r8⟩
      refine ⟨_, rfl, h8, Calls.mono (make1_spec r8) ?_⟩
      rintro e w9 ⟨h9, rfl, r9⟩
      have es : sg (zb y) (y.natAbs - x.natAbs) = x + y := by
        rw [hy']
        unfold sg at *
        cases hx : zb x <;> simp_all <;> omega
      refine ⟨_, _, rfl, h9, fun w4 x4 a4 => ⟨s, ?_, ?_⟩⟩
      · rw [← es, zb_sg]
      · rw [← es, sg_abs]; exact r9.ext x4

theorem floor_sg {neg : Bool} {x y : Nat} (hy : 0 < y) : sg neg x / (y : Int) = sg neg (x / y) - (if x % y ≠ 0 ∧ neg = true then 1 else 0) := by
  have hd := Nat.mod_add_div x y
  have hm := Nat.mod_lt x hy
  have key : ∀ q r : Int, r + (y : Int) * q = sg neg x → 0 ≤ r → r < y → sg neg x / (y : Int) = q := fun q r h1 h2 h3 =>
    ((Int.ediv_emod_unique (by omega)).2 ⟨h1, h2, h3⟩).1
  have e : (x : Int) = ((x % y : Nat) : Int) + (y : Int) * ((x / y : Nat) : Int) := by
    conv => lhs; rw [← hd]
    push_cast; rfl
  generalize x / y = q at *
  generalize x % y = r at *
  cases neg
  · refine key _ (r : Int) ?_ (by omega) (by omega)
    simp [sg]; omega
  · by_cases hr : r = 0
    · refine key _ 0 ?_ (by omega) (by omega)
      subst hr
      simp [sg]; rw [Int.mul_neg]; omega
    · refine key _ ((y : Int) - r) ?_ (by omega) (by omega)
      simp [sg, hr]
      rw [Int.mul_sub, Int.mul_neg]; omega
theorem mod_sub {x : Int} {y : Nat} : x % (y : Int) = x - x / (y : Int) * y := by
  have := Int.emod_add_mul_ediv x y
  rw [Int.mul_comm] at this
  omega

theorem sgn_zb {z : Int} : sgn (zb z) z.natAbs = 0 ↔ z = 0 := by rw [sgn_zero_iff]; omega
theorem zSign_zb {w : World} {s : Slc} {z : Int} (h : RN w s z.natAbs) : Calls pr surdref06_Z_Sign_id #[.agg (c2 (zb z) s)] w fun e w' => Ahead w w' ∧ e = .returned (.int .i64 (sgn (zb z) z.natAbs)) := by
  have := zSign_spec (neg := zb z) h
  rw [zb_nD] at this
  exact this

/-- Is the nearest one the next? -/
def nearUp (x : Int) (y : Nat) : Bool := decide (y < 2 * (x % (y : Int)).natAbs ∨ (2 * (x % (y : Int)).natAbs = y ∧ (x / (y : Int)).natAbs % 2 = 1))

end Dy
end Go.Proofs.YtlkjgafnjmfgiaaDoor
namespace Go.Proofs.YtlkjgafnjmfgiaaDoor
open Go Go.RowKit Eng Sp Dg
set_option linter.unusedVariables false
set_option linter.unusedSimpArgs false
set_option maxRecDepth 100000
namespace Dy
open _root_.Go.Proofs.YtlkjgafnjmfgiaaDoor.Nat (ldN OwnNil Num Num.bl OwnNil.mono bigC digs_len_bl Yes num_of From_spec)
open _root_.Go.Proofs.YtlkjgafnjmfgiaaDoor.Ref (RN RN.nil Of_spec Is_spec Len_spec zero_spec Lent Lent.ahead Lent.whole Bk len32)
open Sb

theorem dTop_spec {w : World} {neg : Bool} {s : Slc} {x : Nat} {e : Int} (h : RN w s x) (hl : (digs B32 x).length ≤ 2 ^ 45) (he : -4611686018427387904 ≤ e ∧ e ≤ 4611686018427387904) :
    Calls pr surdref08_D_Top_id #[.agg (c3 neg s e)] w fun en w' => Ahead w w' ∧ en = .returned (.int .i64 (bl x - 1 + e)) := by
  have hbl : bl x ≤ 2 ^ 51 := by
    have := Ref.bl_len32 (ok_digs two32 x)
    rw [val_digs two32] at this
    omega
  refine surdref08_D_Top_vc neg s e w _ (newC_b fun b w1 hb h1 hs1 B1 => ?_)
  have hd := Ahead.drew w1
  have B1' := B1.ahead hd
  refine ldS_b (x := s) 1 B1' rfl (ldI_b (x := e) 2 B1' rfl (Calls.mono (Len_spec (h.ahead (h1.trans hd)) (by omega)) ?_))
  rintro en w2 ⟨rfl, rfl⟩
  refine ⟨_, rfl, Ahead.refl _, h1.trans hd, ?_⟩
  rw [wrap_i64 (x := _ - 1) (by omega) (by omega), wrap_i64 (by omega) (by omega)]

end Dy
end Go.Proofs.YtlkjgafnjmfgiaaDoor
namespace Go.Proofs.YtlkjgafnjmfgiaaDoor
open Go Go.RowKit Eng Sp Dg L2
set_option linter.unusedVariables false
set_option linter.unusedSimpArgs false
set_option maxRecDepth 100000
namespace Dy
open _root_.Go.Proofs.YtlkjgafnjmfgiaaDoor.Nat (OwnNil Num Num.bl OwnNil.mono OwnNil.ext OwnNil.rd OwnNil.ahead digs_len_bl num_of Yes)
open _root_.Go.Proofs.YtlkjgafnjmfgiaaDoor.Ref (RN RN.nil RN.ext RN.ahead Len_spec Shl_spec Int_spec Lent Lent.ahead Lent.whole len_mono bl_len32 len32)
open Sb

def rX (neg : Bool) (n : Nat) (e pos m : Int) : Nat := if n = 0 ∨ pos ≤ e then n else rq neg n (pos - e).toNat m
def rE (n : Nat) (e pos : Int) : Int := if n = 0 ∨ pos ≤ e then e else pos

theorem rounded_spec {w : World} {neg : Bool} {s : Slc} {n : Nat} {e pos m : Int} (hT : Tab w) (r : Rd .u64 w s (nn (digs B64 n))) (hl : (digs B64 n).length + 1 ≤ 2 ^ 44) (he : -2305843009213693952 ≤ e ∧ e ≤ 2305843009213693952) (hp : -2305843009213693952 ≤ pos ∧ pos ≤ 2305843009213693952) :
    Calls pr dyadic_rounded_id #[.agg (c3 neg s e), .int .i64 pos, .int .i64 m] w (DOut w (tC (rX neg n e pos m) (rE n e pos)) neg (rX neg n e pos m) (rE n e pos)) := by
  have hnum : Num w s n := ⟨_, r, by omega, ok_digs two64 _, val_digs two64 _⟩
  refine Calls.mono (dyadic_rounded_v2 neg s e pos m w (fun en w' => Ahead w w' → DOut w (tC (rX neg n e pos m) (rE n e pos)) neg (rX neg n e pos m) (rE n e pos) en w') ?_) fun en w' ⟨h1, h2⟩ => h2 h1
  intro w1 x1 a1
  refine Calls.mono (part_sign_spec (hnum.ahead a1)) ?_
  rintro en w2 ⟨h2, rfl⟩
  have a2 := a1.trans h2
  have old : (n = 0 ∨ pos ≤ e) → Calls pr dyadic_told_id #[.agg (c2 neg s), .int .i64 e] w2 fun e2 w3 => ∃ b1 : Bool, ∃ s1 : Slc, ∃ x2 : Int, ∃ x3 : Int, e2 = .returned (Value.tuple #[Value.agg #[Value.bool b1, s1.v, Value.int .i64 x2], Value.int .i64 x3]) ∧ Ahead w2 w3 ∧
      (∀ w4, Ext w3 w4 → Ahead w w4 → (Ahead w w4 → DOut w (tC (rX neg n e pos m) (rE n e pos)) neg (rX neg n e pos m) (rE n e pos) (.returned (Value.tuple #[Value.agg #[Value.bool b1, s1.v, Value.int .i64 x2], Value.int .i64 x3])) w4)) := by
    intro hc
    rw [rX, if_pos hc, rE, if_pos hc]
    refine Calls.mono (told_spec (hT.ahead a2) (hnum.ahead a2) (by omega)) ?_
    rintro en w3 ⟨h3, s3, rfl, o3⟩
    exact ⟨_, _, _, _, rfl, h3, fun w4 x4 a4 _ => ⟨a4, s3, rfl, (o3.ext x4).mono a2.size⟩⟩
  refine ⟨_, rfl, h2, br_intro (fun hz => ?_) (fun hz => ?_)⟩
  · exact old (.inl (sgn_zero_iff.1 (eq_of_beq hz)))
  · have hn : n ≠ 0 := fun e0 => by rw [e0] at hz; simp [sgn] at hz
    refine br_intro (fun hge => old (.inr (of_decide_eq_true hge))) (fun hlt => ?_)
    have hc : ¬ (n = 0 ∨ pos ≤ e) := by
      rintro (h | h)
      · exact hn h
      · exact of_decide_eq_false hlt h
    have hst : stq neg n e pos m = rq neg n (pos - e).toNat m := if_neg hc
    rw [rX, if_neg hc, rE, if_neg hc]
    have lq : (digs B64 (n / 2 ^ (pos - e).toNat)).length + 1 ≤ 2 ^ 44 := Nat.le_trans (Nat.add_le_add_right (len_mono two64 (Nat.div_le_self _ _)) 1) hl
    refine Calls.mono (steps_spec (hT.ahead a2) (r.ahead a2) hl he hp (fun h => absurd h hc)) ?_
    rw [hst]
    rintro en w7 ⟨h7, s3, rfl, o3⟩
    have a7 := a2.trans h7
    have lx : (digs B64 (rq neg n (pos - e).toNat m)).length ≤ 2 ^ 44 := by
      have h1 : rq neg n (pos - e).toNat m ≤ n / 2 ^ (pos - e).toNat + 1 := by unfold rq; split <;> omega
      refine Nat.le_trans (len_mono two64 h1) ?_
      have h2 : n / 2 ^ (pos - e).toNat < B64 ^ (digs B64 (n / 2 ^ (pos - e).toNat)).length := by
        have := val_lt (ok_digs two64 (n / 2 ^ (pos - e).toNat))
        rwa [val_digs two64] at this
      refine Nat.le_trans (digs_length_le two64 (m := (digs B64 (n / 2 ^ (pos - e).toNat)).length + 1) ?_) lq
      rw [Nat.pow_succ]
      have h3 := Nat.mul_le_mul_left (B64 ^ (digs B64 (n / 2 ^ (pos - e).toNat)).length) two64
      have h4 : 0 < B64 ^ (digs B64 (n / 2 ^ (pos - e).toNat)).length := Nat.pow_pos (by rw [B64v]; omega)
      exact Nat.lt_of_le_of_lt (Nat.succ_le_of_lt h2) (by omega)
    have hx : Num w7 s3 (rq neg n (pos - e).toNat m) := ⟨_, o3.rd, lx, ok_digs two64 _, val_digs two64 _⟩
    refine ⟨_, _, rfl, h7, Calls.mono (told_spec (hT.ahead a7) hx (by omega)) ?_⟩
    rintro en w8 ⟨h8, s4, rfl, o4⟩
    exact ⟨_, _, _, _, rfl, h8, fun w4 x4 a4 _ => ⟨a4, s4, rfl, (o4.ext x4).mono a7.size⟩⟩

def okM (m : Int) : Prop := 0 ≤ m ∧ m ≤ 2
instance (m : Int) : Decidable (okM m) := inferInstanceAs (Decidable (_ ∧ _))
def rdC (neg : Bool) (x : Nat) (e pos m : Int) : Int := if wi e then if wi pos then if okM m then tC (rX (nD neg x) (od x) (eD x e) pos m) (rE (od x) (eD x e) pos) else 81 else 1 else 80
theorem eD_far {w : World} {s : Slc} {x : Nat} {e : Int} (h : Num w s x) (he : wi e) : -1125999906842624 - 1099511627776 ≤ eD x e ∧ eD x e ≤ 1125999906842624 + 1099511627776 := by
  have h1 := Num.bl h
  have h2 := tz_le x
  unfold wi at he
  unfold eD
  split <;> omega
theorem Round_spec {w : World} {neg : Bool} {s : Slc} {x : Nat} {e pos m : Int} (hT : Tab w) (h : Num w s x) (hl : (digs B64 x).length + 1 ≤ 2 ^ 44) :
    Calls pr dyadic_Round_id #[.agg (c3 neg s e), .int .i64 pos, .int .i64 m] w (DOut w (rdC neg x e pos m) (nD neg x) (rX (nD neg x) (od x) (eD x e) pos m) (rE (od x) (eD x e) pos)) := by
  refine Calls.mono (dyadic_Round_v2 neg s e pos m w (fun en w' => Ahead w w' → DOut w (rdC neg x e pos m) (nD neg x) (rX (nD neg x) (od x) (eD x e) pos m) (rE (od x) (eD x e) pos) en w') ?_) fun en w' ⟨h1, h2⟩ => h2 h1
  intro w1 x1 a1
  refine Calls.mono (read_spec (hT.ahead a1) (h.ahead a1)) ?_
  rintro en w2 ⟨h2, s2, rfl, o2⟩
  have a2 := a1.trans h2
  refine ⟨_, _, _, _, rfl, h2, br_intro (fun hw => ?_) (fun hw => ?_)⟩
  · have hw' : ¬ wi e := fun h => by rw [if_pos h] at hw; simp at hw
    rw [if_neg hw']
    exact fun w3 x3 a3 _ => DOut.refused a3 (if_neg hw') (by omega)
  · have hw' : wi e := by
      by_cases h : wi e
      · exact h
      · rw [if_neg h] at hw; simp at hw
    rw [if_pos hw'] at o2
    rw [if_pos hw', if_pos hw']
    intro w4 x4 a4
    refine Calls.mono within_spec ?_
    rintro en w5 ⟨rfl, rfl⟩
    refine ⟨_, rfl, Ahead.refl _, br_intro (fun hk => ?_) (fun hk => ?_)⟩
    · have hk' : ¬ wi pos := by simpa using hk
      exact fun w3 x3 a3 _ => DOut.refused a3 (by rw [rdC, if_pos hw', if_neg hk']) (by omega)
    · have hk' : wi pos := by simpa using hk
      refine Calls.mono direction_spec ?_
      rintro en w7 ⟨rfl, rfl⟩
      refine ⟨_, rfl, Ahead.refl _, br_intro (fun hm => ?_) (fun hm => ?_)⟩
      · have hm' : ¬ okM m := fun hh => by unfold okM at hh; rw [decide_eq_true hh] at hm; simp at hm
        exact fun w3 x3 a3 _ => DOut.refused a3 (by rw [rdC, if_pos hw', if_pos hk', if_neg hm']) (by omega)
      · have hm' : okM m := by
          by_cases hh : okM m
          · exact hh
          · unfold okM at hh; rw [decide_eq_false hh] at hm; simp at hm
        have hc : rdC neg x e pos m = tC (rX (nD neg x) (od x) (eD x e) pos m) (rE (od x) (eD x e) pos) := by rw [rdC, if_pos hw', if_pos hk', if_pos hm']
        rw [hc]
        have lo : (digs B64 (od x)).length + 1 ≤ 2 ^ 44 := Nat.le_trans (Nat.add_le_add_right (len_mono two64 (od_le x)) 1) hl
        refine Calls.mono (rounded_spec (hT.ahead a4) (o2.ext x4).rd lo (by have := eD_far h hw'; omega) (by unfold wi at hk'; omega)) ?_
        rintro en w9 ⟨h9, s9, rfl, o9⟩
        exact ⟨_, _, _, _, rfl, h9, fun w3 x3 a3 _ => ⟨a3, s9, rfl, (o9.ext x3).mono a4.size⟩⟩

theorem odd_mod {n gap : Nat} (hn : n % 2 = 1) (hg : 0 < gap) : n % 2 ^ gap ≠ 0 := by
  obtain ⟨g, rfl⟩ : ∃ g, gap = g + 1 := ⟨gap - 1, by omega⟩
  intro h
  have := Nat.mod_add_div n (2 ^ (g + 1))
  rw [h, Nat.pow_succ, Nat.mul_comm (2 ^ g) 2, Nat.mul_assoc] at this
  omega
theorem floor_odd {neg : Bool} {n gap : Nat} (hn : n % 2 = 1) (hg : 0 < gap) : sg neg n / ((2 ^ gap : Nat) : Int) = sg neg (n / 2 ^ gap + if neg then 1 else 0) := by
  rw [floor_sg (Nat.pow_pos (by omega))]
  have h := odd_mod hn hg
  generalize n / 2 ^ gap = q
  cases neg
  · simp [sg]
  · rw [if_pos ⟨h, rfl⟩]
    simp [sg]; omega
theorem mod_odd {neg : Bool} {n gap : Nat} (hn : n % 2 = 1) (hg : 0 < gap) : sg neg n % ((2 ^ gap : Nat) : Int) = if neg then ((2 ^ gap : Nat) : Int) - ((n % 2 ^ gap : Nat) : Int) else ((n % 2 ^ gap : Nat) : Int) := by
  rw [mod_sub, floor_odd hn hg]
  have hd := Nat.mod_add_div n (2 ^ gap)
  have e : (n : Int) = ((n % 2 ^ gap : Nat) : Int) + ((2 ^ gap : Nat) : Int) * ((n / 2 ^ gap : Nat) : Int) := by
    conv => lhs; rw [← hd]
    push_cast; rfl
  generalize n / 2 ^ gap = q at *
  generalize n % 2 ^ gap = r at *
  generalize 2 ^ gap = S at *
  cases neg
  · simp [sg]; rw [Int.mul_comm] at e; omega
  · simp [sg]
    rw [Int.neg_mul, Int.add_mul, Int.one_mul, Int.mul_comm (q : Int)]; omega
theorem down_odd {neg : Bool} {n gap : Nat} (hn : n % 2 = 1) (hg : 0 < gap) : sg neg n / ((2 ^ gap : Nat) : Int) = sg neg (rq neg n gap 0) := by
  rw [floor_odd hn hg]; unfold rq upR; simp
theorem up_odd {neg : Bool} {n gap : Nat} (hn : n % 2 = 1) (hg : 0 < gap) : (sg neg n / ((2 ^ gap : Nat) : Int) + if sg neg n % ((2 ^ gap : Nat) : Int) ≠ 0 then 1 else 0) = sg neg (rq neg n gap 1) := by
  have h := odd_mod hn hg
  have hlt := Nat.mod_lt n (show 2 ^ gap > 0 from Nat.pow_pos (by omega))
  rw [floor_odd hn hg, mod_odd hn hg]
  unfold rq upR
  generalize n / 2 ^ gap = q
  generalize n % 2 ^ gap = r at *
  generalize 2 ^ gap = S at *
  cases neg
  · simp [sg, h]
  · have : ¬ (S : Int) - (r : Int) = 0 := by omega
    simp [sg, this]; omega
theorem near_odd {neg : Bool} {n gap : Nat} (hn : n % 2 = 1) (hg : 0 < gap) : (sg neg n / ((2 ^ gap : Nat) : Int) + if nearUp (sg neg n) (2 ^ gap) = true then 1 else 0) = sg neg (rq neg n gap 2) := by
  have h0 := odd_mod hn hg
  have hS : 0 < 2 ^ gap := Nat.pow_pos (by omega)
  have hlt := Nat.mod_lt n hS
  have hd := Nat.mod_add_div n (2 ^ gap)
  obtain ⟨g, rfl⟩ : ∃ g, gap = g + 1 := ⟨gap - 1, by omega⟩
  have htz := tz_odd hn
  unfold nearUp
  rw [floor_odd hn hg, mod_odd hn hg, sg_abs]
  unfold rq upR
  rw [if_pos rfl, Nat.add_sub_cancel, htz]
  have hS2 : 2 ^ (g + 1) = 2 * 2 ^ g := by rw [Nat.pow_succ]; omega
  have hH : 0 < 2 ^ g := Nat.pow_pos (by omega)
  have hbit : n / 2 ^ g % 2 = n % 2 ^ (g + 1) / 2 ^ g := by
    rw [hS2, Nat.mul_comm 2, Nat.mod_mul, Nat.add_comm, Nat.mul_comm (2 ^ g), Nat.add_comm, Nat.add_mul_div_right _ _ hH, Nat.div_eq_of_lt (Nat.mod_lt _ hH), Nat.zero_add]
  rw [hbit]
  have hrodd : n % 2 ^ (g + 1) % 2 = 1 := by
    rw [hS2, Nat.mul_assoc] at hd
    rw [hS2]; omega
  have hb1 : n % 2 ^ (g + 1) / 2 ^ g = 1 ↔ 2 ^ g ≤ n % 2 ^ (g + 1) := by
    constructor
    · intro h
      rcases Nat.lt_or_ge (n % 2 ^ (g + 1)) (2 ^ g) with h1 | h1
      · rw [Nat.div_eq_of_lt h1] at h; omega
      · exact h1
    · intro h
      refine Nat.div_eq_of_lt_le (by omega) (by omega)
  have hpar : g = 0 ∨ 2 ^ g % 2 = 0 := by
    rcases Nat.eq_zero_or_pos g with h | h
    · exact .inl h
    · right
      obtain ⟨k, rfl⟩ : ∃ k, g = k + 1 := ⟨g - 1, by omega⟩
      rw [Nat.pow_succ]; omega
  have h1 : g = 0 → 2 ^ g = 1 := fun h => by rw [h, Nat.pow_zero]
  clear hd
  generalize n % 2 ^ (g + 1) = r at *
  generalize n / 2 ^ (g + 1) = q at *
  generalize 2 ^ (g + 1) = S at *
  have hd1 : decide (r / 2 ^ g = 1) = decide (2 ^ g ≤ r) := by rw [Bool.eq_iff_iff]; simp [hb1]
  rw [hd1]
  clear hd1 hb1 hbit
  generalize 2 ^ g = H at *
  subst hS2
  cases neg
  · simp only [Bool.false_eq_true, if_false, Int.natAbs_natCast, Nat.add_zero]
    have : (decide (2 * H < 2 * r ∨ 2 * r = 2 * H ∧ q % 2 = 1)) = (decide (H ≤ r) && (decide (0 < g) || decide (q % 2 = 1))) := by
      rw [Bool.eq_iff_iff]
      simp only [decide_eq_true_eq, Bool.and_eq_true, Bool.or_eq_true]
      omega
    rw [this]
    simp only [sg, Bool.false_eq_true, if_false]
    split <;> omega
  · simp only [if_true]
    have ea : ((2 * H : Nat) : Int).natAbs = 2 * H := by omega
    have : (decide (2 * H < 2 * (((2 * H : Nat) : Int) - (r : Int)).natAbs ∨ 2 * (((2 * H : Nat) : Int) - (r : Int)).natAbs = 2 * H ∧ (q + 1) % 2 = 1)) = !(decide (H ≤ r) && (decide (0 < g) || decide (q % 2 = 1))) := by
      rw [Bool.eq_iff_iff]
      simp only [decide_eq_true_eq, Bool.not_eq_true', Bool.and_eq_false_iff, Bool.or_eq_false_iff, decide_eq_false_iff_not]
      omega
    rw [this]
    simp only [sg, if_true]
    cases (decide (H ≤ r) && (decide (0 < g) || decide (q % 2 = 1))) <;> simp <;> omega

end Dy
end Go.Proofs.YtlkjgafnjmfgiaaDoor
namespace Go.Proofs.YtlkjgafnjmfgiaaDoor
open Go Go.RowKit Eng Sp Dg L2
set_option linter.unusedVariables false
set_option linter.unusedSimpArgs false
set_option maxRecDepth 100000
namespace Dy
open _root_.Go.Proofs.YtlkjgafnjmfgiaaDoor.Nat (OwnNil Num Num.bl OwnNil.mono OwnNil.ext OwnNil.rd OwnNil.ahead digs_len_bl num_of Yes)
open _root_.Go.Proofs.YtlkjgafnjmfgiaaDoor.Ref (RN RN.nil RN.ext RN.ahead Lent Lent.ahead Lent.ext Lent.whole len_mono len32 Bk)
open Sb

theorem of_spec {w : World} {neg : Bool} {s : Slc} {e : Int} {l : List Nat} (h : Rd .u64 w s (nn l)) (hl : l.length * 8 ≤ 140737488351232) (ol : ok B64 l) :
    Calls pr surdlaw08_of_id #[.agg (c3 neg s e)] w fun en w' => Ahead w w' ∧ ∃ s', en = .returned (.tuple #[.agg (c3 (if wi e then nD neg (val B64 l) else false) s' (if wi e then eD (val B64 l) e else 0)), .bool (decide (wi e))]) ∧ RN w' s' (if wi e then od (val B64 l) else 0) := by
  refine surdlaw08_of_v2 neg s e w _ fun w1 x1 a1 => Calls.mono Fits_spec ?_
  rintro en w2 ⟨rfl, rfl⟩
  refine ⟨_, rfl, Ahead.refl _, br_intro (fun hw => ?_) (fun hw => ?_)⟩
  · have hw' : ¬ wi e := by simpa using hw
    rw [if_neg hw', if_neg hw', if_neg hw', decide_eq_false hw']
    exact fun w3 x3 a3 => ⟨_, rfl, RN.nil⟩
  · have hw' : wi e := by simpa using hw
    rw [if_pos hw', if_pos hw', if_pos hw', decide_eq_true hw']
    intro w4 x4 a4
    refine Calls.mono (zOf_spec (h.ahead a4) hl ol) ?_
    rintro en w5 ⟨h5, s1, rfl, r1⟩
    have hx := len32 ol
    refine ⟨_, _, rfl, h5, Calls.mono (dOf_spec r1 (by omega) (by unfold wi at hw'; omega)) ?_⟩
    rintro en w6 ⟨h6, s2, rfl, r2⟩
    exact ⟨_, _, _, rfl, h6, fun w7 x7 a7 => ⟨s2, rfl, r2.ext x7⟩⟩

/-- A program's answer (c, b4 s4 x3) beside the document's (f, b s5 x5): what 'alike' asks. -/
structure Beside (bs : Nat) (w' : World) (c f : Int) (b4 : Bool) (s4 : Slc) (x3 : Int) (b : Bool) (s5 : Slc) (x5 : Int) (N : Nat) (E : Int) (neg : Bool) : Prop where
  r : RN w' s5 N
  len : (digs B32 N).length ≤ 2 ^ 46
  code : c = if f = 0 then tK N E else f
  wn : f = 0 → b = neg
  we : f = 0 → x5 = E
  pn : b4 = if c = 0 then neg else false
  pe : x3 = if c = 0 then E else 0
  o : OwnNil bs w' s4 (if c = 0 then digs B64 N else [])
  len64 : bl N ≤ 67108864 → (digs B64 N).length ≤ 2 ^ 44
theorem Beside.ext {bs : Nat} {w w' : World} {c f : Int} {b4 : Bool} {s4 : Slc} {x3 : Int} {b : Bool} {s5 : Slc} {x5 : Int} {N : Nat} {E : Int} {neg : Bool} (h : Beside bs w c f b4 s4 x3 b s5 x5 N E neg) (x : Ext w w') : Beside bs w' c f b4 s4 x3 b s5 x5 N E neg :=
  ⟨h.r.ext x, h.len, h.code, h.wn, h.we, h.pn, h.pe, h.o.ext x, h.len64⟩

end Dy
end Go.Proofs.YtlkjgafnjmfgiaaDoor
namespace Go.Proofs.YtlkjgafnjmfgiaaDoor
open Go Go.RowKit Eng L2
set_option linter.unusedVariables false
set_option maxHeartbeats 2000000
set_option maxRecDepth 100000

/-- surd/surdref06.Shift: function 32, its local variables as values. -/
theorem surdref06_Shift_v2 (a0_a_0 : Bool) (a0_a_1 : Slc) (a1_n : Int) (w : World) (R : Ending → World → Prop)
    
    (h : br (decide (a1_n ≥ 0))
    (∀ w1, Ext w w1 → Ahead w w1 →
     (Calls Tryd.prog 48 #[a0_a_1.v, Value.int .i64 a1_n] w1 fun e1 w2 =>
      ∃ s1 : Slc, e1 = .returned s1.v ∧ Ahead w1 w2 ∧
      (Calls Tryd.prog 40 #[Value.bool a0_a_0, s1.v] w2 fun e2 w3 =>
       ∃ b1 : Bool, ∃ s2 : Slc, e2 = .returned (Value.agg #[Value.bool b1, s2.v]) ∧ Ahead w2 w3 ∧
       (∀ w4, Ext w3 w4 → Ahead w w4 →
        (R (.returned (Value.agg #[Value.bool b1, s2.v])) w4)))))
    (∀ w5, Ext w w5 → Ahead w w5 →
     (Calls Tryd.prog 35 #[a0_a_1.v] w5 fun e3 w6 =>
      ∃ x1 : Int, e3 = .returned (Value.int .i64 x1) ∧ Ahead w5 w6 ∧
      (br (decide (a1_n < (IntKind.i64.wrap (0 - x1))))
       (br a0_a_0
        (Calls Tryd.prog 34 #[Value.int .i64 (-1)] w6 fun e4 w7 =>
         ∃ b2 : Bool, ∃ s3 : Slc, e4 = .returned (Value.agg #[Value.bool b2, s3.v]) ∧ Ahead w6 w7 ∧
         (∀ w8, Ext w7 w8 → Ahead w w8 →
          (R (.returned (Value.agg #[Value.bool b2, s3.v])) w8)))
        (∀ w9, Ext w6 w9 → Ahead w w9 →
         (R (.returned (Value.agg #[Value.bool (false), ((⟨none, 0, 0⟩ : Slc)).v])) w9)))
       (∀ w10, Ext w6 w10 → Ahead w w10 →
        (Calls Tryd.prog 50 #[Value.int .i64 1] w10 fun e5 w11 =>
         ∃ s4 : Slc, e5 = .returned s4.v ∧ Ahead w10 w11 ∧
         (∀ w12, Ext w11 w12 → Ahead w w12 →
          (Calls Tryd.prog 48 #[s4.v, Value.int .i64 (IntKind.i64.wrap (0 - a1_n))] w12 fun e6 w13 =>
           ∃ s5 : Slc, e6 = .returned s5.v ∧ Ahead w12 w13 ∧
           (∀ w14, Ext w13 w14 → Ahead w w14 →
            (Calls Tryd.prog 40 #[Value.bool false, s5.v] w14 fun e7 w15 =>
             ∃ b3 : Bool, ∃ s6 : Slc, e7 = .returned (Value.agg #[Value.bool b3, s6.v]) ∧ Ahead w14 w15 ∧
             (∀ w16, Ext w15 w16 → Ahead w w16 →
              (Calls Tryd.prog 49 #[Value.agg #[Value.bool a0_a_0, a0_a_1.v], Value.agg #[Value.bool b3, s6.v]] w16 fun e8 w17 =>
               ∃ b4 : Bool, ∃ s7 : Slc, ∃ b5 : Bool, ∃ s8 : Slc, e8 = .returned (Value.tuple #[Value.agg #[Value.bool b4, s7.v], Value.agg #[Value.bool b5, s8.v]]) ∧ Ahead w16 w17 ∧
               (∀ w18, Ext w17 w18 → Ahead w w18 →
                (R (.returned (Value.agg #[Value.bool b4, s7.v])) w18))))))))))))))
     :
    Calls Tryd.prog 32 #[Value.agg #[Value.bool a0_a_0, a0_a_1.v], Value.int .i64 a1_n] w (fun e_ w_ => Ahead w w_ ∧ R e_ w_) := by
  refine surdref06_Shift_vc a0_a_0 a0_a_1 a1_n w _  ?_
  · have A : Ahead w w := Ahead.refl w
    have X : Ext w w := Ext.refl w
    refine newC_t fun bk1 u1 hb1 ha_u1 _ B1 => ?_
    have g1 := le_eq A.size hb1
    obtain ⟨A, X⟩ := axa2 ha_u1 A X
    refine newC_t fun bk2 u2 hb2 ha_u2 _ B2 => ?_
    have g2 := le_eq A.size hb2
    have l1_2 := lt1 hb2 B1
    replace B1 := B1.ahead ha_u2
    obtain ⟨A, X⟩ := axa2 ha_u2 A X
    refine br_map h (fun h_ => ?_) (fun h_ => ?_)
    ·clear h
     have h := h_
     clear h_
     have hd_ := Sp.Ahead.drew u2
     obtain ⟨B1, B2⟩ := ah2 hd_ B1 B2
     obtain ⟨A, X⟩ := axa2 hd_ A X
     clear hd_
     refine ldB_t 0 B1 rfl ?_
     refine ldS_t 1 B1 rfl ?_
     replace h := h _ X A
     refine Calls.mono h ?_
     clear h
     rintro e1 w2 ⟨s1, he_, ha_w2, h⟩
     refine ⟨s1, he_, ?_⟩
     clear he_
     obtain ⟨B1, B2⟩ := ah2 ha_w2 B1 B2
     obtain ⟨A, X⟩ := axa2 ha_w2 A X
     replace X : Ext w2 w2 := Ext.refl _
     refine ⟨ha_w2, ?_⟩
     refine Calls.mono h ?_
     clear h
     rintro e2 w3 ⟨b1, s2, he_, ha_w3, h⟩
     refine ⟨b1, s2, he_, ?_⟩
     clear he_
     obtain ⟨B1, B2⟩ := ah2 ha_w3 B1 B2
     obtain ⟨A, X⟩ := axa2 ha_w3 A X
     replace X : Ext w3 w3 := Ext.refl _
     refine ⟨ha_w3, ?_⟩
     refine st2_t B2 rfl rfl rfl fun u3 k_u3 B2 => ?_
     replace B1 := up1 k_u3 B1
     obtain ⟨A, X⟩ := axu2 k_u3 g2 A X
     refine ldB_t 0 B2 rfl ?_
     refine ldS_t 1 B2 rfl ?_
     replace h := h _ X A
     exact ⟨A, h⟩
    ·clear h
     have h := h_
     clear h_
     refine ldS_t 1 B1 rfl ?_
     replace h := h _ X A
     refine Calls.mono h ?_
     clear h
     rintro e3 w6 ⟨x1, he_, ha_w6, h⟩
     refine ⟨x1, he_, ?_⟩
     clear he_
     obtain ⟨B1, B2⟩ := ah2 ha_w6 B1 B2
     obtain ⟨A, X⟩ := axa2 ha_w6 A X
     replace X : Ext w6 w6 := Ext.refl _
     refine br_map h (fun h_ => ?_) (fun h_ => ?_)
     ·clear h
      have h := h_
      clear h_
      refine ldB_t 0 B1 rfl ?_
      refine br_map h (fun h_ => ?_) (fun h_ => ?_)
      ·clear h
       have h := h_
       clear h_
       refine Calls.mono h ?_
       clear h
       rintro e4 w7 ⟨b2, s3, he_, ha_w7, h⟩
       refine ⟨b2, s3, he_, ?_⟩
       clear he_
       obtain ⟨B1, B2⟩ := ah2 ha_w7 B1 B2
       obtain ⟨A, X⟩ := axa2 ha_w7 A X
       replace X : Ext w7 w7 := Ext.refl _
       refine st2_t B2 rfl rfl rfl fun u4 k_u4 B2 => ?_
       replace B1 := up1 k_u4 B1
       obtain ⟨A, X⟩ := axu2 k_u4 g2 A X
       refine ldB_t 0 B2 rfl ?_
       refine ldS_t 1 B2 rfl ?_
       replace h := h _ X A
       exact ⟨A, h⟩
      ·clear h
       have h := h_
       clear h_
       refine st2_t B2 rfl rfl rfl fun u5 k_u5 B2 => ?_
       replace B1 := up1 k_u5 B1
       obtain ⟨A, X⟩ := axu2 k_u5 g2 A X
       refine ldB_t 0 B2 rfl ?_
       refine ldS_t 1 B2 rfl ?_
       replace h := h _ X A
       exact ⟨A, h⟩
     ·clear h
      have h := h_
      clear h_
      have hd_ := Sp.Ahead.drew w6
      obtain ⟨B1, B2⟩ := ah2 hd_ B1 B2
      obtain ⟨A, X⟩ := axa2 hd_ A X
      clear hd_
      have z1 := B1.lt
      have z2 := B2.lt
      let V_ : Nat → Nat → Prop := fun (q_ k : Nat) => (k < 0 ∨ w6.drew.heap.size ≤ k) ∧ 0 ≤ k
      refine ⟨V_, ?_⟩
      have Y_ : w6.drew.heap.size ≤ w6.drew.heap.size := Nat.le_refl _
      refine out_t (b := bk1) (i := 0) (by first | rfl | exact Sp.add_off) (fun hv_ => (by replace hv_ : _ ∧ _ := hv_; omega)) ?_
      refine ldB_t 0 B1 rfl ?_
      refine ldS_t 1 B1 rfl ?_
      refine ⟨?_, ?_⟩
      ·replace h := h _ X A
       refine Calls.mono h ?_
       clear h
       rintro e5 w11 ⟨s4, he_, ha_w11, h⟩
       refine ⟨s4, he_, ?_⟩
       clear he_
       obtain ⟨B1, B2⟩ := ah2 ha_w11 B1 B2
       obtain ⟨A, X, Y_⟩ := axa3 ha_w11 A X Y_
       replace X : Ext w11 w11 := Ext.refl _
       refine ⟨(Bar.of_ahead ha_w11), ?_⟩
       refine ⟨?_, ?_⟩
       ·replace h := h _ X A
        refine Calls.mono h ?_
        clear h
        rintro e6 w13 ⟨s5, he_, ha_w13, h⟩
        refine ⟨s5, he_, ?_⟩
        clear he_
        obtain ⟨B1, B2⟩ := ah2 ha_w13 B1 B2
        obtain ⟨A, X, Y_⟩ := axa3 ha_w13 A X Y_
        replace X : Ext w13 w13 := Ext.refl _
        refine ⟨(Bar.of_ahead ha_w13), ?_⟩
        refine ⟨?_, ?_⟩
        ·replace h := h _ X A
         refine Calls.mono h ?_
         clear h
         rintro e7 w15 ⟨b3, s6, he_, ha_w15, h⟩
         refine ⟨b3, s6, he_, ?_⟩
         clear he_
         obtain ⟨B1, B2⟩ := ah2 ha_w15 B1 B2
         obtain ⟨A, X, Y_⟩ := axa3 ha_w15 A X Y_
         replace X : Ext w15 w15 := Ext.refl _
         refine ⟨(Bar.of_ahead ha_w15), ?_⟩
         refine ⟨?_, ?_⟩
         ·replace h := h _ X A
          refine Calls.mono h ?_
          clear h
          rintro e8 w17 ⟨b4, s7, b5, s8, he_, ha_w17, h⟩
          refine ⟨b4, s7, b5, s8, he_, ?_⟩
          clear he_
          obtain ⟨B1, B2⟩ := ah2 ha_w17 B1 B2
          obtain ⟨A, X, Y_⟩ := axa3 ha_w17 A X Y_
          replace X : Ext w17 w17 := Ext.refl _
          refine ⟨?_, ?_⟩
          ·refine newC_t fun bk3 u6 hb3 ha_u6 _ B3 => ?_
           have g3 := le_eq A.size hb3
           obtain ⟨_, _⟩ := lt2 hb3 B1 B2
           have y3 := le_eq Y_ hb3
           obtain ⟨B1, B2⟩ := ah2 ha_u6 B1 B2
           obtain ⟨A, X, Y_⟩ := axa3 ha_u6 A X Y_
           refine ⟨(Bar.of_ahead ha_u6), ?_⟩
           refine newC_t fun bk4 u7 hb4 ha_u7 _ B4 => ?_
           have g4 := le_eq A.size hb4
           obtain ⟨_, _, _⟩ := lt3 hb4 B1 B2 B3
           have y4 := le_eq Y_ hb4
           obtain ⟨B1, B2, B3⟩ := ah3 ha_u7 B1 B2 B3
           obtain ⟨A, X, Y_⟩ := axa3 ha_u7 A X Y_
           refine ⟨(Bar.of_ahead ha_u7), ?_⟩
           refine st2_t B3 rfl rfl rfl fun u8 k_u8 B3 => ?_
           obtain ⟨B1, B2, B4⟩ := up3 k_u8 B1 B2 B4
           obtain ⟨A, X, Y_⟩ := axu3 k_u8 g3 A X Y_
           refine st2_t B4 rfl rfl rfl fun u9 k_u9 B4 => ?_
           obtain ⟨B1, B2, B3⟩ := up3 k_u9 B1 B2 B3
           obtain ⟨A, X, Y_⟩ := axu3 k_u9 g4 A X Y_
           refine ldB_t 0 B3 rfl ?_
           refine ldS_t 1 B3 rfl ?_
           refine st2_t B2 rfl rfl rfl fun u10 k_u10 B2 => ?_
           obtain ⟨B1, B3, B4⟩ := up3 k_u10 B1 B3 B4
           obtain ⟨A, X⟩ := axu2 k_u10 g2 A X
           refine ldB_t 0 B2 rfl ?_
           refine ldS_t 1 B2 rfl ?_
           replace h := h _ X A
           exact ⟨A, h⟩
          ·refine newC_t fun bk5 u11 hb5 ha_u11 _ B5 => ?_
           have g5 := le_eq A.size hb5
           obtain ⟨_, _⟩ := lt2 hb5 B1 B2
           have y5 := le_eq Y_ hb5
           obtain ⟨B1, B2⟩ := ah2 ha_u11 B1 B2
           obtain ⟨A, X, Y_⟩ := axa3 ha_u11 A X Y_
           refine ⟨(Bar.of_ahead ha_u11), ?_⟩
           refine newC_t fun bk6 u12 hb6 ha_u12 _ B6 => ?_
           have g6 := le_eq A.size hb6
           obtain ⟨_, _, _⟩ := lt3 hb6 B1 B2 B5
           have y6 := le_eq Y_ hb6
           obtain ⟨B1, B2, B5⟩ := ah3 ha_u12 B1 B2 B5
           obtain ⟨A, X, Y_⟩ := axa3 ha_u12 A X Y_
           refine ⟨(Bar.of_ahead ha_u12), ?_⟩
           refine st2_t B6 rfl rfl rfl fun u13 k_u13 B6 => ?_
           obtain ⟨B1, B2, B5⟩ := up3 k_u13 B1 B2 B5
           obtain ⟨A, X, Y_⟩ := axu3 k_u13 g6 A X Y_
           refine st2_t B5 rfl rfl rfl fun u14 k_u14 B5 => ?_
           obtain ⟨B1, B2, B6⟩ := up3 k_u14 B1 B2 B6
           obtain ⟨A, X, Y_⟩ := axu3 k_u14 g5 A X Y_
           refine ldB_t 0 B6 rfl ?_
           refine ldS_t 1 B6 rfl ?_
           refine st2_t B2 rfl rfl rfl fun u15 k_u15 B2 => ?_
           obtain ⟨B1, B5, B6⟩ := up3 k_u15 B1 B5 B6
           obtain ⟨A, X⟩ := axu2 k_u15 g2 A X
           refine ldB_t 0 B2 rfl ?_
           refine ldS_t 1 B2 rfl ?_
           replace h := h _ X A
           exact ⟨A, h⟩
         ·refine ⟨?_, ?_⟩
          ·refine newC_t fun bk7 u16 hb7 ha_u16 _ B7 => ?_
           have g7 := le_eq A.size hb7
           obtain ⟨_, _⟩ := lt2 hb7 B1 B2
           have y7 := le_eq Y_ hb7
           obtain ⟨B1, B2⟩ := ah2 ha_u16 B1 B2
           obtain ⟨A, X, Y_⟩ := axa3 ha_u16 A X Y_
           refine ⟨(Bar.of_ahead ha_u16), ?_⟩
           refine ⟨?_, ?_⟩
           ·replace h := h _ X A
            refine Calls.mono h ?_
            clear h
            rintro e9 w21 ⟨b6, s9, b7, s10, he_, ha_w21, h⟩
            refine ⟨b6, s9, b7, s10, he_, ?_⟩
            clear he_
            obtain ⟨B1, B2, B7⟩ := ah3 ha_w21 B1 B2 B7
            obtain ⟨A, X, Y_⟩ := axa3 ha_w21 A X Y_
            replace X : Ext w21 w21 := Ext.refl _
            refine newC_t fun bk8 u17 hb8 ha_u17 _ B8 => ?_
            have g8 := le_eq A.size hb8
            obtain ⟨_, _, _⟩ := lt3 hb8 B1 B2 B7
            have y8 := le_eq Y_ hb8
            obtain ⟨B1, B2, B7⟩ := ah3 ha_u17 B1 B2 B7
            obtain ⟨A, X, Y_⟩ := axa3 ha_u17 A X Y_
            refine ⟨(Bar.of_ahead ha_u17), ?_⟩
            refine st2_t B7 rfl rfl rfl fun u18 k_u18 B7 => ?_
            obtain ⟨B1, B2, B8⟩ := up3 k_u18 B1 B2 B8
            obtain ⟨A, X, Y_⟩ := axu3 k_u18 g7 A X Y_
            refine st2_t B8 rfl rfl rfl fun u19 k_u19 B8 => ?_
            obtain ⟨B1, B2, B7⟩ := up3 k_u19 B1 B2 B7
            obtain ⟨A, X, Y_⟩ := axu3 k_u19 g8 A X Y_
            refine ldB_t 0 B7 rfl ?_
            refine ldS_t 1 B7 rfl ?_
            refine st2_t B2 rfl rfl rfl fun u20 k_u20 B2 => ?_
            obtain ⟨B1, B7, B8⟩ := up3 k_u20 B1 B7 B8
            obtain ⟨A, X⟩ := axu2 k_u20 g2 A X
            refine ldB_t 0 B2 rfl ?_
            refine ldS_t 1 B2 rfl ?_
            replace h := h _ X A
            exact ⟨A, h⟩
           ·refine newC_t fun bk9 u21 hb9 ha_u21 _ B9 => ?_
            have g9 := le_eq A.size hb9
            obtain ⟨_, _, _⟩ := lt3 hb9 B1 B2 B7
            have y9 := le_eq Y_ hb9
            obtain ⟨B1, B2, B7⟩ := ah3 ha_u21 B1 B2 B7
            obtain ⟨A, X, Y_⟩ := axa3 ha_u21 A X Y_
            refine ⟨(Bar.of_ahead ha_u21), ?_⟩
            replace h := h _ X A
            refine Calls.mono h ?_
            clear h
            rintro e10 w24 ⟨b8, s11, b9, s12, he_, ha_w24, h⟩
            refine ⟨b8, s11, b9, s12, he_, ?_⟩
            clear he_
            obtain ⟨B1, B2, B7, B9⟩ := ah4 ha_w24 B1 B2 B7 B9
            obtain ⟨A, X, Y_⟩ := axa3 ha_w24 A X Y_
            replace X : Ext w24 w24 := Ext.refl _
            refine st2_t B7 rfl rfl rfl fun u22 k_u22 B7 => ?_
            obtain ⟨B1, B2, B9⟩ := up3 k_u22 B1 B2 B9
            obtain ⟨A, X, Y_⟩ := axu3 k_u22 g7 A X Y_
            refine st2_t B9 rfl rfl rfl fun u23 k_u23 B9 => ?_
            obtain ⟨B1, B2, B7⟩ := up3 k_u23 B1 B2 B7
            obtain ⟨A, X, Y_⟩ := axu3 k_u23 g9 A X Y_
            refine ldB_t 0 B7 rfl ?_
            refine ldS_t 1 B7 rfl ?_
            refine st2_t B2 rfl rfl rfl fun u24 k_u24 B2 => ?_
            obtain ⟨B1, B7, B9⟩ := up3 k_u24 B1 B7 B9
            obtain ⟨A, X⟩ := axu2 k_u24 g2 A X
            refine ldB_t 0 B2 rfl ?_
            refine ldS_t 1 B2 rfl ?_
            replace h := h _ X A
            exact ⟨A, h⟩
          ·refine newC_t fun bk10 u25 hb10 ha_u25 _ B10 => ?_
           have g10 := le_eq A.size hb10
           obtain ⟨_, _⟩ := lt2 hb10 B1 B2
           have y10 := le_eq Y_ hb10
           obtain ⟨B1, B2⟩ := ah2 ha_u25 B1 B2
           obtain ⟨A, X, Y_⟩ := axa3 ha_u25 A X Y_
           refine ⟨(Bar.of_ahead ha_u25), ?_⟩
           refine ⟨?_, ?_⟩
           ·replace h := h _ X A
            refine Calls.mono h ?_
            clear h
            rintro e11 w27 ⟨b10, s13, b11, s14, he_, ha_w27, h⟩
            refine ⟨b10, s13, b11, s14, he_, ?_⟩
            clear he_
            obtain ⟨B1, B2, B10⟩ := ah3 ha_w27 B1 B2 B10
            obtain ⟨A, X, Y_⟩ := axa3 ha_w27 A X Y_
            replace X : Ext w27 w27 := Ext.refl _
            refine newC_t fun bk11 u26 hb11 ha_u26 _ B11 => ?_
            have g11 := le_eq A.size hb11
            obtain ⟨_, _, _⟩ := lt3 hb11 B1 B2 B10
            have y11 := le_eq Y_ hb11
            obtain ⟨B1, B2, B10⟩ := ah3 ha_u26 B1 B2 B10
            obtain ⟨A, X, Y_⟩ := axa3 ha_u26 A X Y_
            refine ⟨(Bar.of_ahead ha_u26), ?_⟩
            refine st2_t B11 rfl rfl rfl fun u27 k_u27 B11 => ?_
            obtain ⟨B1, B2, B10⟩ := up3 k_u27 B1 B2 B10
            obtain ⟨A, X, Y_⟩ := axu3 k_u27 g11 A X Y_
            refine st2_t B10 rfl rfl rfl fun u28 k_u28 B10 => ?_
            obtain ⟨B1, B2, B11⟩ := up3 k_u28 B1 B2 B11
            obtain ⟨A, X, Y_⟩ := axu3 k_u28 g10 A X Y_
            refine ldB_t 0 B11 rfl ?_
            refine ldS_t 1 B11 rfl ?_
            refine st2_t B2 rfl rfl rfl fun u29 k_u29 B2 => ?_
            obtain ⟨B1, B10, B11⟩ := up3 k_u29 B1 B10 B11
            obtain ⟨A, X⟩ := axu2 k_u29 g2 A X
            refine ldB_t 0 B2 rfl ?_
            refine ldS_t 1 B2 rfl ?_
            replace h := h _ X A
            exact ⟨A, h⟩
           ·refine newC_t fun bk12 u30 hb12 ha_u30 _ B12 => ?_
            have g12 := le_eq A.size hb12
            obtain ⟨_, _, _⟩ := lt3 hb12 B1 B2 B10
            have y12 := le_eq Y_ hb12
            obtain ⟨B1, B2, B10⟩ := ah3 ha_u30 B1 B2 B10
            obtain ⟨A, X, Y_⟩ := axa3 ha_u30 A X Y_
            refine ⟨(Bar.of_ahead ha_u30), ?_⟩
            replace h := h _ X A
            refine Calls.mono h ?_
            clear h
            rintro e12 w30 ⟨b12, s15, b13, s16, he_, ha_w30, h⟩
            refine ⟨b12, s15, b13, s16, he_, ?_⟩
            clear he_
            obtain ⟨B1, B2, B10, B12⟩ := ah4 ha_w30 B1 B2 B10 B12
            obtain ⟨A, X, Y_⟩ := axa3 ha_w30 A X Y_
            replace X : Ext w30 w30 := Ext.refl _
            refine st2_t B12 rfl rfl rfl fun u31 k_u31 B12 => ?_
            obtain ⟨B1, B2, B10⟩ := up3 k_u31 B1 B2 B10
            obtain ⟨A, X, Y_⟩ := axu3 k_u31 g12 A X Y_
            refine st2_t B10 rfl rfl rfl fun u32 k_u32 B10 => ?_
            obtain ⟨B1, B2, B12⟩ := up3 k_u32 B1 B2 B12
            obtain ⟨A, X, Y_⟩ := axu3 k_u32 g10 A X Y_
            refine ldB_t 0 B12 rfl ?_
            refine ldS_t 1 B12 rfl ?_
            refine st2_t B2 rfl rfl rfl fun u33 k_u33 B2 => ?_
            obtain ⟨B1, B10, B12⟩ := up3 k_u33 B1 B10 B12
            obtain ⟨A, X⟩ := axu2 k_u33 g2 A X
            refine ldB_t 0 B2 rfl ?_
            refine ldS_t 1 B2 rfl ?_
            replace h := h _ X A
            exact ⟨A, h⟩
        ·refine ⟨?_, ?_⟩
         ·refine newC_t fun bk13 u34 hb13 ha_u34 _ B13 => ?_
          have g13 := le_eq A.size hb13
          obtain ⟨_, _⟩ := lt2 hb13 B1 B2
          have y13 := le_eq Y_ hb13
          obtain ⟨B1, B2⟩ := ah2 ha_u34 B1 B2
          obtain ⟨A, X, Y_⟩ := axa3 ha_u34 A X Y_
          refine ⟨(Bar.of_ahead ha_u34), ?_⟩
          refine ⟨?_, ?_⟩
          ·replace h := h _ X A
           refine Calls.mono h ?_
           clear h
           rintro e13 w33 ⟨b14, s17, he_, ha_w33, h⟩
           refine ⟨b14, s17, he_, ?_⟩
           clear he_
           obtain ⟨B1, B2, B13⟩ := ah3 ha_w33 B1 B2 B13
           obtain ⟨A, X, Y_⟩ := axa3 ha_w33 A X Y_
           replace X : Ext w33 w33 := Ext.refl _
           refine ⟨(Bar.of_ahead ha_w33), ?_⟩
           refine ⟨?_, ?_⟩
           ·replace h := h _ X A
            refine Calls.mono h ?_
            clear h
            rintro e14 w35 ⟨b15, s18, b16, s19, he_, ha_w35, h⟩
            refine ⟨b15, s18, b16, s19, he_, ?_⟩
            clear he_
            obtain ⟨B1, B2, B13⟩ := ah3 ha_w35 B1 B2 B13
            obtain ⟨A, X, Y_⟩ := axa3 ha_w35 A X Y_
            replace X : Ext w35 w35 := Ext.refl _
            refine newC_t fun bk14 u35 hb14 ha_u35 _ B14 => ?_
            have g14 := le_eq A.size hb14
            obtain ⟨_, _, _⟩ := lt3 hb14 B1 B2 B13
            have y14 := le_eq Y_ hb14
            obtain ⟨B1, B2, B13⟩ := ah3 ha_u35 B1 B2 B13
            obtain ⟨A, X, Y_⟩ := axa3 ha_u35 A X Y_
            refine ⟨(Bar.of_ahead ha_u35), ?_⟩
            refine st2_t B13 rfl rfl rfl fun u36 k_u36 B13 => ?_
            obtain ⟨B1, B2, B14⟩ := up3 k_u36 B1 B2 B14
            obtain ⟨A, X, Y_⟩ := axu3 k_u36 g13 A X Y_
            refine st2_t B14 rfl rfl rfl fun u37 k_u37 B14 => ?_
            obtain ⟨B1, B2, B13⟩ := up3 k_u37 B1 B2 B13
            obtain ⟨A, X, Y_⟩ := axu3 k_u37 g14 A X Y_
            refine ldB_t 0 B13 rfl ?_
            refine ldS_t 1 B13 rfl ?_
            refine st2_t B2 rfl rfl rfl fun u38 k_u38 B2 => ?_
            obtain ⟨B1, B13, B14⟩ := up3 k_u38 B1 B13 B14
            obtain ⟨A, X⟩ := axu2 k_u38 g2 A X
            refine ldB_t 0 B2 rfl ?_
            refine ldS_t 1 B2 rfl ?_
            replace h := h _ X A
            exact ⟨A, h⟩
           ·refine newC_t fun bk15 u39 hb15 ha_u39 _ B15 => ?_
            have g15 := le_eq A.size hb15
            obtain ⟨_, _, _⟩ := lt3 hb15 B1 B2 B13
            have y15 := le_eq Y_ hb15
            obtain ⟨B1, B2, B13⟩ := ah3 ha_u39 B1 B2 B13
            obtain ⟨A, X, Y_⟩ := axa3 ha_u39 A X Y_
            refine ⟨(Bar.of_ahead ha_u39), ?_⟩
            replace h := h _ X A
            refine Calls.mono h ?_
            clear h
            rintro e15 w38 ⟨b17, s20, b18, s21, he_, ha_w38, h⟩
            refine ⟨b17, s20, b18, s21, he_, ?_⟩
            clear he_
            obtain ⟨B1, B2, B13, B15⟩ := ah4 ha_w38 B1 B2 B13 B15
            obtain ⟨A, X, Y_⟩ := axa3 ha_w38 A X Y_
            replace X : Ext w38 w38 := Ext.refl _
            refine st2_t B13 rfl rfl rfl fun u40 k_u40 B13 => ?_
            obtain ⟨B1, B2, B15⟩ := up3 k_u40 B1 B2 B15
            obtain ⟨A, X, Y_⟩ := axu3 k_u40 g13 A X Y_
            refine st2_t B15 rfl rfl rfl fun u41 k_u41 B15 => ?_
            obtain ⟨B1, B2, B13⟩ := up3 k_u41 B1 B2 B13
            obtain ⟨A, X, Y_⟩ := axu3 k_u41 g15 A X Y_
            refine ldB_t 0 B13 rfl ?_
            refine ldS_t 1 B13 rfl ?_
            refine st2_t B2 rfl rfl rfl fun u42 k_u42 B2 => ?_
            obtain ⟨B1, B13, B15⟩ := up3 k_u42 B1 B13 B15
            obtain ⟨A, X⟩ := axu2 k_u42 g2 A X
            refine ldB_t 0 B2 rfl ?_
            refine ldS_t 1 B2 rfl ?_
            replace h := h _ X A
            exact ⟨A, h⟩
          ·refine newC_t fun bk16 u43 hb16 ha_u43 _ B16 => ?_
           have g16 := le_eq A.size hb16
           obtain ⟨_, _, _⟩ := lt3 hb16 B1 B2 B13
           have y16 := le_eq Y_ hb16
           obtain ⟨B1, B2, B13⟩ := ah3 ha_u43 B1 B2 B13
           obtain ⟨A, X, Y_⟩ := axa3 ha_u43 A X Y_
           refine ⟨(Bar.of_ahead ha_u43), ?_⟩
           replace h := h _ X A
           refine Calls.mono h ?_
           clear h
           rintro e16 w41 ⟨b19, s22, he_, ha_w41, h⟩
           refine ⟨b19, s22, he_, ?_⟩
           clear he_
           obtain ⟨B1, B2, B13, B16⟩ := ah4 ha_w41 B1 B2 B13 B16
           obtain ⟨A, X, Y_⟩ := axa3 ha_w41 A X Y_
           replace X : Ext w41 w41 := Ext.refl _
           refine ⟨(Bar.of_ahead ha_w41), ?_⟩
           replace h := h _ X A
           refine Calls.mono h ?_
           clear h
           rintro e17 w43 ⟨b20, s23, b21, s24, he_, ha_w43, h⟩
           refine ⟨b20, s23, b21, s24, he_, ?_⟩
           clear he_
           obtain ⟨B1, B2, B13, B16⟩ := ah4 ha_w43 B1 B2 B13 B16
           obtain ⟨A, X, Y_⟩ := axa3 ha_w43 A X Y_
           replace X : Ext w43 w43 := Ext.refl _
           refine st2_t B13 rfl rfl rfl fun u44 k_u44 B13 => ?_
           obtain ⟨B1, B2, B16⟩ := up3 k_u44 B1 B2 B16
           obtain ⟨A, X, Y_⟩ := axu3 k_u44 g13 A X Y_
           refine st2_t B16 rfl rfl rfl fun u45 k_u45 B16 => ?_
           obtain ⟨B1, B2, B13⟩ := up3 k_u45 B1 B2 B13
           obtain ⟨A, X, Y_⟩ := axu3 k_u45 g16 A X Y_
           refine ldB_t 0 B13 rfl ?_
           refine ldS_t 1 B13 rfl ?_
           refine st2_t B2 rfl rfl rfl fun u46 k_u46 B2 => ?_
           obtain ⟨B1, B13, B16⟩ := up3 k_u46 B1 B13 B16
           obtain ⟨A, X⟩ := axu2 k_u46 g2 A X
           refine ldB_t 0 B2 rfl ?_
           refine ldS_t 1 B2 rfl ?_
           replace h := h _ X A
           exact ⟨A, h⟩
         ·refine newC_t fun bk17 u47 hb17 ha_u47 _ B17 => ?_
          have g17 := le_eq A.size hb17
          obtain ⟨_, _⟩ := lt2 hb17 B1 B2
          have y17 := le_eq Y_ hb17
          obtain ⟨B1, B2⟩ := ah2 ha_u47 B1 B2
          obtain ⟨A, X, Y_⟩ := axa3 ha_u47 A X Y_
          refine ⟨(Bar.of_ahead ha_u47), ?_⟩
          refine ⟨?_, ?_⟩
          ·replace h := h _ X A
           refine Calls.mono h ?_
           clear h
           rintro e18 w46 ⟨b22, s25, he_, ha_w46, h⟩
           refine ⟨b22, s25, he_, ?_⟩
           clear he_
           obtain ⟨B1, B2, B17⟩ := ah3 ha_w46 B1 B2 B17
           obtain ⟨A, X, Y_⟩ := axa3 ha_w46 A X Y_
           replace X : Ext w46 w46 := Ext.refl _
           refine ⟨(Bar.of_ahead ha_w46), ?_⟩
           refine ⟨?_, ?_⟩
           ·replace h := h _ X A
            refine Calls.mono h ?_
            clear h
            rintro e19 w48 ⟨b23, s26, b24, s27, he_, ha_w48, h⟩
            refine ⟨b23, s26, b24, s27, he_, ?_⟩
            clear he_
            obtain ⟨B1, B2, B17⟩ := ah3 ha_w48 B1 B2 B17
            obtain ⟨A, X, Y_⟩ := axa3 ha_w48 A X Y_
            replace X : Ext w48 w48 := Ext.refl _
            refine newC_t fun bk18 u48 hb18 ha_u48 _ B18 => ?_
            have g18 := le_eq A.size hb18
            obtain ⟨_, _, _⟩ := lt3 hb18 B1 B2 B17
            have y18 := le_eq Y_ hb18
            obtain ⟨B1, B2, B17⟩ := ah3 ha_u48 B1 B2 B17
            obtain ⟨A, X, Y_⟩ := axa3 ha_u48 A X Y_
            refine ⟨(Bar.of_ahead ha_u48), ?_⟩
            refine st2_t B18 rfl rfl rfl fun u49 k_u49 B18 => ?_
            obtain ⟨B1, B2, B17⟩ := up3 k_u49 B1 B2 B17
            obtain ⟨A, X, Y_⟩ := axu3 k_u49 g18 A X Y_
            refine st2_t B17 rfl rfl rfl fun u50 k_u50 B17 => ?_
            obtain ⟨B1, B2, B18⟩ := up3 k_u50 B1 B2 B18
            obtain ⟨A, X, Y_⟩ := axu3 k_u50 g17 A X Y_
            refine ldB_t 0 B18 rfl ?_
            refine ldS_t 1 B18 rfl ?_
            refine st2_t B2 rfl rfl rfl fun u51 k_u51 B2 => ?_
            obtain ⟨B1, B17, B18⟩ := up3 k_u51 B1 B17 B18
            obtain ⟨A, X⟩ := axu2 k_u51 g2 A X
            refine ldB_t 0 B2 rfl ?_
            refine ldS_t 1 B2 rfl ?_
            replace h := h _ X A
            exact ⟨A, h⟩
           ·refine newC_t fun bk19 u52 hb19 ha_u52 _ B19 => ?_
            have g19 := le_eq A.size hb19
            obtain ⟨_, _, _⟩ := lt3 hb19 B1 B2 B17
            have y19 := le_eq Y_ hb19
            obtain ⟨B1, B2, B17⟩ := ah3 ha_u52 B1 B2 B17
            obtain ⟨A, X, Y_⟩ := axa3 ha_u52 A X Y_
            refine ⟨(Bar.of_ahead ha_u52), ?_⟩
            replace h := h _ X A
            refine Calls.mono h ?_
            clear h
            rintro e20 w51 ⟨b25, s28, b26, s29, he_, ha_w51, h⟩
            refine ⟨b25, s28, b26, s29, he_, ?_⟩
            clear he_
            obtain ⟨B1, B2, B17, B19⟩ := ah4 ha_w51 B1 B2 B17 B19
            obtain ⟨A, X, Y_⟩ := axa3 ha_w51 A X Y_
            replace X : Ext w51 w51 := Ext.refl _
            refine st2_t B19 rfl rfl rfl fun u53 k_u53 B19 => ?_
            obtain ⟨B1, B2, B17⟩ := up3 k_u53 B1 B2 B17
            obtain ⟨A, X, Y_⟩ := axu3 k_u53 g19 A X Y_
            refine st2_t B17 rfl rfl rfl fun u54 k_u54 B17 => ?_
            obtain ⟨B1, B2, B19⟩ := up3 k_u54 B1 B2 B19
            obtain ⟨A, X, Y_⟩ := axu3 k_u54 g17 A X Y_
            refine ldB_t 0 B19 rfl ?_
            refine ldS_t 1 B19 rfl ?_
            refine st2_t B2 rfl rfl rfl fun u55 k_u55 B2 => ?_
            obtain ⟨B1, B17, B19⟩ := up3 k_u55 B1 B17 B19
            obtain ⟨A, X⟩ := axu2 k_u55 g2 A X
            refine ldB_t 0 B2 rfl ?_
            refine ldS_t 1 B2 rfl ?_
            replace h := h _ X A
            exact ⟨A, h⟩
          ·refine newC_t fun bk20 u56 hb20 ha_u56 _ B20 => ?_
           have g20 := le_eq A.size hb20
           obtain ⟨_, _, _⟩ := lt3 hb20 B1 B2 B17
           have y20 := le_eq Y_ hb20
           obtain ⟨B1, B2, B17⟩ := ah3 ha_u56 B1 B2 B17
           obtain ⟨A, X, Y_⟩ := axa3 ha_u56 A X Y_
           refine ⟨(Bar.of_ahead ha_u56), ?_⟩
           replace h := h _ X A
           refine Calls.mono h ?_
           clear h
           rintro e21 w54 ⟨b27, s30, he_, ha_w54, h⟩
           refine ⟨b27, s30, he_, ?_⟩
           clear he_
           obtain ⟨B1, B2, B17, B20⟩ := ah4 ha_w54 B1 B2 B17 B20
           obtain ⟨A, X, Y_⟩ := axa3 ha_w54 A X Y_
           replace X : Ext w54 w54 := Ext.refl _
           refine ⟨(Bar.of_ahead ha_w54), ?_⟩
           replace h := h _ X A
           refine Calls.mono h ?_
           clear h
           rintro e22 w56 ⟨b28, s31, b29, s32, he_, ha_w56, h⟩
           refine ⟨b28, s31, b29, s32, he_, ?_⟩
           clear he_
           obtain ⟨B1, B2, B17, B20⟩ := ah4 ha_w56 B1 B2 B17 B20
           obtain ⟨A, X, Y_⟩ := axa3 ha_w56 A X Y_
           replace X : Ext w56 w56 := Ext.refl _
           refine st2_t B20 rfl rfl rfl fun u57 k_u57 B20 => ?_
           obtain ⟨B1, B2, B17⟩ := up3 k_u57 B1 B2 B17
           obtain ⟨A, X, Y_⟩ := axu3 k_u57 g20 A X Y_
           refine st2_t B17 rfl rfl rfl fun u58 k_u58 B17 => ?_
           obtain ⟨B1, B2, B20⟩ := up3 k_u58 B1 B2 B20
           obtain ⟨A, X, Y_⟩ := axu3 k_u58 g17 A X Y_
           refine ldB_t 0 B20 rfl ?_
           refine ldS_t 1 B20 rfl ?_
           refine st2_t B2 rfl rfl rfl fun u59 k_u59 B2 => ?_
           obtain ⟨B1, B17, B20⟩ := up3 k_u59 B1 B17 B20
           obtain ⟨A, X⟩ := axu2 k_u59 g2 A X
           refine ldB_t 0 B2 rfl ?_
           refine ldS_t 1 B2 rfl ?_
           replace h := h _ X A
           exact ⟨A, h⟩
       ·refine ⟨?_, ?_⟩
        ·refine newC_t fun bk21 u60 hb21 ha_u60 _ B21 => ?_
         have g21 := le_eq A.size hb21
         obtain ⟨_, _⟩ := lt2 hb21 B1 B2
         have y21 := le_eq Y_ hb21
         obtain ⟨B1, B2⟩ := ah2 ha_u60 B1 B2
         obtain ⟨A, X, Y_⟩ := axa3 ha_u60 A X Y_
         refine ⟨(Bar.of_ahead ha_u60), ?_⟩
         refine ⟨?_, ?_⟩
         ·replace h := h _ X A
          refine Calls.mono h ?_
          clear h
          rintro e23 w59 ⟨s33, he_, ha_w59, h⟩
          refine ⟨s33, he_, ?_⟩
          clear he_
          obtain ⟨B1, B2, B21⟩ := ah3 ha_w59 B1 B2 B21
          obtain ⟨A, X, Y_⟩ := axa3 ha_w59 A X Y_
          replace X : Ext w59 w59 := Ext.refl _
          refine ⟨(Bar.of_ahead ha_w59), ?_⟩
          refine ⟨?_, ?_⟩
          ·replace h := h _ X A
           refine Calls.mono h ?_
           clear h
           rintro e24 w61 ⟨b30, s34, he_, ha_w61, h⟩
           refine ⟨b30, s34, he_, ?_⟩
           clear he_
           obtain ⟨B1, B2, B21⟩ := ah3 ha_w61 B1 B2 B21
           obtain ⟨A, X, Y_⟩ := axa3 ha_w61 A X Y_
           replace X : Ext w61 w61 := Ext.refl _
           refine ⟨(Bar.of_ahead ha_w61), ?_⟩
           refine ⟨?_, ?_⟩
           ·replace h := h _ X A
            refine Calls.mono h ?_
            clear h
            rintro e25 w63 ⟨b31, s35, b32, s36, he_, ha_w63, h⟩
            refine ⟨b31, s35, b32, s36, he_, ?_⟩
            clear he_
            obtain ⟨B1, B2, B21⟩ := ah3 ha_w63 B1 B2 B21
            obtain ⟨A, X, Y_⟩ := axa3 ha_w63 A X Y_
            replace X : Ext w63 w63 := Ext.refl _
            refine newC_t fun bk22 u61 hb22 ha_u61 _ B22 => ?_
            have g22 := le_eq A.size hb22
            obtain ⟨_, _, _⟩ := lt3 hb22 B1 B2 B21
            have y22 := le_eq Y_ hb22
            obtain ⟨B1, B2, B21⟩ := ah3 ha_u61 B1 B2 B21
            obtain ⟨A, X, Y_⟩ := axa3 ha_u61 A X Y_
            refine ⟨(Bar.of_ahead ha_u61), ?_⟩
            refine st2_t B21 rfl rfl rfl fun u62 k_u62 B21 => ?_
            obtain ⟨B1, B2, B22⟩ := up3 k_u62 B1 B2 B22
            obtain ⟨A, X, Y_⟩ := axu3 k_u62 g21 A X Y_
            refine st2_t B22 rfl rfl rfl fun u63 k_u63 B22 => ?_
            obtain ⟨B1, B2, B21⟩ := up3 k_u63 B1 B2 B21
            obtain ⟨A, X, Y_⟩ := axu3 k_u63 g22 A X Y_
            refine ldB_t 0 B21 rfl ?_
            refine ldS_t 1 B21 rfl ?_
            refine st2_t B2 rfl rfl rfl fun u64 k_u64 B2 => ?_
            obtain ⟨B1, B21, B22⟩ := up3 k_u64 B1 B21 B22
            obtain ⟨A, X⟩ := axu2 k_u64 g2 A X
            refine ldB_t 0 B2 rfl ?_
            refine ldS_t 1 B2 rfl ?_
            replace h := h _ X A
            exact ⟨A, h⟩
           ·refine newC_t fun bk23 u65 hb23 ha_u65 _ B23 => ?_
            have g23 := le_eq A.size hb23
            obtain ⟨_, _, _⟩ := lt3 hb23 B1 B2 B21
            have y23 := le_eq Y_ hb23
            obtain ⟨B1, B2, B21⟩ := ah3 ha_u65 B1 B2 B21
            obtain ⟨A, X, Y_⟩ := axa3 ha_u65 A X Y_
            refine ⟨(Bar.of_ahead ha_u65), ?_⟩
            replace h := h _ X A
            refine Calls.mono h ?_
            clear h
            rintro e26 w66 ⟨b33, s37, b34, s38, he_, ha_w66, h⟩
            refine ⟨b33, s37, b34, s38, he_, ?_⟩
            clear he_
            obtain ⟨B1, B2, B21, B23⟩ := ah4 ha_w66 B1 B2 B21 B23
            obtain ⟨A, X, Y_⟩ := axa3 ha_w66 A X Y_
            replace X : Ext w66 w66 := Ext.refl _
            refine st2_t B21 rfl rfl rfl fun u66 k_u66 B21 => ?_
            obtain ⟨B1, B2, B23⟩ := up3 k_u66 B1 B2 B23
            obtain ⟨A, X, Y_⟩ := axu3 k_u66 g21 A X Y_
            refine st2_t B23 rfl rfl rfl fun u67 k_u67 B23 => ?_
            obtain ⟨B1, B2, B21⟩ := up3 k_u67 B1 B2 B21
            obtain ⟨A, X, Y_⟩ := axu3 k_u67 g23 A X Y_
            refine ldB_t 0 B21 rfl ?_
            refine ldS_t 1 B21 rfl ?_
            refine st2_t B2 rfl rfl rfl fun u68 k_u68 B2 => ?_
            obtain ⟨B1, B21, B23⟩ := up3 k_u68 B1 B21 B23
            obtain ⟨A, X⟩ := axu2 k_u68 g2 A X
            refine ldB_t 0 B2 rfl ?_
            refine ldS_t 1 B2 rfl ?_
            replace h := h _ X A
            exact ⟨A, h⟩
          ·refine newC_t fun bk24 u69 hb24 ha_u69 _ B24 => ?_
           have g24 := le_eq A.size hb24
           obtain ⟨_, _, _⟩ := lt3 hb24 B1 B2 B21
           have y24 := le_eq Y_ hb24
           obtain ⟨B1, B2, B21⟩ := ah3 ha_u69 B1 B2 B21
           obtain ⟨A, X, Y_⟩ := axa3 ha_u69 A X Y_
           refine ⟨(Bar.of_ahead ha_u69), ?_⟩
           replace h := h _ X A
           refine Calls.mono h ?_
           clear h
           rintro e27 w69 ⟨b35, s39, he_, ha_w69, h⟩
           refine ⟨b35, s39, he_, ?_⟩
           clear he_
           obtain ⟨B1, B2, B21, B24⟩ := ah4 ha_w69 B1 B2 B21 B24
           obtain ⟨A, X, Y_⟩ := axa3 ha_w69 A X Y_
           replace X : Ext w69 w69 := Ext.refl _
           refine ⟨(Bar.of_ahead ha_w69), ?_⟩
           replace h := h _ X A
           refine Calls.mono h ?_
           clear h
           rintro e28 w71 ⟨b36, s40, b37, s41, he_, ha_w71, h⟩
           refine ⟨b36, s40, b37, s41, he_, ?_⟩
           clear he_
           obtain ⟨B1, B2, B21, B24⟩ := ah4 ha_w71 B1 B2 B21 B24
           obtain ⟨A, X, Y_⟩ := axa3 ha_w71 A X Y_
           replace X : Ext w71 w71 := Ext.refl _
           refine st2_t B21 rfl rfl rfl fun u70 k_u70 B21 => ?_
           obtain ⟨B1, B2, B24⟩ := up3 k_u70 B1 B2 B24
           obtain ⟨A, X, Y_⟩ := axu3 k_u70 g21 A X Y_
           refine st2_t B24 rfl rfl rfl fun u71 k_u71 B24 => ?_
           obtain ⟨B1, B2, B21⟩ := up3 k_u71 B1 B2 B21
           obtain ⟨A, X, Y_⟩ := axu3 k_u71 g24 A X Y_
           refine ldB_t 0 B21 rfl ?_
           refine ldS_t 1 B21 rfl ?_
           refine st2_t B2 rfl rfl rfl fun u72 k_u72 B2 => ?_
           obtain ⟨B1, B21, B24⟩ := up3 k_u72 B1 B21 B24
           obtain ⟨A, X⟩ := axu2 k_u72 g2 A X
           refine ldB_t 0 B2 rfl ?_
           refine ldS_t 1 B2 rfl ?_
           replace h := h _ X A
           exact ⟨A, h⟩
         ·refine newC_t fun bk25 u73 hb25 ha_u73 _ B25 => ?_
          have g25 := le_eq A.size hb25
          obtain ⟨_, _, _⟩ := lt3 hb25 B1 B2 B21
          have y25 := le_eq Y_ hb25
          obtain ⟨B1, B2, B21⟩ := ah3 ha_u73 B1 B2 B21
          obtain ⟨A, X, Y_⟩ := axa3 ha_u73 A X Y_
          refine ⟨(Bar.of_ahead ha_u73), ?_⟩
          replace h := h _ X A
          refine Calls.mono h ?_
          clear h
          rintro e29 w74 ⟨s42, he_, ha_w74, h⟩
          refine ⟨s42, he_, ?_⟩
          clear he_
          obtain ⟨B1, B2, B21, B25⟩ := ah4 ha_w74 B1 B2 B21 B25
          obtain ⟨A, X, Y_⟩ := axa3 ha_w74 A X Y_
          replace X : Ext w74 w74 := Ext.refl _
          refine ⟨(Bar.of_ahead ha_w74), ?_⟩
          replace h := h _ X A
          refine Calls.mono h ?_
          clear h
          rintro e30 w76 ⟨b38, s43, he_, ha_w76, h⟩
          refine ⟨b38, s43, he_, ?_⟩
          clear he_
          obtain ⟨B1, B2, B21, B25⟩ := ah4 ha_w76 B1 B2 B21 B25
          obtain ⟨A, X, Y_⟩ := axa3 ha_w76 A X Y_
          replace X : Ext w76 w76 := Ext.refl _
          refine ⟨(Bar.of_ahead ha_w76), ?_⟩
          replace h := h _ X A
          refine Calls.mono h ?_
          clear h
          rintro e31 w78 ⟨b39, s44, b40, s45, he_, ha_w78, h⟩
          refine ⟨b39, s44, b40, s45, he_, ?_⟩
          clear he_
          obtain ⟨B1, B2, B21, B25⟩ := ah4 ha_w78 B1 B2 B21 B25
          obtain ⟨A, X, Y_⟩ := axa3 ha_w78 A X Y_
          replace X : Ext w78 w78 := Ext.refl _
          refine st2_t B21 rfl rfl rfl fun u74 k_u74 B21 => ?_
          obtain ⟨B1, B2, B25⟩ := up3 k_u74 B1 B2 B25
          obtain ⟨A, X, Y_⟩ := axu3 k_u74 g21 A X Y_
          refine st2_t B25 rfl rfl rfl fun u75 k_u75 B25 => ?_
          obtain ⟨B1, B2, B21⟩ := up3 k_u75 B1 B2 B21
          obtain ⟨A, X, Y_⟩ := axu3 k_u75 g25 A X Y_
          refine ldB_t 0 B21 rfl ?_
          refine ldS_t 1 B21 rfl ?_
          refine st2_t B2 rfl rfl rfl fun u76 k_u76 B2 => ?_
          obtain ⟨B1, B21, B25⟩ := up3 k_u76 B1 B21 B25
          obtain ⟨A, X⟩ := axu2 k_u76 g2 A X
          refine ldB_t 0 B2 rfl ?_
          refine ldS_t 1 B2 rfl ?_
          replace h := h _ X A
          exact ⟨A, h⟩
        ·refine newC_t fun bk26 u77 hb26 ha_u77 _ B26 => ?_
         have g26 := le_eq A.size hb26
         obtain ⟨_, _⟩ := lt2 hb26 B1 B2
         have y26 := le_eq Y_ hb26
         obtain ⟨B1, B2⟩ := ah2 ha_u77 B1 B2
         obtain ⟨A, X, Y_⟩ := axa3 ha_u77 A X Y_
         refine ⟨(Bar.of_ahead ha_u77), ?_⟩
         refine ⟨?_, ?_⟩
         ·replace h := h _ X A
          refine Calls.mono h ?_
          clear h
          rintro e32 w81 ⟨s46, he_, ha_w81, h⟩
          refine ⟨s46, he_, ?_⟩
          clear he_
          obtain ⟨B1, B2, B26⟩ := ah3 ha_w81 B1 B2 B26
          obtain ⟨A, X, Y_⟩ := axa3 ha_w81 A X Y_
          replace X : Ext w81 w81 := Ext.refl _
          refine ⟨(Bar.of_ahead ha_w81), ?_⟩
          refine ⟨?_, ?_⟩
          ·replace h := h _ X A
           refine Calls.mono h ?_
           clear h
           rintro e33 w83 ⟨b41, s47, he_, ha_w83, h⟩
           refine ⟨b41, s47, he_, ?_⟩
           clear he_
           obtain ⟨B1, B2, B26⟩ := ah3 ha_w83 B1 B2 B26
           obtain ⟨A, X, Y_⟩ := axa3 ha_w83 A X Y_
           replace X : Ext w83 w83 := Ext.refl _
           refine ⟨(Bar.of_ahead ha_w83), ?_⟩
           refine ⟨?_, ?_⟩
           ·replace h := h _ X A
            refine Calls.mono h ?_
            clear h
            rintro e34 w85 ⟨b42, s48, b43, s49, he_, ha_w85, h⟩
            refine ⟨b42, s48, b43, s49, he_, ?_⟩
            clear he_
            obtain ⟨B1, B2, B26⟩ := ah3 ha_w85 B1 B2 B26
            obtain ⟨A, X, Y_⟩ := axa3 ha_w85 A X Y_
            replace X : Ext w85 w85 := Ext.refl _
            refine newC_t fun bk27 u78 hb27 ha_u78 _ B27 => ?_
            have g27 := le_eq A.size hb27
            obtain ⟨_, _, _⟩ := lt3 hb27 B1 B2 B26
            have y27 := le_eq Y_ hb27
            obtain ⟨B1, B2, B26⟩ := ah3 ha_u78 B1 B2 B26
            obtain ⟨A, X, Y_⟩ := axa3 ha_u78 A X Y_
            refine ⟨(Bar.of_ahead ha_u78), ?_⟩
            refine st2_t B27 rfl rfl rfl fun u79 k_u79 B27 => ?_
            obtain ⟨B1, B2, B26⟩ := up3 k_u79 B1 B2 B26
            obtain ⟨A, X, Y_⟩ := axu3 k_u79 g27 A X Y_
            refine st2_t B26 rfl rfl rfl fun u80 k_u80 B26 => ?_
            obtain ⟨B1, B2, B27⟩ := up3 k_u80 B1 B2 B27
            obtain ⟨A, X, Y_⟩ := axu3 k_u80 g26 A X Y_
            refine ldB_t 0 B27 rfl ?_
            refine ldS_t 1 B27 rfl ?_
            refine st2_t B2 rfl rfl rfl fun u81 k_u81 B2 => ?_
            obtain ⟨B1, B26, B27⟩ := up3 k_u81 B1 B26 B27
            obtain ⟨A, X⟩ := axu2 k_u81 g2 A X
            refine ldB_t 0 B2 rfl ?_
            refine ldS_t 1 B2 rfl ?_
            replace h := h _ X A
            exact ⟨A, h⟩
           ·refine newC_t fun bk28 u82 hb28 ha_u82 _ B28 => ?_
            have g28 := le_eq A.size hb28
            obtain ⟨_, _, _⟩ := lt3 hb28 B1 B2 B26
            have y28 := le_eq Y_ hb28
            obtain ⟨B1, B2, B26⟩ := ah3 ha_u82 B1 B2 B26
            obtain ⟨A, X, Y_⟩ := axa3 ha_u82 A X Y_
            refine ⟨(Bar.of_ahead ha_u82), ?_⟩
            replace h := h _ X A
            refine Calls.mono h ?_
            clear h
            rintro e35 w88 ⟨b44, s50, b45, s51, he_, ha_w88, h⟩
            refine ⟨b44, s50, b45, s51, he_, ?_⟩
            clear he_
            obtain ⟨B1, B2, B26, B28⟩ := ah4 ha_w88 B1 B2 B26 B28
            obtain ⟨A, X, Y_⟩ := axa3 ha_w88 A X Y_
            replace X : Ext w88 w88 := Ext.refl _
            refine st2_t B28 rfl rfl rfl fun u83 k_u83 B28 => ?_
            obtain ⟨B1, B2, B26⟩ := up3 k_u83 B1 B2 B26
            obtain ⟨A, X, Y_⟩ := axu3 k_u83 g28 A X Y_
            refine st2_t B26 rfl rfl rfl fun u84 k_u84 B26 => ?_
            obtain ⟨B1, B2, B28⟩ := up3 k_u84 B1 B2 B28
            obtain ⟨A, X, Y_⟩ := axu3 k_u84 g26 A X Y_
            refine ldB_t 0 B28 rfl ?_
            refine ldS_t 1 B28 rfl ?_
            refine st2_t B2 rfl rfl rfl fun u85 k_u85 B2 => ?_
            obtain ⟨B1, B26, B28⟩ := up3 k_u85 B1 B26 B28
            obtain ⟨A, X⟩ := axu2 k_u85 g2 A X
            refine ldB_t 0 B2 rfl ?_
            refine ldS_t 1 B2 rfl ?_
            replace h := h _ X A
            exact ⟨A, h⟩
          ·refine newC_t fun bk29 u86 hb29 ha_u86 _ B29 => ?_
           have g29 := le_eq A.size hb29
           obtain ⟨_, _, _⟩ := lt3 hb29 B1 B2 B26
           have y29 := le_eq Y_ hb29
           obtain ⟨B1, B2, B26⟩ := ah3 ha_u86 B1 B2 B26
           obtain ⟨A, X, Y_⟩ := axa3 ha_u86 A X Y_
           refine ⟨(Bar.of_ahead ha_u86), ?_⟩
           replace h := h _ X A
           refine Calls.mono h ?_
           clear h
           rintro e36 w91 ⟨b46, s52, he_, ha_w91, h⟩
           refine ⟨b46, s52, he_, ?_⟩
           clear he_
           obtain ⟨B1, B2, B26, B29⟩ := ah4 ha_w91 B1 B2 B26 B29
           obtain ⟨A, X, Y_⟩ := axa3 ha_w91 A X Y_
           replace X : Ext w91 w91 := Ext.refl _
           refine ⟨(Bar.of_ahead ha_w91), ?_⟩
           replace h := h _ X A
           refine Calls.mono h ?_
           clear h
           rintro e37 w93 ⟨b47, s53, b48, s54, he_, ha_w93, h⟩
           refine ⟨b47, s53, b48, s54, he_, ?_⟩
           clear he_
           obtain ⟨B1, B2, B26, B29⟩ := ah4 ha_w93 B1 B2 B26 B29
           obtain ⟨A, X, Y_⟩ := axa3 ha_w93 A X Y_
           replace X : Ext w93 w93 := Ext.refl _
           refine st2_t B29 rfl rfl rfl fun u87 k_u87 B29 => ?_
           obtain ⟨B1, B2, B26⟩ := up3 k_u87 B1 B2 B26
           obtain ⟨A, X, Y_⟩ := axu3 k_u87 g29 A X Y_
           refine st2_t B26 rfl rfl rfl fun u88 k_u88 B26 => ?_
           obtain ⟨B1, B2, B29⟩ := up3 k_u88 B1 B2 B29
           obtain ⟨A, X, Y_⟩ := axu3 k_u88 g26 A X Y_
           refine ldB_t 0 B29 rfl ?_
           refine ldS_t 1 B29 rfl ?_
           refine st2_t B2 rfl rfl rfl fun u89 k_u89 B2 => ?_
           obtain ⟨B1, B26, B29⟩ := up3 k_u89 B1 B26 B29
           obtain ⟨A, X⟩ := axu2 k_u89 g2 A X
           refine ldB_t 0 B2 rfl ?_
           refine ldS_t 1 B2 rfl ?_
           replace h := h _ X A
           exact ⟨A, h⟩
         ·refine newC_t fun bk30 u90 hb30 ha_u90 _ B30 => ?_
          have g30 := le_eq A.size hb30
          obtain ⟨_, _, _⟩ := lt3 hb30 B1 B2 B26
          have y30 := le_eq Y_ hb30
          obtain ⟨B1, B2, B26⟩ := ah3 ha_u90 B1 B2 B26
          obtain ⟨A, X, Y_⟩ := axa3 ha_u90 A X Y_
          refine ⟨(Bar.of_ahead ha_u90), ?_⟩
          replace h := h _ X A
          refine Calls.mono h ?_
          clear h
          rintro e38 w96 ⟨s55, he_, ha_w96, h⟩
          refine ⟨s55, he_, ?_⟩
          clear he_
          obtain ⟨B1, B2, B26, B30⟩ := ah4 ha_w96 B1 B2 B26 B30
          obtain ⟨A, X, Y_⟩ := axa3 ha_w96 A X Y_
          replace X : Ext w96 w96 := Ext.refl _
          refine ⟨(Bar.of_ahead ha_w96), ?_⟩
          replace h := h _ X A
          refine Calls.mono h ?_
          clear h
          rintro e39 w98 ⟨b49, s56, he_, ha_w98, h⟩
          refine ⟨b49, s56, he_, ?_⟩
          clear he_
          obtain ⟨B1, B2, B26, B30⟩ := ah4 ha_w98 B1 B2 B26 B30
          obtain ⟨A, X, Y_⟩ := axa3 ha_w98 A X Y_
          replace X : Ext w98 w98 := Ext.refl _
          refine ⟨(Bar.of_ahead ha_w98), ?_⟩
          replace h := h _ X A
          refine Calls.mono h ?_
          clear h
          rintro e40 w100 ⟨b50, s57, b51, s58, he_, ha_w100, h⟩
          refine ⟨b50, s57, b51, s58, he_, ?_⟩
          clear he_
          obtain ⟨B1, B2, B26, B30⟩ := ah4 ha_w100 B1 B2 B26 B30
          obtain ⟨A, X, Y_⟩ := axa3 ha_w100 A X Y_
          replace X : Ext w100 w100 := Ext.refl _
          refine st2_t B30 rfl rfl rfl fun u91 k_u91 B30 => ?_
          obtain ⟨B1, B2, B26⟩ := up3 k_u91 B1 B2 B26
          obtain ⟨A, X, Y_⟩ := axu3 k_u91 g30 A X Y_
          refine st2_t B26 rfl rfl rfl fun u92 k_u92 B26 => ?_
          obtain ⟨B1, B2, B30⟩ := up3 k_u92 B1 B2 B30
          obtain ⟨A, X, Y_⟩ := axu3 k_u92 g26 A X Y_
          refine ldB_t 0 B30 rfl ?_
          refine ldS_t 1 B30 rfl ?_
          refine st2_t B2 rfl rfl rfl fun u93 k_u93 B2 => ?_
          obtain ⟨B1, B26, B30⟩ := up3 k_u93 B1 B26 B30
          obtain ⟨A, X⟩ := axu2 k_u93 g2 A X
          refine ldB_t 0 B2 rfl ?_
          refine ldS_t 1 B2 rfl ?_
          replace h := h _ X A
          exact ⟨A, h⟩
      ·refine ⟨?_, ?_⟩
       ·refine newC_t fun bk31 u94 hb31 ha_u94 _ B31 => ?_
        have g31 := le_eq A.size hb31
        obtain ⟨_, _⟩ := lt2 hb31 B1 B2
        have y31 := le_eq Y_ hb31
        obtain ⟨B1, B2⟩ := ah2 ha_u94 B1 B2
        obtain ⟨A, X, Y_⟩ := axa3 ha_u94 A X Y_
        refine ⟨(Bar.of_ahead ha_u94), ?_⟩
        refine ⟨?_, ?_⟩
        ·replace h := h _ X A
         refine Calls.mono h ?_
         clear h
         rintro e41 w103 ⟨s59, he_, ha_w103, h⟩
         refine ⟨s59, he_, ?_⟩
         clear he_
         obtain ⟨B1, B2, B31⟩ := ah3 ha_w103 B1 B2 B31
         obtain ⟨A, X, Y_⟩ := axa3 ha_w103 A X Y_
         replace X : Ext w103 w103 := Ext.refl _
         refine ⟨(Bar.of_ahead ha_w103), ?_⟩
         refine ⟨?_, ?_⟩
         ·replace h := h _ X A
          refine Calls.mono h ?_
          clear h
          rintro e42 w105 ⟨s60, he_, ha_w105, h⟩
          refine ⟨s60, he_, ?_⟩
          clear he_
          obtain ⟨B1, B2, B31⟩ := ah3 ha_w105 B1 B2 B31
          obtain ⟨A, X, Y_⟩ := axa3 ha_w105 A X Y_
          replace X : Ext w105 w105 := Ext.refl _
          refine ⟨(Bar.of_ahead ha_w105), ?_⟩
          refine ⟨?_, ?_⟩
          ·replace h := h _ X A
           refine Calls.mono h ?_
           clear h
           rintro e43 w107 ⟨b52, s61, he_, ha_w107, h⟩
           refine ⟨b52, s61, he_, ?_⟩
           clear he_
           obtain ⟨B1, B2, B31⟩ := ah3 ha_w107 B1 B2 B31
           obtain ⟨A, X, Y_⟩ := axa3 ha_w107 A X Y_
           replace X : Ext w107 w107 := Ext.refl _
           refine ⟨(Bar.of_ahead ha_w107), ?_⟩
           refine ⟨?_, ?_⟩
           ·replace h := h _ X A
            refine Calls.mono h ?_
            clear h
            rintro e44 w109 ⟨b53, s62, b54, s63, he_, ha_w109, h⟩
            refine ⟨b53, s62, b54, s63, he_, ?_⟩
            clear he_
            obtain ⟨B1, B2, B31⟩ := ah3 ha_w109 B1 B2 B31
            obtain ⟨A, X, Y_⟩ := axa3 ha_w109 A X Y_
            replace X : Ext w109 w109 := Ext.refl _
            refine newC_t fun bk32 u95 hb32 ha_u95 _ B32 => ?_
            have g32 := le_eq A.size hb32
            obtain ⟨_, _, _⟩ := lt3 hb32 B1 B2 B31
            have y32 := le_eq Y_ hb32
            obtain ⟨B1, B2, B31⟩ := ah3 ha_u95 B1 B2 B31
            obtain ⟨A, X, Y_⟩ := axa3 ha_u95 A X Y_
            refine ⟨(Bar.of_ahead ha_u95), ?_⟩
            refine st2_t B31 rfl rfl rfl fun u96 k_u96 B31 => ?_
            obtain ⟨B1, B2, B32⟩ := up3 k_u96 B1 B2 B32
            obtain ⟨A, X, Y_⟩ := axu3 k_u96 g31 A X Y_
            refine st2_t B32 rfl rfl rfl fun u97 k_u97 B32 => ?_
            obtain ⟨B1, B2, B31⟩ := up3 k_u97 B1 B2 B31
            obtain ⟨A, X, Y_⟩ := axu3 k_u97 g32 A X Y_
            refine ldB_t 0 B31 rfl ?_
            refine ldS_t 1 B31 rfl ?_
            refine st2_t B2 rfl rfl rfl fun u98 k_u98 B2 => ?_
            obtain ⟨B1, B31, B32⟩ := up3 k_u98 B1 B31 B32
            obtain ⟨A, X⟩ := axu2 k_u98 g2 A X
            refine ldB_t 0 B2 rfl ?_
            refine ldS_t 1 B2 rfl ?_
            replace h := h _ X A
            exact ⟨A, h⟩
           ·refine newC_t fun bk33 u99 hb33 ha_u99 _ B33 => ?_
            have g33 := le_eq A.size hb33
            obtain ⟨_, _, _⟩ := lt3 hb33 B1 B2 B31
            have y33 := le_eq Y_ hb33
            obtain ⟨B1, B2, B31⟩ := ah3 ha_u99 B1 B2 B31
            obtain ⟨A, X, Y_⟩ := axa3 ha_u99 A X Y_
            refine ⟨(Bar.of_ahead ha_u99), ?_⟩
            replace h := h _ X A
            refine Calls.mono h ?_
            clear h
            rintro e45 w112 ⟨b55, s64, b56, s65, he_, ha_w112, h⟩
            refine ⟨b55, s64, b56, s65, he_, ?_⟩
            clear he_
            obtain ⟨B1, B2, B31, B33⟩ := ah4 ha_w112 B1 B2 B31 B33
            obtain ⟨A, X, Y_⟩ := axa3 ha_w112 A X Y_
            replace X : Ext w112 w112 := Ext.refl _
            refine st2_t B31 rfl rfl rfl fun u100 k_u100 B31 => ?_
            obtain ⟨B1, B2, B33⟩ := up3 k_u100 B1 B2 B33
            obtain ⟨A, X, Y_⟩ := axu3 k_u100 g31 A X Y_
            refine st2_t B33 rfl rfl rfl fun u101 k_u101 B33 => ?_
            obtain ⟨B1, B2, B31⟩ := up3 k_u101 B1 B2 B31
            obtain ⟨A, X, Y_⟩ := axu3 k_u101 g33 A X Y_
            refine ldB_t 0 B31 rfl ?_
            refine ldS_t 1 B31 rfl ?_
            refine st2_t B2 rfl rfl rfl fun u102 k_u102 B2 => ?_
            obtain ⟨B1, B31, B33⟩ := up3 k_u102 B1 B31 B33
            obtain ⟨A, X⟩ := axu2 k_u102 g2 A X
            refine ldB_t 0 B2 rfl ?_
            refine ldS_t 1 B2 rfl ?_
            replace h := h _ X A
            exact ⟨A, h⟩
          ·refine newC_t fun bk34 u103 hb34 ha_u103 _ B34 => ?_
           have g34 := le_eq A.size hb34
           obtain ⟨_, _, _⟩ := lt3 hb34 B1 B2 B31
           have y34 := le_eq Y_ hb34
           obtain ⟨B1, B2, B31⟩ := ah3 ha_u103 B1 B2 B31
           obtain ⟨A, X, Y_⟩ := axa3 ha_u103 A X Y_
           refine ⟨(Bar.of_ahead ha_u103), ?_⟩
           replace h := h _ X A
           refine Calls.mono h ?_
           clear h
           rintro e46 w115 ⟨b57, s66, he_, ha_w115, h⟩
           refine ⟨b57, s66, he_, ?_⟩
           clear he_
           obtain ⟨B1, B2, B31, B34⟩ := ah4 ha_w115 B1 B2 B31 B34
           obtain ⟨A, X, Y_⟩ := axa3 ha_w115 A X Y_
           replace X : Ext w115 w115 := Ext.refl _
           refine ⟨(Bar.of_ahead ha_w115), ?_⟩
           replace h := h _ X A
           refine Calls.mono h ?_
           clear h
           rintro e47 w117 ⟨b58, s67, b59, s68, he_, ha_w117, h⟩
           refine ⟨b58, s67, b59, s68, he_, ?_⟩
           clear he_
           obtain ⟨B1, B2, B31, B34⟩ := ah4 ha_w117 B1 B2 B31 B34
           obtain ⟨A, X, Y_⟩ := axa3 ha_w117 A X Y_
           replace X : Ext w117 w117 := Ext.refl _
           refine st2_t B31 rfl rfl rfl fun u104 k_u104 B31 => ?_
           obtain ⟨B1, B2, B34⟩ := up3 k_u104 B1 B2 B34
           obtain ⟨A, X, Y_⟩ := axu3 k_u104 g31 A X Y_
           refine st2_t B34 rfl rfl rfl fun u105 k_u105 B34 => ?_
           obtain ⟨B1, B2, B31⟩ := up3 k_u105 B1 B2 B31
           obtain ⟨A, X, Y_⟩ := axu3 k_u105 g34 A X Y_
           refine ldB_t 0 B31 rfl ?_
           refine ldS_t 1 B31 rfl ?_
           refine st2_t B2 rfl rfl rfl fun u106 k_u106 B2 => ?_
           obtain ⟨B1, B31, B34⟩ := up3 k_u106 B1 B31 B34
           obtain ⟨A, X⟩ := axu2 k_u106 g2 A X
           refine ldB_t 0 B2 rfl ?_
           refine ldS_t 1 B2 rfl ?_
           replace h := h _ X A
           exact ⟨A, h⟩
         ·refine newC_t fun bk35 u107 hb35 ha_u107 _ B35 => ?_
          have g35 := le_eq A.size hb35
          obtain ⟨_, _, _⟩ := lt3 hb35 B1 B2 B31
          have y35 := le_eq Y_ hb35
          obtain ⟨B1, B2, B31⟩ := ah3 ha_u107 B1 B2 B31
          obtain ⟨A, X, Y_⟩ := axa3 ha_u107 A X Y_
          refine ⟨(Bar.of_ahead ha_u107), ?_⟩
          replace h := h _ X A
          refine Calls.mono h ?_
          clear h
          rintro e48 w120 ⟨s69, he_, ha_w120, h⟩
          refine ⟨s69, he_, ?_⟩
          clear he_
          obtain ⟨B1, B2, B31, B35⟩ := ah4 ha_w120 B1 B2 B31 B35
          obtain ⟨A, X, Y_⟩ := axa3 ha_w120 A X Y_
          replace X : Ext w120 w120 := Ext.refl _
          refine ⟨(Bar.of_ahead ha_w120), ?_⟩
          replace h := h _ X A
          refine Calls.mono h ?_
          clear h
          rintro e49 w122 ⟨b60, s70, he_, ha_w122, h⟩
          refine ⟨b60, s70, he_, ?_⟩
          clear he_
          obtain ⟨B1, B2, B31, B35⟩ := ah4 ha_w122 B1 B2 B31 B35
          obtain ⟨A, X, Y_⟩ := axa3 ha_w122 A X Y_
          replace X : Ext w122 w122 := Ext.refl _
          refine ⟨(Bar.of_ahead ha_w122), ?_⟩
          replace h := h _ X A
          refine Calls.mono h ?_
          clear h
          rintro e50 w124 ⟨b61, s71, b62, s72, he_, ha_w124, h⟩
          refine ⟨b61, s71, b62, s72, he_, ?_⟩
          clear he_
          obtain ⟨B1, B2, B31, B35⟩ := ah4 ha_w124 B1 B2 B31 B35
          obtain ⟨A, X, Y_⟩ := axa3 ha_w124 A X Y_
          replace X : Ext w124 w124 := Ext.refl _
          refine st2_t B31 rfl rfl rfl fun u108 k_u108 B31 => ?_
          obtain ⟨B1, B2, B35⟩ := up3 k_u108 B1 B2 B35
          obtain ⟨A, X, Y_⟩ := axu3 k_u108 g31 A X Y_
          refine st2_t B35 rfl rfl rfl fun u109 k_u109 B35 => ?_
          obtain ⟨B1, B2, B31⟩ := up3 k_u109 B1 B2 B31
          obtain ⟨A, X, Y_⟩ := axu3 k_u109 g35 A X Y_
          refine ldB_t 0 B31 rfl ?_
          refine ldS_t 1 B31 rfl ?_
          refine st2_t B2 rfl rfl rfl fun u110 k_u110 B2 => ?_
          obtain ⟨B1, B31, B35⟩ := up3 k_u110 B1 B31 B35
          obtain ⟨A, X⟩ := axu2 k_u110 g2 A X
          refine ldB_t 0 B2 rfl ?_
          refine ldS_t 1 B2 rfl ?_
          replace h := h _ X A
          exact ⟨A, h⟩
        ·refine newC_t fun bk36 u111 hb36 ha_u111 _ B36 => ?_
         have g36 := le_eq A.size hb36
         obtain ⟨_, _, _⟩ := lt3 hb36 B1 B2 B31
         have y36 := le_eq Y_ hb36
         obtain ⟨B1, B2, B31⟩ := ah3 ha_u111 B1 B2 B31
         obtain ⟨A, X, Y_⟩ := axa3 ha_u111 A X Y_
         refine ⟨(Bar.of_ahead ha_u111), ?_⟩
         replace h := h _ X A
         refine Calls.mono h ?_
         clear h
         rintro e51 w127 ⟨s73, he_, ha_w127, h⟩
         refine ⟨s73, he_, ?_⟩
         clear he_
         obtain ⟨B1, B2, B31, B36⟩ := ah4 ha_w127 B1 B2 B31 B36
         obtain ⟨A, X, Y_⟩ := axa3 ha_w127 A X Y_
         replace X : Ext w127 w127 := Ext.refl _
         refine ⟨(Bar.of_ahead ha_w127), ?_⟩
         replace h := h _ X A
         refine Calls.mono h ?_
         clear h
         rintro e52 w129 ⟨s74, he_, ha_w129, h⟩
         refine ⟨s74, he_, ?_⟩
         clear he_
         obtain ⟨B1, B2, B31, B36⟩ := ah4 ha_w129 B1 B2 B31 B36
         obtain ⟨A, X, Y_⟩ := axa3 ha_w129 A X Y_
         replace X : Ext w129 w129 := Ext.refl _
         refine ⟨(Bar.of_ahead ha_w129), ?_⟩
         replace h := h _ X A
         refine Calls.mono h ?_
         clear h
         rintro e53 w131 ⟨b63, s75, he_, ha_w131, h⟩
         refine ⟨b63, s75, he_, ?_⟩
         clear he_
         obtain ⟨B1, B2, B31, B36⟩ := ah4 ha_w131 B1 B2 B31 B36
         obtain ⟨A, X, Y_⟩ := axa3 ha_w131 A X Y_
         replace X : Ext w131 w131 := Ext.refl _
         refine ⟨(Bar.of_ahead ha_w131), ?_⟩
         replace h := h _ X A
         refine Calls.mono h ?_
         clear h
         rintro e54 w133 ⟨b64, s76, b65, s77, he_, ha_w133, h⟩
         refine ⟨b64, s76, b65, s77, he_, ?_⟩
         clear he_
         obtain ⟨B1, B2, B31, B36⟩ := ah4 ha_w133 B1 B2 B31 B36
         obtain ⟨A, X, Y_⟩ := axa3 ha_w133 A X Y_
         replace X : Ext w133 w133 := Ext.refl _
         refine st2_t B31 rfl rfl rfl fun u112 k_u112 B31 => ?_
         obtain ⟨B1, B2, B36⟩ := up3 k_u112 B1 B2 B36
         obtain ⟨A, X, Y_⟩ := axu3 k_u112 g31 A X Y_
         refine st2_t B36 rfl rfl rfl fun u113 k_u113 B36 => ?_
         obtain ⟨B1, B2, B31⟩ := up3 k_u113 B1 B2 B31
         obtain ⟨A, X, Y_⟩ := axu3 k_u113 g36 A X Y_
         refine ldB_t 0 B31 rfl ?_
         refine ldS_t 1 B31 rfl ?_
         refine st2_t B2 rfl rfl rfl fun u114 k_u114 B2 => ?_
         obtain ⟨B1, B31, B36⟩ := up3 k_u114 B1 B31 B36
         obtain ⟨A, X⟩ := axu2 k_u114 g2 A X
         refine ldB_t 0 B2 rfl ?_
         refine ldS_t 1 B2 rfl ?_
         replace h := h _ X A
         exact ⟨A, h⟩
       ·refine newC_t fun bk37 u115 hb37 ha_u115 _ B37 => ?_
        have g37 := le_eq A.size hb37
        obtain ⟨_, _⟩ := lt2 hb37 B1 B2
        have y37 := le_eq Y_ hb37
        obtain ⟨B1, B2⟩ := ah2 ha_u115 B1 B2
        obtain ⟨A, X, Y_⟩ := axa3 ha_u115 A X Y_
        refine ⟨(Bar.of_ahead ha_u115), ?_⟩
        refine ⟨?_, ?_⟩
        ·replace h := h _ X A
         refine Calls.mono h ?_
         clear h
         rintro e55 w136 ⟨s78, he_, ha_w136, h⟩
         refine ⟨s78, he_, ?_⟩
         clear he_
         obtain ⟨B1, B2, B37⟩ := ah3 ha_w136 B1 B2 B37
         obtain ⟨A, X, Y_⟩ := axa3 ha_w136 A X Y_
         replace X : Ext w136 w136 := Ext.refl _
         refine ⟨(Bar.of_ahead ha_w136), ?_⟩
         refine ⟨?_, ?_⟩
         ·replace h := h _ X A
          refine Calls.mono h ?_
          clear h
          rintro e56 w138 ⟨s79, he_, ha_w138, h⟩
          refine ⟨s79, he_, ?_⟩
          clear he_
          obtain ⟨B1, B2, B37⟩ := ah3 ha_w138 B1 B2 B37
          obtain ⟨A, X, Y_⟩ := axa3 ha_w138 A X Y_
          replace X : Ext w138 w138 := Ext.refl _
          refine ⟨(Bar.of_ahead ha_w138), ?_⟩
          refine ⟨?_, ?_⟩
          ·replace h := h _ X A
           refine Calls.mono h ?_
           clear h
           rintro e57 w140 ⟨b66, s80, he_, ha_w140, h⟩
           refine ⟨b66, s80, he_, ?_⟩
           clear he_
           obtain ⟨B1, B2, B37⟩ := ah3 ha_w140 B1 B2 B37
           obtain ⟨A, X, Y_⟩ := axa3 ha_w140 A X Y_
           replace X : Ext w140 w140 := Ext.refl _
           refine ⟨(Bar.of_ahead ha_w140), ?_⟩
           refine ⟨?_, ?_⟩
           ·replace h := h _ X A
            refine Calls.mono h ?_
            clear h
            rintro e58 w142 ⟨b67, s81, b68, s82, he_, ha_w142, h⟩
            refine ⟨b67, s81, b68, s82, he_, ?_⟩
            clear he_
            obtain ⟨B1, B2, B37⟩ := ah3 ha_w142 B1 B2 B37
            obtain ⟨A, X, Y_⟩ := axa3 ha_w142 A X Y_
            replace X : Ext w142 w142 := Ext.refl _
            refine newC_t fun bk38 u116 hb38 ha_u116 _ B38 => ?_
            have g38 := le_eq A.size hb38
            obtain ⟨_, _, _⟩ := lt3 hb38 B1 B2 B37
            have y38 := le_eq Y_ hb38
            obtain ⟨B1, B2, B37⟩ := ah3 ha_u116 B1 B2 B37
            obtain ⟨A, X, Y_⟩ := axa3 ha_u116 A X Y_
            refine ⟨(Bar.of_ahead ha_u116), ?_⟩
            refine st2_t B38 rfl rfl rfl fun u117 k_u117 B38 => ?_
            obtain ⟨B1, B2, B37⟩ := up3 k_u117 B1 B2 B37
            obtain ⟨A, X, Y_⟩ := axu3 k_u117 g38 A X Y_
            refine st2_t B37 rfl rfl rfl fun u118 k_u118 B37 => ?_
            obtain ⟨B1, B2, B38⟩ := up3 k_u118 B1 B2 B38
            obtain ⟨A, X, Y_⟩ := axu3 k_u118 g37 A X Y_
            refine ldB_t 0 B38 rfl ?_
            refine ldS_t 1 B38 rfl ?_
            refine st2_t B2 rfl rfl rfl fun u119 k_u119 B2 => ?_
            obtain ⟨B1, B37, B38⟩ := up3 k_u119 B1 B37 B38
            obtain ⟨A, X⟩ := axu2 k_u119 g2 A X
            refine ldB_t 0 B2 rfl ?_
            refine ldS_t 1 B2 rfl ?_
            replace h := h _ X A
            exact ⟨A, h⟩
           ·refine newC_t fun bk39 u120 hb39 ha_u120 _ B39 => ?_
            have g39 := le_eq A.size hb39
            obtain ⟨_, _, _⟩ := lt3 hb39 B1 B2 B37
            have y39 := le_eq Y_ hb39
            obtain ⟨B1, B2, B37⟩ := ah3 ha_u120 B1 B2 B37
            obtain ⟨A, X, Y_⟩ := axa3 ha_u120 A X Y_
            refine ⟨(Bar.of_ahead ha_u120), ?_⟩
            replace h := h _ X A
            refine Calls.mono h ?_
            clear h
            rintro e59 w145 ⟨b69, s83, b70, s84, he_, ha_w145, h⟩
            refine ⟨b69, s83, b70, s84, he_, ?_⟩
            clear he_
            obtain ⟨B1, B2, B37, B39⟩ := ah4 ha_w145 B1 B2 B37 B39
            obtain ⟨A, X, Y_⟩ := axa3 ha_w145 A X Y_
            replace X : Ext w145 w145 := Ext.refl _
            refine st2_t B39 rfl rfl rfl fun u121 k_u121 B39 => ?_
            obtain ⟨B1, B2, B37⟩ := up3 k_u121 B1 B2 B37
            obtain ⟨A, X, Y_⟩ := axu3 k_u121 g39 A X Y_
            refine st2_t B37 rfl rfl rfl fun u122 k_u122 B37 => ?_
            obtain ⟨B1, B2, B39⟩ := up3 k_u122 B1 B2 B39
            obtain ⟨A, X, Y_⟩ := axu3 k_u122 g37 A X Y_
            refine ldB_t 0 B39 rfl ?_
            refine ldS_t 1 B39 rfl ?_
            refine st2_t B2 rfl rfl rfl fun u123 k_u123 B2 => ?_
            obtain ⟨B1, B37, B39⟩ := up3 k_u123 B1 B37 B39
            obtain ⟨A, X⟩ := axu2 k_u123 g2 A X
            refine ldB_t 0 B2 rfl ?_
            refine ldS_t 1 B2 rfl ?_
            replace h := h _ X A
            exact ⟨A, h⟩
          ·refine newC_t fun bk40 u124 hb40 ha_u124 _ B40 => ?_
           have g40 := le_eq A.size hb40
           obtain ⟨_, _, _⟩ := lt3 hb40 B1 B2 B37
           have y40 := le_eq Y_ hb40
           obtain ⟨B1, B2, B37⟩ := ah3 ha_u124 B1 B2 B37
           obtain ⟨A, X, Y_⟩ := axa3 ha_u124 A X Y_
           refine ⟨(Bar.of_ahead ha_u124), ?_⟩
           replace h := h _ X A
           refine Calls.mono h ?_
           clear h
           rintro e60 w148 ⟨b71, s85, he_, ha_w148, h⟩
           refine ⟨b71, s85, he_, ?_⟩
           clear he_
           obtain ⟨B1, B2, B37, B40⟩ := ah4 ha_w148 B1 B2 B37 B40
           obtain ⟨A, X, Y_⟩ := axa3 ha_w148 A X Y_
           replace X : Ext w148 w148 := Ext.refl _
           refine ⟨(Bar.of_ahead ha_w148), ?_⟩
           replace h := h _ X A
           refine Calls.mono h ?_
           clear h
           rintro e61 w150 ⟨b72, s86, b73, s87, he_, ha_w150, h⟩
           refine ⟨b72, s86, b73, s87, he_, ?_⟩
           clear he_
           obtain ⟨B1, B2, B37, B40⟩ := ah4 ha_w150 B1 B2 B37 B40
           obtain ⟨A, X, Y_⟩ := axa3 ha_w150 A X Y_
           replace X : Ext w150 w150 := Ext.refl _
           refine st2_t B40 rfl rfl rfl fun u125 k_u125 B40 => ?_
           obtain ⟨B1, B2, B37⟩ := up3 k_u125 B1 B2 B37
           obtain ⟨A, X, Y_⟩ := axu3 k_u125 g40 A X Y_
           refine st2_t B37 rfl rfl rfl fun u126 k_u126 B37 => ?_
           obtain ⟨B1, B2, B40⟩ := up3 k_u126 B1 B2 B40
           obtain ⟨A, X, Y_⟩ := axu3 k_u126 g37 A X Y_
           refine ldB_t 0 B40 rfl ?_
           refine ldS_t 1 B40 rfl ?_
           refine st2_t B2 rfl rfl rfl fun u127 k_u127 B2 => ?_
           obtain ⟨B1, B37, B40⟩ := up3 k_u127 B1 B37 B40
           obtain ⟨A, X⟩ := axu2 k_u127 g2 A X
           refine ldB_t 0 B2 rfl ?_
           refine ldS_t 1 B2 rfl ?_
           replace h := h _ X A
           exact ⟨A, h⟩
         ·refine newC_t fun bk41 u128 hb41 ha_u128 _ B41 => ?_
          have g41 := le_eq A.size hb41
          obtain ⟨_, _, _⟩ := lt3 hb41 B1 B2 B37
          have y41 := le_eq Y_ hb41
          obtain ⟨B1, B2, B37⟩ := ah3 ha_u128 B1 B2 B37
          obtain ⟨A, X, Y_⟩ := axa3 ha_u128 A X Y_
          refine ⟨(Bar.of_ahead ha_u128), ?_⟩
          replace h := h _ X A
          refine Calls.mono h ?_
          clear h
          rintro e62 w153 ⟨s88, he_, ha_w153, h⟩
          refine ⟨s88, he_, ?_⟩
          clear he_
          obtain ⟨B1, B2, B37, B41⟩ := ah4 ha_w153 B1 B2 B37 B41
          obtain ⟨A, X, Y_⟩ := axa3 ha_w153 A X Y_
          replace X : Ext w153 w153 := Ext.refl _
          refine ⟨(Bar.of_ahead ha_w153), ?_⟩
          replace h := h _ X A
          refine Calls.mono h ?_
          clear h
          rintro e63 w155 ⟨b74, s89, he_, ha_w155, h⟩
          refine ⟨b74, s89, he_, ?_⟩
          clear he_
          obtain ⟨B1, B2, B37, B41⟩ := ah4 ha_w155 B1 B2 B37 B41
          obtain ⟨A, X, Y_⟩ := axa3 ha_w155 A X Y_
          replace X : Ext w155 w155 := Ext.refl _
          refine ⟨(Bar.of_ahead ha_w155), ?_⟩
          replace h := h _ X A
          refine Calls.mono h ?_
          clear h
          rintro e64 w157 ⟨b75, s90, b76, s91, he_, ha_w157, h⟩
          refine ⟨b75, s90, b76, s91, he_, ?_⟩
          clear he_
          obtain ⟨B1, B2, B37, B41⟩ := ah4 ha_w157 B1 B2 B37 B41
          obtain ⟨A, X, Y_⟩ := axa3 ha_w157 A X Y_
          replace X : Ext w157 w157 := Ext.refl _
          refine st2_t B41 rfl rfl rfl fun u129 k_u129 B41 => ?_
          obtain ⟨B1, B2, B37⟩ := up3 k_u129 B1 B2 B37
          obtain ⟨A, X, Y_⟩ := axu3 k_u129 g41 A X Y_
          refine st2_t B37 rfl rfl rfl fun u130 k_u130 B37 => ?_
          obtain ⟨B1, B2, B41⟩ := up3 k_u130 B1 B2 B41
          obtain ⟨A, X, Y_⟩ := axu3 k_u130 g37 A X Y_
          refine ldB_t 0 B41 rfl ?_
          refine ldS_t 1 B41 rfl ?_
          refine st2_t B2 rfl rfl rfl fun u131 k_u131 B2 => ?_
          obtain ⟨B1, B37, B41⟩ := up3 k_u131 B1 B37 B41
          obtain ⟨A, X⟩ := axu2 k_u131 g2 A X
          refine ldB_t 0 B2 rfl ?_
          refine ldS_t 1 B2 rfl ?_
          replace h := h _ X A
          exact ⟨A, h⟩
        ·refine newC_t fun bk42 u132 hb42 ha_u132 _ B42 => ?_
         have g42 := le_eq A.size hb42
         obtain ⟨_, _, _⟩ := lt3 hb42 B1 B2 B37
         have y42 := le_eq Y_ hb42
         obtain ⟨B1, B2, B37⟩ := ah3 ha_u132 B1 B2 B37
         obtain ⟨A, X, Y_⟩ := axa3 ha_u132 A X Y_
         refine ⟨(Bar.of_ahead ha_u132), ?_⟩
         replace h := h _ X A
         refine Calls.mono h ?_
         clear h
         rintro e65 w160 ⟨s92, he_, ha_w160, h⟩
         refine ⟨s92, he_, ?_⟩
         clear he_
         obtain ⟨B1, B2, B37, B42⟩ := ah4 ha_w160 B1 B2 B37 B42
         obtain ⟨A, X, Y_⟩ := axa3 ha_w160 A X Y_
         replace X : Ext w160 w160 := Ext.refl _
         refine ⟨(Bar.of_ahead ha_w160), ?_⟩
         replace h := h _ X A
         refine Calls.mono h ?_
         clear h
         rintro e66 w162 ⟨s93, he_, ha_w162, h⟩
         refine ⟨s93, he_, ?_⟩
         clear he_
         obtain ⟨B1, B2, B37, B42⟩ := ah4 ha_w162 B1 B2 B37 B42
         obtain ⟨A, X, Y_⟩ := axa3 ha_w162 A X Y_
         replace X : Ext w162 w162 := Ext.refl _
         refine ⟨(Bar.of_ahead ha_w162), ?_⟩
         replace h := h _ X A
         refine Calls.mono h ?_
         clear h
         rintro e67 w164 ⟨b77, s94, he_, ha_w164, h⟩
         refine ⟨b77, s94, he_, ?_⟩
         clear he_
         obtain ⟨B1, B2, B37, B42⟩ := ah4 ha_w164 B1 B2 B37 B42
         obtain ⟨A, X, Y_⟩ := axa3 ha_w164 A X Y_
         replace X : Ext w164 w164 := Ext.refl _
         refine ⟨(Bar.of_ahead ha_w164), ?_⟩
         replace h := h _ X A
         refine Calls.mono h ?_
         clear h
         rintro e68 w166 ⟨b78, s95, b79, s96, he_, ha_w166, h⟩
         refine ⟨b78, s95, b79, s96, he_, ?_⟩
         clear he_
         obtain ⟨B1, B2, B37, B42⟩ := ah4 ha_w166 B1 B2 B37 B42
         obtain ⟨A, X, Y_⟩ := axa3 ha_w166 A X Y_
         replace X : Ext w166 w166 := Ext.refl _
         refine st2_t B42 rfl rfl rfl fun u133 k_u133 B42 => ?_
         obtain ⟨B1, B2, B37⟩ := up3 k_u133 B1 B2 B37
         obtain ⟨A, X, Y_⟩ := axu3 k_u133 g42 A X Y_
         refine st2_t B37 rfl rfl rfl fun u134 k_u134 B37 => ?_
         obtain ⟨B1, B2, B42⟩ := up3 k_u134 B1 B2 B42
         obtain ⟨A, X, Y_⟩ := axu3 k_u134 g37 A X Y_
         refine ldB_t 0 B42 rfl ?_
         refine ldS_t 1 B42 rfl ?_
         refine st2_t B2 rfl rfl rfl fun u135 k_u135 B2 => ?_
         obtain ⟨B1, B37, B42⟩ := up3 k_u135 B1 B37 B42
         obtain ⟨A, X⟩ := axu2 k_u135 g2 A X
         refine ldB_t 0 B2 rfl ?_
         refine ldS_t 1 B2 rfl ?_
         replace h := h _ X A
         exact ⟨A, h⟩

end Go.Proofs.YtlkjgafnjmfgiaaDoor
namespace Go.Proofs.YtlkjgafnjmfgiaaDoor
open Go Go.RowKit Eng Sp Dg L2
set_option linter.unusedVariables false
set_option linter.unusedSimpArgs false
set_option maxRecDepth 100000
namespace Dy
open _root_.Go.Proofs.YtlkjgafnjmfgiaaDoor.Nat (OwnNil Num Num.bl OwnNil.mono OwnNil.ext OwnNil.rd OwnNil.ahead OwnNil.nil digs_len_bl num_of Yes Norm_spec len_num)
open _root_.Go.Proofs.YtlkjgafnjmfgiaaDoor.Ref (RN RN.nil RN.ext RN.ahead Len_spec Shl_spec Int_spec Lent Lent.ahead Lent.ext Lent.whole len_mono bl_len32 len32 Bk)
open Sb

theorem bl_shl {x n : Nat} (h : x ≠ 0) : bl (x * 2 ^ n) = n + bl x := by
  have := bl_add_pow (t := 0) (k := n) h (Nat.pow_pos (by omega))
  rw [Nat.zero_add, Nat.mul_comm] at this
  exact this
theorem digs_len_bl32 {N m : Nat} (h : bl N ≤ 32 * m) : (digs B32 N).length ≤ m := digs_length_le two32 (by rw [b32_pow]; exact bl_le_iff.1 h)

theorem zShift_spec {w : World} {s : Slc} {z n : Int} (r : RN w s z.natAbs) (hn : 0 ≤ n) (h1 : n ≤ 9223372036854775807) (hl : (digs B32 z.natAbs).length + n.toNat / 32 + 1 ≤ 2 ^ 45) :
    Calls pr surdref06_Shift_id #[.agg (c2 (zb z) s), .int .i64 n] w fun e w' => Ahead w w' ∧ ZRet (z * 2 ^ n.toNat) e w' := by
  refine surdref06_Shift_v2 (zb z) s n w _ (br_true (decide_eq_true hn) fun w1 x1 a1 => Calls.mono (Shl_spec (r.ahead a1) hn h1 hl) ?_)
  rintro e w2 ⟨h2, s1, rfl, r1⟩
  refine ⟨_, rfl, h2, Calls.mono (make1_spec r1) ?_⟩
  rintro e w3 ⟨h3, rfl, r3⟩
  have es : sg (zb z) (z.natAbs * 2 ^ n.toNat) = z * 2 ^ n.toNat := by
    have h1 := sg_zb z
    conv => rhs; rw [← h1]
    unfold sg
    split
    · rw [Int.neg_mul]; push_cast; rfl
    · push_cast; rfl
  refine ⟨_, _, rfl, h3, fun w4 x4 a4 => ⟨s1, ?_, ?_⟩⟩
  · rw [← es, zb_sg]
  · rw [← es, sg_abs]; exact r3.ext x4

end Dy
end Go.Proofs.YtlkjgafnjmfgiaaDoor
namespace Go.Proofs.YtlkjgafnjmfgiaaDoor
open Go Go.RowKit Eng L2
set_option linter.unusedVariables false
set_option maxHeartbeats 2000000
set_option maxRecDepth 100000

/-- surd/dyadic.Neg: function 9, its local variables as values. -/
theorem dyadic_Neg_v2 (a0_a_0 : Bool) (a0_a_1 : Slc) (a0_a_2 : Int) (w : World) (R : Ending → World → Prop)
    
    (h : ∀ w1, Ext w w1 → Ahead w w1 →
    (Calls Tryd.prog 24 #[Value.agg #[Value.bool a0_a_0, a0_a_1.v, Value.int .i64 a0_a_2]] w1 fun e1 w2 =>
     ∃ b1 : Bool, ∃ s1 : Slc, ∃ x1 : Int, ∃ x2 : Int, e1 = .returned (Value.tuple #[Value.agg #[Value.bool b1, s1.v, Value.int .i64 x1], Value.int .i64 x2]) ∧ Ahead w1 w2 ∧
     (br (x2 != 0)
      (∀ w3, Ext w2 w3 → Ahead w w3 →
       (R (.returned (Value.tuple #[Value.agg #[Value.bool (false), ((⟨none, 0, 0⟩ : Slc)).v, Value.int .i64 (0 : Int)], Value.int .i64 x2])) w3))
      (∀ w4, Ext w2 w4 → Ahead w w4 →
       (Calls Tryd.prog 28 #[Value.agg #[Value.bool (!b1), s1.v], Value.int .i64 x1] w4 fun e2 w5 =>
        ∃ b2 : Bool, ∃ s2 : Slc, ∃ x3 : Int, ∃ x4 : Int, e2 = .returned (Value.tuple #[Value.agg #[Value.bool b2, s2.v, Value.int .i64 x3], Value.int .i64 x4]) ∧ Ahead w4 w5 ∧
        (∀ w6, Ext w5 w6 → Ahead w w6 →
         (R (.returned (Value.tuple #[Value.agg #[Value.bool b2, s2.v, Value.int .i64 x3], Value.int .i64 x4])) w6)))))))
     :
    Calls Tryd.prog 9 #[Value.agg #[Value.bool a0_a_0, a0_a_1.v, Value.int .i64 a0_a_2]] w (fun e_ w_ => Ahead w w_ ∧ R e_ w_) := by
  refine dyadic_Neg_vc a0_a_0 a0_a_1 a0_a_2 w _  ?_
  · have A : Ahead w w := Ahead.refl w
    have X : Ext w w := Ext.refl w
    refine newC_t fun bk1 u1 hb1 ha_u1 _ B1 => ?_
    have g1 := le_eq A.size hb1
    obtain ⟨A, X⟩ := axa2 ha_u1 A X
    refine newC_t fun bk2 u2 hb2 ha_u2 _ B2 => ?_
    have g2 := le_eq A.size hb2
    have l1_2 := lt1 hb2 B1
    replace B1 := B1.ahead ha_u2
    obtain ⟨A, X⟩ := axa2 ha_u2 A X
    refine ldB_t 0 B1 rfl ?_
    refine ldS_t 1 B1 rfl ?_
    refine ldI_t 2 B1 rfl ?_
    replace h := h _ X A
    refine Calls.mono h ?_
    clear h
    rintro e1 w2 ⟨b1, s1, x1, x2, he_, ha_w2, h⟩
    refine ⟨b1, s1, x1, x2, he_, ?_⟩
    clear he_
    obtain ⟨B1, B2⟩ := ah2 ha_w2 B1 B2
    obtain ⟨A, X⟩ := axa2 ha_w2 A X
    replace X : Ext w2 w2 := Ext.refl _
    refine newC_t fun bk3 u3 hb3 ha_u3 _ B3 => ?_
    have g3 := le_eq A.size hb3
    obtain ⟨_, _⟩ := lt2 hb3 B1 B2
    obtain ⟨B1, B2⟩ := ah2 ha_u3 B1 B2
    obtain ⟨A, X⟩ := axa2 ha_u3 A X
    refine st3_t B3 rfl rfl rfl rfl fun u4 k_u4 B3 => ?_
    obtain ⟨B1, B2⟩ := up2 k_u4 B1 B2
    obtain ⟨A, X⟩ := axu2 k_u4 g3 A X
    refine br_map h (fun h_ => ?_) (fun h_ => ?_)
    ·clear h
     have h := h_
     clear h_
     refine st3_t B2 rfl rfl rfl rfl fun u5 k_u5 B2 => ?_
     obtain ⟨B1, B3⟩ := up2 k_u5 B1 B3
     obtain ⟨A, X⟩ := axu2 k_u5 g2 A X
     refine ldB_t 0 B2 rfl ?_
     refine ldS_t 1 B2 rfl ?_
     refine ldI_t 2 B2 rfl ?_
     replace h := h _ X A
     exact ⟨A, h⟩
    ·clear h
     have h := h_
     clear h_
     refine ldB_t 0 B3 rfl ?_
     refine stC_t 0 B3 rfl rfl rfl fun u6 k_u6 B3_ => ?_
     replace B3 : Blt u6 bk3 63 #[Value.bool (!b1), s1.v, Value.int .i64 x1] := B3_
     clear B3_
     obtain ⟨B1, B2⟩ := up2 k_u6 B1 B2
     obtain ⟨A, X⟩ := axu2 k_u6 g3 A X
     refine ldB_t 0 B3 rfl ?_
     refine ldS_t 1 B3 rfl ?_
     refine ldI_t 2 B3 rfl ?_
     replace h := h _ X A
     refine Calls.mono h ?_
     clear h
     rintro e2 w5 ⟨b2, s2, x3, x4, he_, ha_w5, h⟩
     refine ⟨b2, s2, x3, x4, he_, ?_⟩
     clear he_
     obtain ⟨B1, B2, B3⟩ := ah3 ha_w5 B1 B2 B3
     obtain ⟨A, X⟩ := axa2 ha_w5 A X
     replace X : Ext w5 w5 := Ext.refl _
     refine st3_t B2 rfl rfl rfl rfl fun u7 k_u7 B2 => ?_
     obtain ⟨B1, B3⟩ := up2 k_u7 B1 B3
     obtain ⟨A, X⟩ := axu2 k_u7 g2 A X
     refine ldB_t 0 B2 rfl ?_
     refine ldS_t 1 B2 rfl ?_
     refine ldI_t 2 B2 rfl ?_
     replace h := h _ X A
     exact ⟨A, h⟩

/-- surd/surdref06.Cmp: function 31, its local variables as values. -/
theorem surdref06_Cmp_v2 (a0_a_0 : Bool) (a0_a_1 : Slc) (a1_b_0 : Bool) (a1_b_1 : Slc) (w : World) (R : Ending → World → Prop)
    
    (h : br (!(a0_a_0 == a1_b_0))
    (br a0_a_0
     (∀ w1, Ext w w1 → Ahead w w1 →
      (R (.returned (Value.int .i64 (-1))) w1))
     (∀ w2, Ext w w2 → Ahead w w2 →
      (R (.returned (Value.int .i64 1)) w2)))
    (∀ w3, Ext w w3 → Ahead w w3 →
     (Calls Tryd.prog 47 #[a0_a_1.v, a1_b_1.v] w3 fun e1 w4 =>
      ∃ x1 : Int, e1 = .returned (Value.int .i64 x1) ∧ Ahead w3 w4 ∧
      (br a0_a_0
       (R (.returned (Value.int .i64 (IntKind.i64.wrap (0 - x1)))) w4)
       (R (.returned (Value.int .i64 x1)) w4)))))
     :
    Calls Tryd.prog 31 #[Value.agg #[Value.bool a0_a_0, a0_a_1.v], Value.agg #[Value.bool a1_b_0, a1_b_1.v]] w (fun e_ w_ => Ahead w w_ ∧ R e_ w_) := by
  refine surdref06_Cmp_vc a0_a_0 a0_a_1 a1_b_0 a1_b_1 w _  ?_
  · have A : Ahead w w := Ahead.refl w
    have X : Ext w w := Ext.refl w
    refine newC_t fun bk1 u1 hb1 ha_u1 _ B1 => ?_
    have g1 := le_eq A.size hb1
    obtain ⟨A, X⟩ := axa2 ha_u1 A X
    refine newC_t fun bk2 u2 hb2 ha_u2 _ B2 => ?_
    have g2 := le_eq A.size hb2
    have l1_2 := lt1 hb2 B1
    replace B1 := B1.ahead ha_u2
    obtain ⟨A, X⟩ := axa2 ha_u2 A X
    refine ldB_t 0 B1 rfl ?_
    refine ldB_t 0 B2 rfl ?_
    refine br_map h (fun h_ => ?_) (fun h_ => ?_)
    ·clear h
     have h := h_
     clear h_
     refine ldB_t 0 B1 rfl ?_
     refine br_map h (fun h_ => ?_) (fun h_ => ?_)
     ·clear h
      have h := h_
      clear h_
      replace h := h _ X A
      exact ⟨A, h⟩
     ·clear h
      have h := h_
      clear h_
      replace h := h _ X A
      exact ⟨A, h⟩
    ·clear h
     have h := h_
     clear h_
     refine ldS_t 1 B1 rfl ?_
     refine ldS_t 1 B2 rfl ?_
     replace h := h _ X A
     refine Calls.mono h ?_
     clear h
     rintro e1 w4 ⟨x1, he_, ha_w4, h⟩
     refine ⟨x1, he_, ?_⟩
     clear he_
     obtain ⟨B1, B2⟩ := ah2 ha_w4 B1 B2
     obtain ⟨A, X⟩ := axa2 ha_w4 A X
     replace X : Ext w4 w4 := Ext.refl _
     refine ldB_t 0 B1 rfl ?_
     refine br_map h (fun h_ => ?_) (fun h_ => ?_)
     ·clear h
      have h := h_
      clear h_
      exact ⟨A, h⟩
     ·clear h
      have h := h_
      clear h_
      exact ⟨A, h⟩

/-- surd/surdref08.Cmp: function 12, its local variables as values. -/
theorem surdref08_Cmp_v2 (a0_a_0 : Bool) (a0_a_1 : Slc) (a0_a_2 : Int) (a1_b_0 : Bool) (a1_b_1 : Slc) (a1_b_2 : Int) (w : World) (R : Ending → World → Prop)
    
    (h : ∀ w1, Ext w w1 → Ahead w w1 →
    (Calls Tryd.prog 29 #[Value.agg #[Value.bool a0_a_0, a0_a_1.v]] w1 fun e1 w2 =>
     ∃ x1 : Int, e1 = .returned (Value.int .i64 x1) ∧ Ahead w1 w2 ∧
     (Calls Tryd.prog 29 #[Value.agg #[Value.bool a1_b_0, a1_b_1.v]] w2 fun e2 w3 =>
      ∃ x2 : Int, e2 = .returned (Value.int .i64 x2) ∧ Ahead w2 w3 ∧
      (br (x1 != x2)
       (br (decide (x1 < x2))
        (R (.returned (Value.int .i64 (-1))) w3)
        (R (.returned (Value.int .i64 1)) w3))
       (br (x1 == 0)
        (R (.returned (Value.int .i64 0)) w3)
        (∀ w4, Ext w3 w4 → Ahead w w4 →
         (Calls Tryd.prog 30 #[Value.agg #[Value.bool a0_a_0, a0_a_1.v, Value.int .i64 a0_a_2]] w4 fun e3 w5 =>
          ∃ x3 : Int, e3 = .returned (Value.int .i64 x3) ∧ Ahead w4 w5 ∧
          (Calls Tryd.prog 30 #[Value.agg #[Value.bool a1_b_0, a1_b_1.v, Value.int .i64 a1_b_2]] w5 fun e4 w6 =>
           ∃ x4 : Int, e4 = .returned (Value.int .i64 x4) ∧ Ahead w5 w6 ∧
           (br (x3 != x4)
            (∀ w7, Ext w6 w7 → Ahead w w7 →
             (Calls Tryd.prog 30 #[Value.agg #[Value.bool a0_a_0, a0_a_1.v, Value.int .i64 a0_a_2]] w7 fun e5 w8 =>
              ∃ x5 : Int, e5 = .returned (Value.int .i64 x5) ∧ Ahead w7 w8 ∧
              (Calls Tryd.prog 30 #[Value.agg #[Value.bool a1_b_0, a1_b_1.v, Value.int .i64 a1_b_2]] w8 fun e6 w9 =>
               ∃ x6 : Int, e6 = .returned (Value.int .i64 x6) ∧ Ahead w8 w9 ∧
               (br (decide (x5 < x6))
                (R (.returned (Value.int .i64 (IntKind.i64.wrap (0 - x1)))) w9)
                (R (.returned (Value.int .i64 x1)) w9)))))
            (br (decide (a0_a_2 ≤ a1_b_2))
             (∀ w10, Ext w6 w10 → Ahead w w10 →
              (Calls Tryd.prog 32 #[Value.agg #[Value.bool a1_b_0, a1_b_1.v], Value.int .i64 (IntKind.i64.wrap (a1_b_2 - a0_a_2))] w10 fun e7 w11 =>
               ∃ b1 : Bool, ∃ s1 : Slc, e7 = .returned (Value.agg #[Value.bool b1, s1.v]) ∧ Ahead w10 w11 ∧
               (Calls Tryd.prog 31 #[Value.agg #[Value.bool a0_a_0, a0_a_1.v], Value.agg #[Value.bool b1, s1.v]] w11 fun e8 w12 =>
                ∃ x7 : Int, e8 = .returned (Value.int .i64 x7) ∧ Ahead w11 w12 ∧
                (R (.returned (Value.int .i64 x7)) w12))))
             (∀ w13, Ext w6 w13 → Ahead w w13 →
              (Calls Tryd.prog 32 #[Value.agg #[Value.bool a0_a_0, a0_a_1.v], Value.int .i64 (IntKind.i64.wrap (a0_a_2 - a1_b_2))] w13 fun e9 w14 =>
               ∃ b2 : Bool, ∃ s2 : Slc, e9 = .returned (Value.agg #[Value.bool b2, s2.v]) ∧ Ahead w13 w14 ∧
               (Calls Tryd.prog 31 #[Value.agg #[Value.bool b2, s2.v], Value.agg #[Value.bool a1_b_0, a1_b_1.v]] w14 fun e10 w15 =>
                ∃ x8 : Int, e10 = .returned (Value.int .i64 x8) ∧ Ahead w14 w15 ∧
                (R (.returned (Value.int .i64 x8)) w15))))))))))))))
     :
    Calls Tryd.prog 12 #[Value.agg #[Value.bool a0_a_0, a0_a_1.v, Value.int .i64 a0_a_2], Value.agg #[Value.bool a1_b_0, a1_b_1.v, Value.int .i64 a1_b_2]] w (fun e_ w_ => Ahead w w_ ∧ R e_ w_) := by
  refine surdref08_Cmp_vc a0_a_0 a0_a_1 a0_a_2 a1_b_0 a1_b_1 a1_b_2 w _  ?_
  · have A : Ahead w w := Ahead.refl w
    have X : Ext w w := Ext.refl w
    refine newC_t fun bk1 u1 hb1 ha_u1 _ B1 => ?_
    have g1 := le_eq A.size hb1
    obtain ⟨A, X⟩ := axa2 ha_u1 A X
    refine newC_t fun bk2 u2 hb2 ha_u2 _ B2 => ?_
    have g2 := le_eq A.size hb2
    have l1_2 := lt1 hb2 B1
    replace B1 := B1.ahead ha_u2
    obtain ⟨A, X⟩ := axa2 ha_u2 A X
    have hd_ := Sp.Ahead.drew u2
    obtain ⟨B1, B2⟩ := ah2 hd_ B1 B2
    obtain ⟨A, X⟩ := axa2 hd_ A X
    clear hd_
    refine ldB_t 0 B1 rfl ?_
    refine ldS_t 1 B1 rfl ?_
    refine ldB_t 0 B2 rfl ?_
    refine ldS_t 1 B2 rfl ?_
    replace h := h _ X A
    refine Calls.mono h ?_
    clear h
    rintro e1 w2 ⟨x1, he_, ha_w2, h⟩
    refine ⟨x1, he_, ?_⟩
    clear he_
    obtain ⟨B1, B2⟩ := ah2 ha_w2 B1 B2
    obtain ⟨A, X⟩ := axa2 ha_w2 A X
    replace X : Ext w2 w2 := Ext.refl _
    refine ⟨ha_w2, ?_⟩
    refine Calls.mono h ?_
    clear h
    rintro e2 w3 ⟨x2, he_, ha_w3, h⟩
    refine ⟨x2, he_, ?_⟩
    clear he_
    obtain ⟨B1, B2⟩ := ah2 ha_w3 B1 B2
    obtain ⟨A, X⟩ := axa2 ha_w3 A X
    replace X : Ext w3 w3 := Ext.refl _
    refine ⟨ha_w3, ?_⟩
    refine br_map h (fun h_ => ?_) (fun h_ => ?_)
    ·clear h
     have h := h_
     clear h_
     refine br_map h (fun h_ => ?_) (fun h_ => ?_)
     ·clear h
      have h := h_
      clear h_
      exact ⟨A, h⟩
     ·clear h
      have h := h_
      clear h_
      exact ⟨A, h⟩
    ·clear h
     have h := h_
     clear h_
     refine br_map h (fun h_ => ?_) (fun h_ => ?_)
     ·clear h
      have h := h_
      clear h_
      exact ⟨A, h⟩
     ·clear h
      have h := h_
      clear h_
      have hd_ := Sp.Ahead.drew w3
      obtain ⟨B1, B2⟩ := ah2 hd_ B1 B2
      obtain ⟨A, X⟩ := axa2 hd_ A X
      clear hd_
      refine ldB_t 0 B1 rfl ?_
      refine ldS_t 1 B1 rfl ?_
      refine ldI_t 2 B1 rfl ?_
      refine ldB_t 0 B2 rfl ?_
      refine ldS_t 1 B2 rfl ?_
      refine ldI_t 2 B2 rfl ?_
      replace h := h _ X A
      refine Calls.mono h ?_
      clear h
      rintro e3 w5 ⟨x3, he_, ha_w5, h⟩
      refine ⟨x3, he_, ?_⟩
      clear he_
      obtain ⟨B1, B2⟩ := ah2 ha_w5 B1 B2
      obtain ⟨A, X⟩ := axa2 ha_w5 A X
      replace X : Ext w5 w5 := Ext.refl _
      refine ⟨ha_w5, ?_⟩
      refine Calls.mono h ?_
      clear h
      rintro e4 w6 ⟨x4, he_, ha_w6, h⟩
      refine ⟨x4, he_, ?_⟩
      clear he_
      obtain ⟨B1, B2⟩ := ah2 ha_w6 B1 B2
      obtain ⟨A, X⟩ := axa2 ha_w6 A X
      replace X : Ext w6 w6 := Ext.refl _
      refine ⟨ha_w6, ?_⟩
      refine br_map h (fun h_ => ?_) (fun h_ => ?_)
      ·clear h
       have h := h_
       clear h_
       have hd_ := Sp.Ahead.drew w6
       obtain ⟨B1, B2⟩ := ah2 hd_ B1 B2
       obtain ⟨A, X⟩ := axa2 hd_ A X
       clear hd_
       refine ldB_t 0 B1 rfl ?_
       refine ldS_t 1 B1 rfl ?_
       refine ldI_t 2 B1 rfl ?_
       refine ldB_t 0 B2 rfl ?_
       refine ldS_t 1 B2 rfl ?_
       refine ldI_t 2 B2 rfl ?_
       replace h := h _ X A
       refine Calls.mono h ?_
       clear h
       rintro e5 w8 ⟨x5, he_, ha_w8, h⟩
       refine ⟨x5, he_, ?_⟩
       clear he_
       obtain ⟨B1, B2⟩ := ah2 ha_w8 B1 B2
       obtain ⟨A, X⟩ := axa2 ha_w8 A X
       replace X : Ext w8 w8 := Ext.refl _
       refine ⟨ha_w8, ?_⟩
       refine Calls.mono h ?_
       clear h
       rintro e6 w9 ⟨x6, he_, ha_w9, h⟩
       refine ⟨x6, he_, ?_⟩
       clear he_
       obtain ⟨B1, B2⟩ := ah2 ha_w9 B1 B2
       obtain ⟨A, X⟩ := axa2 ha_w9 A X
       replace X : Ext w9 w9 := Ext.refl _
       refine ⟨ha_w9, ?_⟩
       refine br_map h (fun h_ => ?_) (fun h_ => ?_)
       ·clear h
        have h := h_
        clear h_
        exact ⟨A, h⟩
       ·clear h
        have h := h_
        clear h_
        exact ⟨A, h⟩
      ·clear h
       have h := h_
       clear h_
       refine ldI_t 2 B1 rfl ?_
       refine ldI_t 2 B2 rfl ?_
       refine br_map h (fun h_ => ?_) (fun h_ => ?_)
       ·clear h
        have h := h_
        clear h_
        have hd_ := Sp.Ahead.drew w6
        obtain ⟨B1, B2⟩ := ah2 hd_ B1 B2
        obtain ⟨A, X⟩ := axa2 hd_ A X
        clear hd_
        refine ldB_t 0 B1 rfl ?_
        refine ldS_t 1 B1 rfl ?_
        refine ldB_t 0 B2 rfl ?_
        refine ldS_t 1 B2 rfl ?_
        refine ldI_t 2 B2 rfl ?_
        refine ldI_t 2 B1 rfl ?_
        replace h := h _ X A
        refine Calls.mono h ?_
        clear h
        rintro e7 w11 ⟨b1, s1, he_, ha_w11, h⟩
        refine ⟨b1, s1, he_, ?_⟩
        clear he_
        obtain ⟨B1, B2⟩ := ah2 ha_w11 B1 B2
        obtain ⟨A, X⟩ := axa2 ha_w11 A X
        replace X : Ext w11 w11 := Ext.refl _
        refine ⟨ha_w11, ?_⟩
        refine Calls.mono h ?_
        clear h
        rintro e8 w12 ⟨x7, he_, ha_w12, h⟩
        refine ⟨x7, he_, ?_⟩
        clear he_
        obtain ⟨B1, B2⟩ := ah2 ha_w12 B1 B2
        obtain ⟨A, X⟩ := axa2 ha_w12 A X
        replace X : Ext w12 w12 := Ext.refl _
        refine ⟨ha_w12, ?_⟩
        exact ⟨A, h⟩
       ·clear h
        have h := h_
        clear h_
        have hd_ := Sp.Ahead.drew w6
        obtain ⟨B1, B2⟩ := ah2 hd_ B1 B2
        obtain ⟨A, X⟩ := axa2 hd_ A X
        clear hd_
        refine ldB_t 0 B1 rfl ?_
        refine ldS_t 1 B1 rfl ?_
        refine ldI_t 2 B1 rfl ?_
        refine ldI_t 2 B2 rfl ?_
        refine ldB_t 0 B2 rfl ?_
        refine ldS_t 1 B2 rfl ?_
        replace h := h _ X A
        refine Calls.mono h ?_
        clear h
        rintro e9 w14 ⟨b2, s2, he_, ha_w14, h⟩
        refine ⟨b2, s2, he_, ?_⟩
        clear he_
        obtain ⟨B1, B2⟩ := ah2 ha_w14 B1 B2
        obtain ⟨A, X⟩ := axa2 ha_w14 A X
        replace X : Ext w14 w14 := Ext.refl _
        refine ⟨ha_w14, ?_⟩
        refine Calls.mono h ?_
        clear h
        rintro e10 w15 ⟨x8, he_, ha_w15, h⟩
        refine ⟨x8, he_, ?_⟩
        clear he_
        obtain ⟨B1, B2⟩ := ah2 ha_w15 B1 B2
        obtain ⟨A, X⟩ := axa2 ha_w15 A X
        replace X : Ext w15 w15 := Ext.refl _
        refine ⟨ha_w15, ?_⟩
        exact ⟨A, h⟩

/-- surd/surdref08.Add: function 16, its local variables as values. -/
theorem surdref08_Add_v2 (a0_a_0 : Bool) (a0_a_1 : Slc) (a0_a_2 : Int) (a1_b_0 : Bool) (a1_b_1 : Slc) (a1_b_2 : Int) (w : World) (R : Ending → World → Prop)
    
    (h : ∀ w1, Ext w w1 → Ahead w w1 →
    (Calls Tryd.prog 29 #[Value.agg #[Value.bool a0_a_0, a0_a_1.v]] w1 fun e1 w2 =>
     ∃ x1 : Int, e1 = .returned (Value.int .i64 x1) ∧ Ahead w1 w2 ∧
     (br (x1 == 0)
      (∀ w3, Ext w2 w3 → Ahead w w3 →
       (R (.returned (Value.tuple #[Value.agg #[Value.bool a1_b_0, a1_b_1.v, Value.int .i64 a1_b_2], Value.bool true])) w3))
      (Calls Tryd.prog 29 #[Value.agg #[Value.bool a1_b_0, a1_b_1.v]] w2 fun e2 w4 =>
       ∃ x2 : Int, e2 = .returned (Value.int .i64 x2) ∧ Ahead w2 w4 ∧
       (br (x2 == 0)
        (∀ w5, Ext w4 w5 → Ahead w w5 →
         (R (.returned (Value.tuple #[Value.agg #[Value.bool a0_a_0, a0_a_1.v, Value.int .i64 a0_a_2], Value.bool true])) w5))
        (br (decide (a0_a_2 < a1_b_2))
         (∀ w6, Ext w4 w6 → Ahead w w6 →
          (Calls Tryd.prog 35 #[a0_a_1.v] w6 fun e3 w7 =>
           ∃ x3 : Int, e3 = .returned (Value.int .i64 x3) ∧ Ahead w6 w7 ∧
           (br (decide ((IntKind.i64.wrap (a1_b_2 - a0_a_2)) > (IntKind.i64.wrap ((IntKind.i64.wrap (67108864 + x3)) + 2))))
            (∀ w8, Ext w7 w8 → Ahead w w8 →
             (R (.returned (Value.tuple #[Value.agg #[Value.bool (false), ((⟨none, 0, 0⟩ : Slc)).v, Value.int .i64 (0 : Int)], Value.bool false])) w8))
            (∀ w9, Ext w7 w9 → Ahead w w9 →
             (Calls Tryd.prog 32 #[Value.agg #[Value.bool a1_b_0, a1_b_1.v], Value.int .i64 (IntKind.i64.wrap (a1_b_2 - a0_a_2))] w9 fun e4 w10 =>
              ∃ b1 : Bool, ∃ s1 : Slc, e4 = .returned (Value.agg #[Value.bool b1, s1.v]) ∧ Ahead w9 w10 ∧
              (Calls Tryd.prog 36 #[Value.agg #[Value.bool b1, s1.v], Value.agg #[Value.bool a0_a_0, a0_a_1.v]] w10 fun e5 w11 =>
               ∃ b2 : Bool, ∃ s2 : Slc, e5 = .returned (Value.agg #[Value.bool b2, s2.v]) ∧ Ahead w10 w11 ∧
               (Calls Tryd.prog 19 #[Value.agg #[Value.bool b2, s2.v], Value.int .i64 a0_a_2] w11 fun e6 w12 =>
                ∃ b3 : Bool, ∃ s3 : Slc, ∃ x4 : Int, e6 = .returned (Value.agg #[Value.bool b3, s3.v, Value.int .i64 x4]) ∧ Ahead w11 w12 ∧
                (∀ w13, Ext w12 w13 → Ahead w w13 →
                 (R (.returned (Value.tuple #[Value.agg #[Value.bool b3, s3.v, Value.int .i64 x4], Value.bool true])) w13)))))))))
         (Calls Tryd.prog 35 #[a1_b_1.v] w4 fun e7 w14 =>
          ∃ x5 : Int, e7 = .returned (Value.int .i64 x5) ∧ Ahead w4 w14 ∧
          (br (decide ((IntKind.i64.wrap (a0_a_2 - a1_b_2)) > (IntKind.i64.wrap ((IntKind.i64.wrap (67108864 + x5)) + 2))))
           (∀ w15, Ext w14 w15 → Ahead w w15 →
            (R (.returned (Value.tuple #[Value.agg #[Value.bool (false), ((⟨none, 0, 0⟩ : Slc)).v, Value.int .i64 (0 : Int)], Value.bool false])) w15))
           (∀ w16, Ext w14 w16 → Ahead w w16 →
            (Calls Tryd.prog 32 #[Value.agg #[Value.bool a0_a_0, a0_a_1.v], Value.int .i64 (IntKind.i64.wrap (a0_a_2 - a1_b_2))] w16 fun e8 w17 =>
             ∃ b4 : Bool, ∃ s4 : Slc, e8 = .returned (Value.agg #[Value.bool b4, s4.v]) ∧ Ahead w16 w17 ∧
             (Calls Tryd.prog 36 #[Value.agg #[Value.bool b4, s4.v], Value.agg #[Value.bool a1_b_0, a1_b_1.v]] w17 fun e9 w18 =>
              ∃ b5 : Bool, ∃ s5 : Slc, e9 = .returned (Value.agg #[Value.bool b5, s5.v]) ∧ Ahead w17 w18 ∧
              (Calls Tryd.prog 19 #[Value.agg #[Value.bool b5, s5.v], Value.int .i64 a1_b_2] w18 fun e10 w19 =>
               ∃ b6 : Bool, ∃ s6 : Slc, ∃ x6 : Int, e10 = .returned (Value.agg #[Value.bool b6, s6.v, Value.int .i64 x6]) ∧ Ahead w18 w19 ∧
               (∀ w20, Ext w19 w20 → Ahead w w20 →
                (R (.returned (Value.tuple #[Value.agg #[Value.bool b6, s6.v, Value.int .i64 x6], Value.bool true])) w20))))))))))))))
     :
    Calls Tryd.prog 16 #[Value.agg #[Value.bool a0_a_0, a0_a_1.v, Value.int .i64 a0_a_2], Value.agg #[Value.bool a1_b_0, a1_b_1.v, Value.int .i64 a1_b_2]] w (fun e_ w_ => Ahead w w_ ∧ R e_ w_) := by
  refine surdref08_Add_vc a0_a_0 a0_a_1 a0_a_2 a1_b_0 a1_b_1 a1_b_2 w _  ?_
  · have A : Ahead w w := Ahead.refl w
    have X : Ext w w := Ext.refl w
    refine newC_t fun bk1 u1 hb1 ha_u1 _ B1 => ?_
    have g1 := le_eq A.size hb1
    obtain ⟨A, X⟩ := axa2 ha_u1 A X
    refine newC_t fun bk2 u2 hb2 ha_u2 _ B2 => ?_
    have g2 := le_eq A.size hb2
    have l1_2 := lt1 hb2 B1
    replace B1 := B1.ahead ha_u2
    obtain ⟨A, X⟩ := axa2 ha_u2 A X
    refine newC_t fun bk3 u3 hb3 ha_u3 _ B3 => ?_
    have g3 := le_eq A.size hb3
    obtain ⟨_, _⟩ := lt2 hb3 B1 B2
    obtain ⟨B1, B2⟩ := ah2 ha_u3 B1 B2
    obtain ⟨A, X⟩ := axa2 ha_u3 A X
    refine ldB_t 0 B1 rfl ?_
    refine ldS_t 1 B1 rfl ?_
    replace h := h _ X A
    refine Calls.mono h ?_
    clear h
    rintro e1 w2 ⟨x1, he_, ha_w2, h⟩
    refine ⟨x1, he_, ?_⟩
    clear he_
    obtain ⟨B1, B2, B3⟩ := ah3 ha_w2 B1 B2 B3
    obtain ⟨A, X⟩ := axa2 ha_w2 A X
    replace X : Ext w2 w2 := Ext.refl _
    refine br_map h (fun h_ => ?_) (fun h_ => ?_)
    ·clear h
     have h := h_
     clear h_
     refine ldB_t 0 B2 rfl ?_
     refine ldS_t 1 B2 rfl ?_
     refine ldI_t 2 B2 rfl ?_
     refine st3_t B3 rfl rfl rfl rfl fun u4 k_u4 B3 => ?_
     obtain ⟨B1, B2⟩ := up2 k_u4 B1 B2
     obtain ⟨A, X⟩ := axu2 k_u4 g3 A X
     refine ldB_t 0 B3 rfl ?_
     refine ldS_t 1 B3 rfl ?_
     refine ldI_t 2 B3 rfl ?_
     replace h := h _ X A
     exact ⟨A, h⟩
    ·clear h
     have h := h_
     clear h_
     refine ldB_t 0 B2 rfl ?_
     refine ldS_t 1 B2 rfl ?_
     refine Calls.mono h ?_
     clear h
     rintro e2 w4 ⟨x2, he_, ha_w4, h⟩
     refine ⟨x2, he_, ?_⟩
     clear he_
     obtain ⟨B1, B2, B3⟩ := ah3 ha_w4 B1 B2 B3
     obtain ⟨A, X⟩ := axa2 ha_w4 A X
     replace X : Ext w4 w4 := Ext.refl _
     refine br_map h (fun h_ => ?_) (fun h_ => ?_)
     ·clear h
      have h := h_
      clear h_
      refine ldB_t 0 B1 rfl ?_
      refine ldS_t 1 B1 rfl ?_
      refine ldI_t 2 B1 rfl ?_
      refine st3_t B3 rfl rfl rfl rfl fun u5 k_u5 B3 => ?_
      obtain ⟨B1, B2⟩ := up2 k_u5 B1 B2
      obtain ⟨A, X⟩ := axu2 k_u5 g3 A X
      refine ldB_t 0 B3 rfl ?_
      refine ldS_t 1 B3 rfl ?_
      refine ldI_t 2 B3 rfl ?_
      replace h := h _ X A
      exact ⟨A, h⟩
     ·clear h
      have h := h_
      clear h_
      refine ldI_t 2 B1 rfl ?_
      refine ldI_t 2 B2 rfl ?_
      refine br_map h (fun h_ => ?_) (fun h_ => ?_)
      ·clear h
       have h := h_
       clear h_
       refine ldB_t 0 B2 rfl ?_
       refine ldS_t 1 B2 rfl ?_
       refine ldI_t 2 B2 rfl ?_
       refine ldB_t 0 B1 rfl ?_
       refine ldS_t 1 B1 rfl ?_
       refine ldI_t 2 B1 rfl ?_
       refine st3_t B1 rfl rfl rfl rfl fun u6 k_u6 B1 => ?_
       obtain ⟨B2, B3⟩ := up2 k_u6 B2 B3
       obtain ⟨A, X⟩ := axu2 k_u6 g1 A X
       refine st3_t B2 rfl rfl rfl rfl fun u7 k_u7 B2 => ?_
       obtain ⟨B1, B3⟩ := up2 k_u7 B1 B3
       obtain ⟨A, X⟩ := axu2 k_u7 g2 A X
       refine ldI_t 2 B1 rfl ?_
       refine ldI_t 2 B2 rfl ?_
       refine ldS_t 1 B2 rfl ?_
       replace h := h _ X A
       refine Calls.mono h ?_
       clear h
       rintro e3 w7 ⟨x3, he_, ha_w7, h⟩
       refine ⟨x3, he_, ?_⟩
       clear he_
       obtain ⟨B1, B2, B3⟩ := ah3 ha_w7 B1 B2 B3
       obtain ⟨A, X⟩ := axa2 ha_w7 A X
       replace X : Ext w7 w7 := Ext.refl _
       refine br_map h (fun h_ => ?_) (fun h_ => ?_)
       ·clear h
        have h := h_
        clear h_
        refine st3_t B3 rfl rfl rfl rfl fun u8 k_u8 B3 => ?_
        obtain ⟨B1, B2⟩ := up2 k_u8 B1 B2
        obtain ⟨A, X⟩ := axu2 k_u8 g3 A X
        refine ldB_t 0 B3 rfl ?_
        refine ldS_t 1 B3 rfl ?_
        refine ldI_t 2 B3 rfl ?_
        replace h := h _ X A
        exact ⟨A, h⟩
       ·clear h
        have h := h_
        clear h_
        have hd_ := Sp.Ahead.drew w7
        obtain ⟨B1, B2, B3⟩ := ah3 hd_ B1 B2 B3
        obtain ⟨A, X⟩ := axa2 hd_ A X
        clear hd_
        refine ldB_t 0 B1 rfl ?_
        refine ldS_t 1 B1 rfl ?_
        refine ldB_t 0 B2 rfl ?_
        refine ldS_t 1 B2 rfl ?_
        refine ldI_t 2 B2 rfl ?_
        replace h := h _ X A
        refine Calls.mono h ?_
        clear h
        rintro e4 w10 ⟨b1, s1, he_, ha_w10, h⟩
        refine ⟨b1, s1, he_, ?_⟩
        clear he_
        obtain ⟨B1, B2, B3⟩ := ah3 ha_w10 B1 B2 B3
        obtain ⟨A, X⟩ := axa2 ha_w10 A X
        replace X : Ext w10 w10 := Ext.refl _
        refine ⟨ha_w10, ?_⟩
        refine Calls.mono h ?_
        clear h
        rintro e5 w11 ⟨b2, s2, he_, ha_w11, h⟩
        refine ⟨b2, s2, he_, ?_⟩
        clear he_
        obtain ⟨B1, B2, B3⟩ := ah3 ha_w11 B1 B2 B3
        obtain ⟨A, X⟩ := axa2 ha_w11 A X
        replace X : Ext w11 w11 := Ext.refl _
        refine ⟨ha_w11, ?_⟩
        refine Calls.mono h ?_
        clear h
        rintro e6 w12 ⟨b3, s3, x4, he_, ha_w12, h⟩
        refine ⟨b3, s3, x4, he_, ?_⟩
        clear he_
        obtain ⟨B1, B2, B3⟩ := ah3 ha_w12 B1 B2 B3
        obtain ⟨A, X⟩ := axa2 ha_w12 A X
        replace X : Ext w12 w12 := Ext.refl _
        refine ⟨ha_w12, ?_⟩
        refine st3_t B3 rfl rfl rfl rfl fun u9 k_u9 B3 => ?_
        obtain ⟨B1, B2⟩ := up2 k_u9 B1 B2
        obtain ⟨A, X⟩ := axu2 k_u9 g3 A X
        refine ldB_t 0 B3 rfl ?_
        refine ldS_t 1 B3 rfl ?_
        refine ldI_t 2 B3 rfl ?_
        replace h := h _ X A
        exact ⟨A, h⟩
      ·clear h
       have h := h_
       clear h_
       refine ldI_t 2 B1 rfl ?_
       refine ldI_t 2 B2 rfl ?_
       refine ldS_t 1 B2 rfl ?_
       refine Calls.mono h ?_
       clear h
       rintro e7 w14 ⟨x5, he_, ha_w14, h⟩
       refine ⟨x5, he_, ?_⟩
       clear he_
       obtain ⟨B1, B2, B3⟩ := ah3 ha_w14 B1 B2 B3
       obtain ⟨A, X⟩ := axa2 ha_w14 A X
       replace X : Ext w14 w14 := Ext.refl _
       refine br_map h (fun h_ => ?_) (fun h_ => ?_)
       ·clear h
        have h := h_
        clear h_
        refine st3_t B3 rfl rfl rfl rfl fun u10 k_u10 B3 => ?_
        obtain ⟨B1, B2⟩ := up2 k_u10 B1 B2
        obtain ⟨A, X⟩ := axu2 k_u10 g3 A X
        refine ldB_t 0 B3 rfl ?_
        refine ldS_t 1 B3 rfl ?_
        refine ldI_t 2 B3 rfl ?_
        replace h := h _ X A
        exact ⟨A, h⟩
       ·clear h
        have h := h_
        clear h_
        have hd_ := Sp.Ahead.drew w14
        obtain ⟨B1, B2, B3⟩ := ah3 hd_ B1 B2 B3
        obtain ⟨A, X⟩ := axa2 hd_ A X
        clear hd_
        refine ldB_t 0 B1 rfl ?_
        refine ldS_t 1 B1 rfl ?_
        refine ldB_t 0 B2 rfl ?_
        refine ldS_t 1 B2 rfl ?_
        refine ldI_t 2 B2 rfl ?_
        replace h := h _ X A
        refine Calls.mono h ?_
        clear h
        rintro e8 w17 ⟨b4, s4, he_, ha_w17, h⟩
        refine ⟨b4, s4, he_, ?_⟩
        clear he_
        obtain ⟨B1, B2, B3⟩ := ah3 ha_w17 B1 B2 B3
        obtain ⟨A, X⟩ := axa2 ha_w17 A X
        replace X : Ext w17 w17 := Ext.refl _
        refine ⟨ha_w17, ?_⟩
        refine Calls.mono h ?_
        clear h
        rintro e9 w18 ⟨b5, s5, he_, ha_w18, h⟩
        refine ⟨b5, s5, he_, ?_⟩
        clear he_
        obtain ⟨B1, B2, B3⟩ := ah3 ha_w18 B1 B2 B3
        obtain ⟨A, X⟩ := axa2 ha_w18 A X
        replace X : Ext w18 w18 := Ext.refl _
        refine ⟨ha_w18, ?_⟩
        refine Calls.mono h ?_
        clear h
        rintro e10 w19 ⟨b6, s6, x6, he_, ha_w19, h⟩
        refine ⟨b6, s6, x6, he_, ?_⟩
        clear he_
        obtain ⟨B1, B2, B3⟩ := ah3 ha_w19 B1 B2 B3
        obtain ⟨A, X⟩ := axa2 ha_w19 A X
        replace X : Ext w19 w19 := Ext.refl _
        refine ⟨ha_w19, ?_⟩
        refine st3_t B3 rfl rfl rfl rfl fun u11 k_u11 B3 => ?_
        obtain ⟨B1, B2⟩ := up2 k_u11 B1 B2
        obtain ⟨A, X⟩ := axu2 k_u11 g3 A X
        refine ldB_t 0 B3 rfl ?_
        refine ldS_t 1 B3 rfl ?_
        refine ldI_t 2 B3 rfl ?_
        replace h := h _ X A
        exact ⟨A, h⟩

/-- surd/surdref08.Neg: function 17, its local variables as values. -/
theorem surdref08_Neg_v2 (a0_a_0 : Bool) (a0_a_1 : Slc) (a0_a_2 : Int) (w : World) (R : Ending → World → Prop)
    
    (h : ∀ w1, Ext w w1 → Ahead w w1 →
    (Calls Tryd.prog 37 #[Value.agg #[Value.bool a0_a_0, a0_a_1.v]] w1 fun e1 w2 =>
     ∃ b1 : Bool, ∃ s1 : Slc, e1 = .returned (Value.agg #[Value.bool b1, s1.v]) ∧ Ahead w1 w2 ∧
     (∀ w3, Ext w2 w3 → Ahead w w3 →
      (R (.returned (Value.agg #[Value.bool b1, s1.v, Value.int .i64 a0_a_2])) w3))))
     :
    Calls Tryd.prog 17 #[Value.agg #[Value.bool a0_a_0, a0_a_1.v, Value.int .i64 a0_a_2]] w (fun e_ w_ => Ahead w w_ ∧ R e_ w_) := by
  refine surdref08_Neg_vc a0_a_0 a0_a_1 a0_a_2 w _  ?_
  · have A : Ahead w w := Ahead.refl w
    have X : Ext w w := Ext.refl w
    refine newC_t fun bk1 u1 hb1 ha_u1 _ B1 => ?_
    have g1 := le_eq A.size hb1
    obtain ⟨A, X⟩ := axa2 ha_u1 A X
    refine newC_t fun bk2 u2 hb2 ha_u2 _ B2 => ?_
    have g2 := le_eq A.size hb2
    have l1_2 := lt1 hb2 B1
    replace B1 := B1.ahead ha_u2
    obtain ⟨A, X⟩ := axa2 ha_u2 A X
    have hd_ := Sp.Ahead.drew u2
    obtain ⟨B1, B2⟩ := ah2 hd_ B1 B2
    obtain ⟨A, X⟩ := axa2 hd_ A X
    clear hd_
    refine ldB_t 0 B1 rfl ?_
    refine ldS_t 1 B1 rfl ?_
    refine ldI_t 2 B1 rfl ?_
    replace h := h _ X A
    refine Calls.mono h ?_
    clear h
    rintro e1 w2 ⟨b1, s1, he_, ha_w2, h⟩
    refine ⟨b1, s1, he_, ?_⟩
    clear he_
    obtain ⟨B1, B2⟩ := ah2 ha_w2 B1 B2
    obtain ⟨A, X⟩ := axa2 ha_w2 A X
    replace X : Ext w2 w2 := Ext.refl _
    refine ⟨ha_w2, ?_⟩
    refine st3_t B2 rfl rfl rfl rfl fun u3 k_u3 B2 => ?_
    replace B1 := up1 k_u3 B1
    obtain ⟨A, X⟩ := axu2 k_u3 g2 A X
    refine ldB_t 0 B2 rfl ?_
    refine ldS_t 1 B2 rfl ?_
    refine ldI_t 2 B2 rfl ?_
    replace h := h _ X A
    exact ⟨A, h⟩

/-- surd/surdlaw08.read: function 11, its local variables as values. -/
theorem surdlaw08_read_v2 (a0_a_0 : Bool) (a0_a_1 : Slc) (a0_a_2 : Int) (w : World) (R : Ending → World → Prop)
    
    (h : ∀ w1, Ext w w1 → Ahead w w1 →
    (Calls Tryd.prog 20 #[Value.bool a0_a_0, a0_a_1.v] w1 fun e1 w2 =>
     ∃ b1 : Bool, ∃ s1 : Slc, e1 = .returned (Value.agg #[Value.bool b1, s1.v]) ∧ Ahead w1 w2 ∧
     (Calls Tryd.prog 19 #[Value.agg #[Value.bool b1, s1.v], Value.int .i64 a0_a_2] w2 fun e2 w3 =>
      ∃ b2 : Bool, ∃ s2 : Slc, ∃ x1 : Int, e2 = .returned (Value.agg #[Value.bool b2, s2.v, Value.int .i64 x1]) ∧ Ahead w2 w3 ∧
      (∀ w4, Ext w3 w4 → Ahead w w4 →
       (R (.returned (Value.agg #[Value.bool b2, s2.v, Value.int .i64 x1])) w4)))))
     :
    Calls Tryd.prog 11 #[Value.agg #[Value.bool a0_a_0, a0_a_1.v, Value.int .i64 a0_a_2]] w (fun e_ w_ => Ahead w w_ ∧ R e_ w_) := by
  refine surdlaw08_read_vc a0_a_0 a0_a_1 a0_a_2 w _  ?_
  · have A : Ahead w w := Ahead.refl w
    have X : Ext w w := Ext.refl w
    refine newC_t fun bk1 u1 hb1 ha_u1 _ B1 => ?_
    have g1 := le_eq A.size hb1
    obtain ⟨A, X⟩ := axa2 ha_u1 A X
    refine newC_t fun bk2 u2 hb2 ha_u2 _ B2 => ?_
    have g2 := le_eq A.size hb2
    have l1_2 := lt1 hb2 B1
    replace B1 := B1.ahead ha_u2
    obtain ⟨A, X⟩ := axa2 ha_u2 A X
    have hd_ := Sp.Ahead.drew u2
    obtain ⟨B1, B2⟩ := ah2 hd_ B1 B2
    obtain ⟨A, X⟩ := axa2 hd_ A X
    clear hd_
    refine ldB_t 0 B1 rfl ?_
    refine ldS_t 1 B1 rfl ?_
    refine ldI_t 2 B1 rfl ?_
    replace h := h _ X A
    refine Calls.mono h ?_
    clear h
    rintro e1 w2 ⟨b1, s1, he_, ha_w2, h⟩
    refine ⟨b1, s1, he_, ?_⟩
    clear he_
    obtain ⟨B1, B2⟩ := ah2 ha_w2 B1 B2
    obtain ⟨A, X⟩ := axa2 ha_w2 A X
    replace X : Ext w2 w2 := Ext.refl _
    refine ⟨ha_w2, ?_⟩
    refine Calls.mono h ?_
    clear h
    rintro e2 w3 ⟨b2, s2, x1, he_, ha_w3, h⟩
    refine ⟨b2, s2, x1, he_, ?_⟩
    clear he_
    obtain ⟨B1, B2⟩ := ah2 ha_w3 B1 B2
    obtain ⟨A, X⟩ := axa2 ha_w3 A X
    replace X : Ext w3 w3 := Ext.refl _
    refine ⟨ha_w3, ?_⟩
    refine st3_t B2 rfl rfl rfl rfl fun u3 k_u3 B2 => ?_
    replace B1 := up1 k_u3 B1
    obtain ⟨A, X⟩ := axu2 k_u3 g2 A X
    refine ldB_t 0 B2 rfl ?_
    refine ldS_t 1 B2 rfl ?_
    refine ldI_t 2 B2 rfl ?_
    replace h := h _ X A
    exact ⟨A, h⟩

/-- surd/surdlaw08.same: function 13, its local variables as values. -/
theorem surdlaw08_same_v2 (a0_a_0 : Bool) (a0_a_1 : Slc) (a0_a_2 : Int) (a1_b_0 : Bool) (a1_b_1 : Slc) (a1_b_2 : Int) (w : World) (R : Ending → World → Prop)
    
    (h : ∀ w1, Ext w w1 → Ahead w w1 →
    (Calls Tryd.prog 20 #[Value.bool a0_a_0, a0_a_1.v] w1 fun e1 w2 =>
     ∃ b1 : Bool, ∃ s1 : Slc, e1 = .returned (Value.agg #[Value.bool b1, s1.v]) ∧ Ahead w1 w2 ∧
     (Calls Tryd.prog 33 #[Value.agg #[Value.bool b1, s1.v], Value.bool a1_b_0, a1_b_1.v] w2 fun e2 w3 =>
      ∃ b2 : Bool, e2 = .returned (Value.bool b2) ∧ Ahead w2 w3 ∧
      (br b2
       (R (.returned (Value.bool (a0_a_2 == a1_b_2))) w3)
       (R (.returned (Value.bool false)) w3)))))
     :
    Calls Tryd.prog 13 #[Value.agg #[Value.bool a0_a_0, a0_a_1.v, Value.int .i64 a0_a_2], Value.agg #[Value.bool a1_b_0, a1_b_1.v, Value.int .i64 a1_b_2]] w (fun e_ w_ => Ahead w w_ ∧ R e_ w_) := by
  refine surdlaw08_same_vc a0_a_0 a0_a_1 a0_a_2 a1_b_0 a1_b_1 a1_b_2 w _  ?_
  · have A : Ahead w w := Ahead.refl w
    have X : Ext w w := Ext.refl w
    refine newC_t fun bk1 u1 hb1 ha_u1 _ B1 => ?_
    have g1 := le_eq A.size hb1
    obtain ⟨A, X⟩ := axa2 ha_u1 A X
    refine newC_t fun bk2 u2 hb2 ha_u2 _ B2 => ?_
    have g2 := le_eq A.size hb2
    have l1_2 := lt1 hb2 B1
    replace B1 := B1.ahead ha_u2
    obtain ⟨A, X⟩ := axa2 ha_u2 A X
    have hd_ := Sp.Ahead.drew u2
    obtain ⟨B1, B2⟩ := ah2 hd_ B1 B2
    obtain ⟨A, X⟩ := axa2 hd_ A X
    clear hd_
    refine ldB_t 0 B1 rfl ?_
    refine ldS_t 1 B1 rfl ?_
    refine ldB_t 0 B2 rfl ?_
    refine ldS_t 1 B2 rfl ?_
    replace h := h _ X A
    refine Calls.mono h ?_
    clear h
    rintro e1 w2 ⟨b1, s1, he_, ha_w2, h⟩
    refine ⟨b1, s1, he_, ?_⟩
    clear he_
    obtain ⟨B1, B2⟩ := ah2 ha_w2 B1 B2
    obtain ⟨A, X⟩ := axa2 ha_w2 A X
    replace X : Ext w2 w2 := Ext.refl _
    refine ⟨ha_w2, ?_⟩
    refine Calls.mono h ?_
    clear h
    rintro e2 w3 ⟨b2, he_, ha_w3, h⟩
    refine ⟨b2, he_, ?_⟩
    clear he_
    obtain ⟨B1, B2⟩ := ah2 ha_w3 B1 B2
    obtain ⟨A, X⟩ := axa2 ha_w3 A X
    replace X : Ext w3 w3 := Ext.refl _
    refine ⟨ha_w3, ?_⟩
    refine br_map h (fun h_ => ?_) (fun h_ => ?_)
    ·clear h
     have h := h_
     clear h_
     refine ldI_t 2 B1 rfl ?_
     refine ldI_t 2 B2 rfl ?_
     exact ⟨A, h⟩
    ·clear h
     have h := h_
     clear h_
     exact ⟨A, h⟩

/-- surd/surdlaw08.at: function 14, its local variables as values. -/
theorem surdlaw08_at_v2 (a0_d_0 : Bool) (a0_d_1 : Slc) (a0_d_2 : Int) (a1_pos : Int) (w : World) (R : Ending → World → Prop)
    
    (h : ∀ w1, Ext w w1 → Ahead w w1 →
    (Calls Tryd.prog 29 #[Value.agg #[Value.bool a0_d_0, a0_d_1.v]] w1 fun e1 w2 =>
     ∃ x1 : Int, e1 = .returned (Value.int .i64 x1) ∧ Ahead w1 w2 ∧
     (br (x1 == 0)
      (R (.returned (Value.bool true)) w2)
      (R (.returned (Value.bool (decide (a0_d_2 ≥ a1_pos)))) w2))))
     :
    Calls Tryd.prog 14 #[Value.agg #[Value.bool a0_d_0, a0_d_1.v, Value.int .i64 a0_d_2], Value.int .i64 a1_pos] w (fun e_ w_ => Ahead w w_ ∧ R e_ w_) := by
  refine surdlaw08_at_vc a0_d_0 a0_d_1 a0_d_2 a1_pos w _  ?_
  · have A : Ahead w w := Ahead.refl w
    have X : Ext w w := Ext.refl w
    refine newC_t fun bk1 u1 hb1 ha_u1 _ B1 => ?_
    have g1 := le_eq A.size hb1
    obtain ⟨A, X⟩ := axa2 ha_u1 A X
    refine ldB_t 0 B1 rfl ?_
    refine ldS_t 1 B1 rfl ?_
    replace h := h _ X A
    refine Calls.mono h ?_
    clear h
    rintro e1 w2 ⟨x1, he_, ha_w2, h⟩
    refine ⟨x1, he_, ?_⟩
    clear he_
    replace B1 := B1.ahead ha_w2
    obtain ⟨A, X⟩ := axa2 ha_w2 A X
    replace X : Ext w2 w2 := Ext.refl _
    refine br_map h (fun h_ => ?_) (fun h_ => ?_)
    ·clear h
     have h := h_
     clear h_
     exact ⟨A, h⟩
    ·clear h
     have h := h_
     clear h_
     refine ldI_t 2 B1 rfl ?_
     exact ⟨A, h⟩

end Go.Proofs.YtlkjgafnjmfgiaaDoor
namespace Go.Proofs.YtlkjgafnjmfgiaaDoor
open Go Go.RowKit Eng Sp Dg L2
set_option linter.unusedVariables false
set_option linter.unusedSimpArgs false
set_option maxRecDepth 100000
namespace Dy
open _root_.Go.Proofs.YtlkjgafnjmfgiaaDoor.Nat (OwnNil Num Num.bl OwnNil.mono OwnNil.ext OwnNil.rd OwnNil.ahead OwnNil.nil digs_len_bl num_of Yes)
open _root_.Go.Proofs.YtlkjgafnjmfgiaaDoor.Ref (RN RN.nil RN.ext RN.ahead Len_spec Shl_spec Int_spec Cmp_spec len_mono bl_len32)
open Sb

def cmpZ (a b : Int) : Int := if a < b then -1 else if a = b then 0 else 1
/-- A dyadic's steps of 2^b. -/
def dv (z e b : Int) : Int := z * ((2 ^ (e - b).toNat : Nat) : Int)
def dcmp (z e z' e' : Int) : Int := cmpZ (dv z e (min e e')) (dv z' e' (min e e'))
theorem sg_mul (neg : Bool) (n m : Nat) : sg neg n * (m : Int) = sg neg (n * m) := by
  unfold sg; cases neg <;> simp [Int.neg_mul]
theorem dv_sg (neg : Bool) (n : Nat) (e b : Int) : dv (sg neg n) e b = sg neg (n * 2 ^ (e - b).toNat) := sg_mul neg n _
theorem two_pos (k : Nat) : 0 < 2 ^ k := Nat.pow_pos (by omega)
theorem mul2_zero {n k : Nat} : n * 2 ^ k = 0 ↔ n = 0 := by
  have := two_pos k
  constructor
  · intro h
    rcases Nat.mul_eq_zero.1 h with h | h
    · exact h
    · omega
  · intro h; rw [h, Nat.zero_mul]
theorem sgn_mul2 (neg : Bool) (n k : Nat) : sgn neg (n * 2 ^ k) = sgn neg n := by
  unfold sgn
  by_cases h : n = 0
  · rw [if_pos h, if_pos (mul2_zero.2 h)]
  · rw [if_neg h, if_neg (fun h' => h (mul2_zero.1 h'))]
theorem cmpZ_sg (neg neg' : Bool) (A B : Nat) : cmpZ (sg neg A) (sg neg' B) = if sgn neg A < sgn neg' B then -1 else if sgn neg' B < sgn neg A then 1 else if sgn neg A = 0 then 0 else sgn neg A * cmpI A B := by
  unfold cmpZ sg sgn cmpI
  by_cases hA : A = 0 <;> by_cases hB : B = 0 <;> cases neg <;> cases neg' <;> simp [hA, hB] <;> (repeat' split) <;> omega
theorem lt_of_bl {A B : Nat} (h : bl A < bl B) : A < B := by
  rcases Nat.lt_or_ge A B with h1 | h1
  · exact h1
  · have := bl_mono h1; omega
def calg (s : Int) (n : Nat) (e s' : Int) (n' : Nat) (e' : Int) : Int :=
  if s < s' then -1 else if s' < s then 1 else if s = 0 then 0 else if e + bl n ≠ e' + bl n' then (if e + bl n < e' + bl n' then -s else s) else
    if e' < e then s * cmpI (n * 2 ^ (e - e').toNat) n' else s * cmpI n (n' * 2 ^ (e' - e).toNat)
theorem cmpI_lt {a b : Nat} (h : a < b) : cmpI a b = -1 := if_pos h
theorem cmpI_gt {a b : Nat} (h : b < a) : cmpI a b = 1 := by rw [cmpI, if_neg (by omega), if_pos h]
theorem calg_eq (neg : Bool) (n : Nat) (e : Int) (neg' : Bool) (n' : Nat) (e' : Int) : calg (sgn neg n) n e (sgn neg' n') n' e' = dcmp (sg neg n) e (sg neg' n') e' := by
  rw [dcmp, dv_sg, dv_sg, cmpZ_sg, sgn_mul2, sgn_mul2, calg]
  by_cases h1 : sgn neg n < sgn neg' n'
  · rw [if_pos h1, if_pos h1]
  rw [if_neg h1, if_neg h1]
  by_cases h2 : sgn neg' n' < sgn neg n
  · rw [if_pos h2, if_pos h2]
  rw [if_neg h2, if_neg h2]
  by_cases h3 : sgn neg n = 0
  · rw [if_pos h3, if_pos h3]
  rw [if_neg h3, if_neg h3]
  have hn : n ≠ 0 := fun h => h3 (sgn_zero_iff.2 h)
  have hn' : n' ≠ 0 := fun h => h3 (by have := sgn_zero_iff (neg := neg').2 h; omega)
  have b1 := bl_shl (n := (e - min e e').toNat) hn
  have b2 := bl_shl (n := (e' - min e e').toNat) hn'
  by_cases h4 : e + bl n ≠ e' + bl n'
  · rw [if_pos h4]
    by_cases h5 : e + bl n < e' + bl n'
    · rw [if_pos h5, cmpI_lt (lt_of_bl (by omega))]; omega
    · rw [if_neg h5, cmpI_gt (lt_of_bl (by omega))]; omega
  · rw [if_neg h4]
    by_cases h5 : e' < e
    · rw [if_pos h5, show min e e' = e' by omega, Int.sub_self]; simp
    · rw [if_neg h5, show min e e' = e by omega, Int.sub_self]; simp
theorem sgn_range (neg : Bool) (n : Nat) : -1 ≤ sgn neg n ∧ sgn neg n ≤ 1 := by unfold sgn; split <;> (try split) <;> omega
theorem cmpI_range (a b : Nat) : -1 ≤ cmpI a b ∧ cmpI a b ≤ 1 := by unfold cmpI; split <;> (try split) <;> omega
theorem shift_room32 {n n' k m : Nat} (h : bl n + k = bl n') (hm : (digs B32 n').length + 2 ≤ m) : (digs B32 n).length + k / 32 + 1 ≤ m := by
  have h1 := bl_len32 (ok_digs two32 n')
  rw [val_digs two32] at h1
  have h2 := digs_len_bl32 (N := n) (m := bl n / 32 + 1) (by omega)
  omega
def far (e : Int) : Prop := -2305843009213693952 ≤ e ∧ e ≤ 2305843009213693952
theorem num_digs {w : World} {s : Slc} {n : Nat} (r : Rd .u64 w s (nn (digs B64 n))) (h : (digs B64 n).length ≤ 2 ^ 44) : Num w s n := ⟨_, r, h, ok_digs two64 _, val_digs two64 _⟩

theorem zCmp_spec {w : World} {a b : Slc} {x y : Int} (ha : RN w a x.natAbs) (hb : RN w b y.natAbs) (la : (digs B32 x.natAbs).length ≤ 2 ^ 46) (lb : (digs B32 y.natAbs).length ≤ 2 ^ 46) :
    Calls pr surdref06_Cmp_id #[.agg (c2 (zb x) a), .agg (c2 (zb y) b)] w fun e w' => Ahead w w' ∧ e = .returned (.int .i64 (cmpZ x y)) := by
  refine surdref06_Cmp_v2 (zb x) a (zb y) b w _ (br_intro (fun hne => br_intro (fun hx => ?_) (fun hx => ?_)) (fun he => ?_))
  · intro w1 x1 a1
    have h1 : x < 0 := of_decide_eq_true hx
    have h2 : ¬ y < 0 := fun h => by
      have e1 : zb y = true := decide_eq_true h
      rw [hx, e1] at hne; simp at hne
    rw [cmpZ, if_pos (by omega)]
  · intro w1 x1 a1
    have h1 : ¬ x < 0 := of_decide_eq_false hx
    have h2 : y < 0 := by
      by_cases h : y < 0
      · exact h
      · have e1 : zb y = false := decide_eq_false h
        rw [hx, e1] at hne; simp at hne
    rw [cmpZ, if_neg (by omega), if_neg (by omega)]
  · have he' : zb x = zb y := by simpa using he
    intro w1 x1 a1
    refine Calls.mono (Cmp_spec (ha.ahead a1) (hb.ahead a1) la lb) ?_
    rintro e w2 ⟨h2, rfl⟩
    have hr := cmpI_range x.natAbs y.natAbs
    refine ⟨_, rfl, h2, br_intro (fun hx => ?_) (fun hx => ?_)⟩
    · have h1 : x < 0 := of_decide_eq_true hx
      have h2 : y < 0 := of_decide_eq_true (he'.symm.trans hx)
      rw [wrap_i64 (by omega) (by omega)]
      congr 2
      unfold cmpI cmpZ
      split <;> (try split) <;> (try split) <;> omega
    · have h1 : ¬ x < 0 := of_decide_eq_false hx
      have h2 : ¬ y < 0 := of_decide_eq_false (he'.symm.trans hx)
      congr 2
      unfold cmpI cmpZ
      split <;> (try split) <;> (try split) <;> omega
theorem dCmp_spec {w : World} {neg neg' : Bool} {s s' : Slc} {n n' : Nat} {e e' : Int} (r : RN w s n) (r' : RN w s' n') (hn : nD neg n = neg) (hn' : nD neg' n' = neg') (hl : (digs B32 n).length + 2 ≤ 2 ^ 45) (hl' : (digs B32 n').length + 2 ≤ 2 ^ 45) (he : far e) (he' : far e') :
    Calls pr surdref08_Cmp_id #[.agg (c3 neg s e), .agg (c3 neg' s' e')] w fun en w' => Ahead w w' ∧ en = .returned (.int .i64 (dcmp (sg neg n) e (sg neg' n') e')) := by
  unfold far at he he'
  have heq := calg_eq neg n e neg' n' e'
  have hb1 : bl n ≤ 2 ^ 51 := by
    have := bl_len32 (ok_digs two32 n)
    rw [val_digs two32] at this
    omega
  have hb2 : bl n' ≤ 2 ^ 51 := by
    have := bl_len32 (ok_digs two32 n')
    rw [val_digs two32] at this
    omega
  have sgs := fun w2 (h : Ahead w w2) => zSign_spec (neg := neg) (r.ahead h)
  have sgs' := fun w2 (h : Ahead w w2) => zSign_spec (neg := neg') (r'.ahead h)
  rw [hn] at sgs
  rw [hn'] at sgs'
  have hs1 := sgn_range neg n
  refine surdref08_Cmp_v2 neg s e neg' s' e' w _ fun w1 x1 a1 => Calls.mono (sgs w1 a1) ?_
  rintro en w2 ⟨h2, rfl⟩
  refine ⟨_, rfl, h2, Calls.mono (sgs' w2 (a1.trans h2)) ?_⟩
  rintro en w3 ⟨h3, rfl⟩
  unfold calg at heq
  refine ⟨_, rfl, h3, br_intro (fun h => br_intro (fun h4 => ?_) (fun h4 => ?_)) (fun h => br_intro (fun h5 => ?_) (fun h5 => ?_))⟩
  · rw [if_pos (of_decide_eq_true h4)] at heq
    rw [heq]
  · have h4' := of_decide_eq_false h4
    have h' : sgn neg n ≠ sgn neg' n' := fun h1 => by rw [h1] at h; simp at h
    rw [if_neg h4', if_pos (by omega)] at heq
    rw [heq]
  · have h' : sgn neg n = sgn neg' n' := by simpa using h
    rw [if_neg (by omega), if_neg (by omega), if_pos (eq_of_beq h5)] at heq
    rw [heq]
  · have h' : sgn neg n = sgn neg' n' := by simpa using h
    have h0 : sgn neg n ≠ 0 := fun h6 => by rw [h6] at h5; simp at h5
    rw [if_neg (by omega), if_neg (by omega), if_neg h0] at heq
    intro w4 x4 a4
    refine Calls.mono (dTop_spec (r.ahead a4) (by omega) (by omega)) ?_
    rintro en w5 ⟨h5', rfl⟩
    have a5 := a4.trans h5'
    refine ⟨_, rfl, h5', Calls.mono (dTop_spec (r'.ahead a5) (by omega) (by omega)) ?_⟩
    rintro en w6 ⟨h6, rfl⟩
    refine ⟨_, rfl, h6, br_intro (fun ht => ?_) (fun ht => br_intro (fun hg => ?_) (fun hg => ?_))⟩
    · have ht' : e + bl n ≠ e' + bl n' := fun h => by
        have : (bl n : Int) - 1 + e = bl n' - 1 + e' := by omega
        rw [this] at ht; simp at ht
      rw [if_pos ht'] at heq
      intro w7 x7 a7
      refine Calls.mono (dTop_spec (r.ahead a7) (by omega) (by omega)) ?_
      rintro en w8 ⟨h8, rfl⟩
      refine ⟨_, rfl, h8, Calls.mono (dTop_spec (r'.ahead (a7.trans h8)) (by omega) (by omega)) ?_⟩
      rintro en w9 ⟨h9, rfl⟩
      refine ⟨_, rfl, h9, br_intro (fun hl => ?_) (fun hl => ?_)⟩
      · have := of_decide_eq_true hl
        rw [if_pos (by omega)] at heq
        rw [wrap_i64 (by omega) (by omega), Int.zero_sub, heq]
      · have := of_decide_eq_false hl
        rw [if_neg (by omega)] at heq
        rw [heq]
    · have ht' : e + bl n = e' + bl n' := by have : (bl n : Int) - 1 + e = bl n' - 1 + e' := by simpa using ht
                                             omega
      have hg' := of_decide_eq_true hg
      intro w10 x10 a10
      rw [wrap_i64 (by omega) (by omega)]
      have hk := shift_room32 (n := n') (n' := n) (k := (e' - e).toNat) (by omega) hl
      have hz := zShift_spec (w := w10) (s := s') (z := sg neg' n') (n := e' - e) (by rw [sg_abs]; exact r'.ahead a10) (by omega) (by omega) (by rw [sg_abs]; omega)
      rw [zb_sg, hn'] at hz
      refine Calls.mono hz ?_
      rintro en w11 ⟨h11, s1, rfl, r1⟩
      have hsz : ((digs B32 (sg neg' n' * 2 ^ (e' - e).toNat).natAbs).length) ≤ 2 ^ 46 := by
        rw [show (2 : Int) ^ (e' - e).toNat = ((2 ^ (e' - e).toNat : Nat) : Int) by push_cast; rfl, sg_mul, sg_abs]
        by_cases h0 : n' = 0
        · rw [h0, Nat.zero_mul, digs_zero]; simp
        · have hb := bl_shl (n := (e' - e).toNat) h0
          have := digs_len_bl32 (N := n' * 2 ^ (e' - e).toNat) (m := 2 ^ 46) (by omega)
          omega
      have hc := zCmp_spec (w := w11) (a := s) (x := sg neg n) (by rw [sg_abs]; exact r.ahead (a10.trans h11)) r1 (by rw [sg_abs]; omega) hsz
      rw [zb_sg, hn] at hc
      refine ⟨_, _, rfl, h11, Calls.mono hc ?_⟩
      rintro en w12 ⟨h12, rfl⟩
      refine ⟨_, rfl, h12, ?_⟩
      rw [dcmp, show min e e' = e by omega, dv, dv, Int.sub_self]
      simp
    · have ht' : e + bl n = e' + bl n' := by have : (bl n : Int) - 1 + e = bl n' - 1 + e' := by simpa using ht
                                             omega
      have hg' := of_decide_eq_false hg
      intro w10 x10 a10
      rw [wrap_i64 (by omega) (by omega)]
      have hk := shift_room32 (n := n) (n' := n') (k := (e - e').toNat) (by omega) hl'
      have hz := zShift_spec (w := w10) (s := s) (z := sg neg n) (n := e - e') (by rw [sg_abs]; exact r.ahead a10) (by omega) (by omega) (by rw [sg_abs]; omega)
      rw [zb_sg, hn] at hz
      refine Calls.mono hz ?_
      rintro en w11 ⟨h11, s1, rfl, r1⟩
      have hsz : ((digs B32 (sg neg n * 2 ^ (e - e').toNat).natAbs).length) ≤ 2 ^ 46 := by
        rw [show (2 : Int) ^ (e - e').toNat = ((2 ^ (e - e').toNat : Nat) : Int) by push_cast; rfl, sg_mul, sg_abs]
        by_cases h0 : n = 0
        · rw [h0, Nat.zero_mul, digs_zero]; simp
        · have hb := bl_shl (n := (e - e').toNat) h0
          have := digs_len_bl32 (N := n * 2 ^ (e - e').toNat) (m := 2 ^ 46) (by omega)
          omega
      have hc := zCmp_spec (w := w11) (b := s') (y := sg neg' n') r1 (by rw [sg_abs]; exact r'.ahead (a10.trans h11)) hsz (by rw [sg_abs]; omega)
      rw [zb_sg neg' n', hn'] at hc
      refine ⟨_, _, rfl, h11, Calls.mono hc ?_⟩
      rintro en w12 ⟨h12, rfl⟩
      refine ⟨_, rfl, h12, ?_⟩
      rw [dcmp, show min e e' = e' by omega, dv, dv, Int.sub_self]
      simp

end Dy
end Go.Proofs.YtlkjgafnjmfgiaaDoor
namespace Go.Proofs.YtlkjgafnjmfgiaaDoor
open Go Go.RowKit Eng Sp Dg
set_option linter.unusedVariables false
set_option linter.unusedSimpArgs false
namespace Dy

/-- A number of steps, rounded to one of S steps each. -/
def rdm (m v : Int) (S : Nat) : Int := v / (S : Int) + if m = 0 then 0 else if m = 2 then (if nearUp v S = true then 1 else 0) else if v % (S : Int) ≠ 0 then 1 else 0
theorem rq_rdm {neg : Bool} {n gap : Nat} {m : Int} (hn : n % 2 = 1) (hg : 0 < gap) (hm : okM m) : sg neg (rq neg n gap m) = rdm m (sg neg n) (2 ^ gap) := by
  unfold okM at hm
  unfold rdm
  have : m = 0 ∨ m = 1 ∨ m = 2 := by omega
  rcases this with rfl | rfl | rfl
  · rw [if_pos rfl, Int.add_zero, down_odd hn hg]
  · rw [if_neg (by omega), if_neg (by omega), ← up_odd hn hg]
  · rw [if_neg (by omega), if_pos rfl, ← near_odd hn hg]
theorem rdm_scale {m v : Int} {S k : Nat} (hk : 0 < k) : rdm m (v * (k : Int)) (S * k) = rdm m v S := by
  have hk' : (0 : Int) < k := by omega
  have e1 : v * (k : Int) / ((S * k : Nat) : Int) = v / (S : Int) := by push_cast; exact Int.mul_ediv_mul_of_pos_left _ _ hk'
  have e2 : v * (k : Int) % ((S * k : Nat) : Int) = v % (S : Int) * k := by push_cast; rw [Int.mul_comm v, Int.mul_comm (S : Int), Int.mul_emod_mul_of_pos _ _ hk', Int.mul_comm]
  have e3 : (v % (S : Int) * k ≠ 0) ↔ (v % (S : Int) ≠ 0) := by
    constructor
    · intro h h1; rw [h1, Int.zero_mul] at h; exact h rfl
    · intro h h1
      rcases Int.mul_eq_zero.1 h1 with h2 | h2
      · exact h h2
      · omega
  have e4 : nearUp (v * (k : Int)) (S * k) = nearUp v S := by
    unfold nearUp
    rw [e1, e2, Int.natAbs_mul, Int.natAbs_natCast]
    have h1 : S * k < 2 * ((v % (S : Int)).natAbs * k) ↔ S < 2 * (v % (S : Int)).natAbs := by
      rw [← Nat.mul_assoc]; exact Nat.mul_lt_mul_right hk
    have h2 : 2 * ((v % (S : Int)).natAbs * k) = S * k ↔ 2 * (v % (S : Int)).natAbs = S := by
      rw [← Nat.mul_assoc]; exact Nat.mul_right_cancel_iff hk
    rw [Bool.eq_iff_iff]
    simp only [decide_eq_true_eq, h1, h2]
  unfold rdm
  rw [e1, e4]
  by_cases h0 : v % (S : Int) = 0
  · rw [e2, h0, Int.zero_mul]
  · rw [e2, if_pos (e3.2 h0), if_pos h0]
theorem rdm_exact {m y : Int} {S : Nat} (hS : 0 < S) : rdm m (y * (S : Int)) S = y := by
  have hS' : (S : Int) ≠ 0 := by omega
  have e1 : y * (S : Int) / (S : Int) = y := Int.mul_ediv_cancel _ hS'
  have e2 : y * (S : Int) % (S : Int) = 0 := Int.mul_emod_left _ _
  have e4 : nearUp (y * (S : Int)) S = false := by
    unfold nearUp; rw [e1, e2]; simp; omega
  unfold rdm
  rw [e1, e2, e4]; simp
/-- Where what is rounded lies. -/
theorem rdm_down {v : Int} {S : Nat} (hS : 0 < S) : rdm 0 v S * (S : Int) ≤ v ∧ v < rdm 0 v S * (S : Int) + S := by
  have h1 := Int.emod_add_mul_ediv v S
  have h2 := Int.emod_nonneg v (show (S : Int) ≠ 0 by omega)
  have h3 := Int.emod_lt_of_pos v (show (0 : Int) < S by omega)
  unfold rdm
  rw [if_pos rfl, Int.add_zero, Int.mul_comm]
  generalize (S : Int) * (v / (S : Int)) = q at *
  omega
theorem rdm_up {v : Int} {S : Nat} (hS : 0 < S) : v ≤ rdm 1 v S * (S : Int) ∧ rdm 1 v S * (S : Int) < v + S := by
  have h1 := Int.emod_add_mul_ediv v S
  have h2 := Int.emod_nonneg v (show (S : Int) ≠ 0 by omega)
  have h3 := Int.emod_lt_of_pos v (show (0 : Int) < S by omega)
  unfold rdm
  rw [if_neg (by omega), if_neg (by omega), Int.mul_comm, Int.mul_add]
  generalize (S : Int) * (v / (S : Int)) = q at *
  split
  · rw [Int.mul_one]; omega
  · rw [Int.mul_zero]; omega
theorem rdm_near {v : Int} {S : Nat} (hS : 0 < S) : 2 * (rdm 2 v S * (S : Int) - v) ≤ S ∧ 2 * (v - rdm 2 v S * (S : Int)) ≤ S ∧ (2 * (rdm 2 v S * (S : Int) - v) = S ∨ 2 * (v - rdm 2 v S * (S : Int)) = S → rdm 2 v S % 2 = 0) := by
  have h1 := Int.emod_add_mul_ediv v S
  have h2 := Int.emod_nonneg v (show (S : Int) ≠ 0 by omega)
  have h3 := Int.emod_lt_of_pos v (show (0 : Int) < S by omega)
  unfold rdm
  rw [if_neg (by omega), if_pos rfl, Int.add_mul]
  rw [Int.mul_comm] at h1
  have hu : nearUp v S = true ↔ ((S : Int) < 2 * (v % (S : Int)) ∨ 2 * (v % (S : Int)) = S ∧ (v / (S : Int)) % 2 = 1) := by
    unfold nearUp
    rw [decide_eq_true_eq]
    omega
  generalize v / (S : Int) = d at *
  generalize d * (S : Int) = q at *
  split
  · rename_i h
    rw [Int.one_mul]
    rcases hu.1 h with h4 | ⟨h4, h5⟩
    · refine ⟨by omega, by omega, fun h => by omega⟩
    · refine ⟨by omega, by omega, fun h => by omega⟩
  · rename_i h
    rw [Int.zero_mul]
    have h6 := fun h' => h (hu.2 h')
    have h7 : ¬ (S : Int) < 2 * (v % (S : Int)) := fun h' => h6 (.inl h')
    refine ⟨by omega, by omega, fun h => ?_⟩
    have h8 : 2 * (v % (S : Int)) = S := by omega
    have h9 : ¬ d % 2 = 1 := fun h' => h6 (.inr ⟨h8, h'⟩)
    omega
theorem lt_mul_cancel {a b : Int} {S : Nat} (h : a * (S : Int) < b * S) : a < b := Int.lt_of_mul_lt_mul_right h (by omega)

theorem dv_scale {z e b b' : Int} (h1 : b ≤ b') (h2 : b' ≤ e) : dv z e b = dv z e b' * ((2 ^ (b' - b).toNat : Nat) : Int) := by
  unfold dv
  rw [Int.mul_assoc]
  congr 1
  rw [← Int.natCast_mul, ← Nat.pow_add]
  congr 2
  omega
theorem cmpZ_mul {a c : Int} {k : Nat} (hk : 0 < k) : cmpZ (a * (k : Int)) (c * (k : Int)) = cmpZ a c := by
  have h1 : a * (k : Int) < c * k ↔ a < c := ⟨lt_mul_cancel, fun h => Int.mul_lt_mul_of_pos_right h (by omega)⟩
  have h2 : a * (k : Int) = c * k ↔ a = c := ⟨fun h => Int.eq_of_mul_eq_mul_right (by omega) h, fun h => by rw [h]⟩
  unfold cmpZ
  simp only [h1, h2]
theorem dcmp_dv {z e z' e' b : Int} (h : b ≤ e) (h' : b ≤ e') : dcmp z e z' e' = cmpZ (dv z e b) (dv z' e' b) := by
  rw [dcmp, dv_scale (b := b) (b' := min e e') (by omega) (by omega), dv_scale (z := z') (b := b) (b' := min e e') (by omega) (by omega), cmpZ_mul (two_pos _)]
theorem dv_zero (e b : Int) : dv 0 e b = 0 := Int.zero_mul _
theorem sg_zero (neg : Bool) : sg neg 0 = 0 := by cases neg <;> rfl
theorem sg_nD (neg : Bool) (x : Nat) : sg (nD neg x) (od x) = sg neg (od x) := by
  by_cases h : x = 0
  · subst h; rw [od_zero, sg_zero, sg_zero]
  · rw [nD_ne h]
/-- Lowest terms are the same number. -/
theorem dv_od {neg : Bool} {X : Nat} {E b : Int} (h : b ≤ E) : dv (sg (nD neg X) (od X)) (eD X E) b = dv (sg neg X) E b := by
  rw [sg_nD]
  by_cases h0 : X = 0
  · subst h0; rw [od_zero, sg_zero, dv_zero, dv_zero]
  · rw [dv_sg, dv_sg, eD, if_neg h0]
    congr 1
    rw [show (E + (tz X : Int) - b).toNat = tz X + (E - b).toNat by omega, Nat.pow_add, ← Nat.mul_assoc, Nat.mul_comm (od X), od_mul]
/-- A number in lowest terms. -/
structure NF (neg : Bool) (n : Nat) (e : Int) : Prop where
  s : nD neg n = neg
  o : od n = n
  z : n = 0 → e = 0
theorem NF.of (neg : Bool) (x : Nat) (e : Int) : NF (nD neg x) (od x) (eD x e) :=
  ⟨nD_od neg x, od_od x, fun h => by rw [od_zero_iff] at h; rw [h, eD_zero]⟩
theorem NF.eD {neg : Bool} {n : Nat} {e : Int} (h : NF neg n e) : Dy.eD n e = e := by
  by_cases hn : n = 0
  · rw [h.z hn, hn, eD_zero]
  · have h1 := od_odd hn
    rw [h.o] at h1
    rw [Dy.eD, if_neg hn, tz_odd h1]; omega
theorem NF.odd {neg : Bool} {n : Nat} {e : Int} (h : NF neg n e) (hn : n ≠ 0) : n % 2 = 1 := by
  have := od_odd hn
  rwa [h.o] at this
theorem NF.eq {neg neg' : Bool} {n n' : Nat} {e e' b : Int} (h : NF neg n e) (h' : NF neg' n' e') (hb : b ≤ e) (hb' : b ≤ e') (he : dv (sg neg n) e b = dv (sg neg' n') e' b) : neg = neg' ∧ n = n' ∧ e = e' := by
  rw [dv_sg, dv_sg] at he
  have ha : n * 2 ^ (e - b).toNat = n' * 2 ^ (e' - b).toNat := by
    have := congrArg Int.natAbs he
    rwa [sg_abs, sg_abs] at this
  have hs : nD neg (n * 2 ^ (e - b).toNat) = nD neg' (n' * 2 ^ (e' - b).toNat) := by
    have := congrArg zb he
    rwa [zb_sg, zb_sg] at this
  by_cases hn : n = 0
  · have hn' : n' = 0 := by
      rw [hn, Nat.zero_mul] at ha
      exact mul2_zero.1 ha.symm
    refine ⟨?_, by rw [hn, hn'], by rw [h.z hn, h'.z hn']⟩
    rw [← h.s, ← h'.s, hn, hn', nD_zero, nD_zero]
  · have hn' : n' ≠ 0 := fun h0 => by
      rw [h0, Nat.zero_mul] at ha
      exact hn (mul2_zero.1 ha)
    have h1 := congrArg od ha
    rw [od_shl, od_shl, h.o, h'.o] at h1
    have h2 := congrArg tz ha
    rw [tz_shl hn, tz_shl hn', tz_odd (h.odd hn), tz_odd (h'.odd hn')] at h2
    rw [nD_ne (fun h0 => hn (mul2_zero.1 h0)), nD_ne (fun h0 => hn' (mul2_zero.1 h0))] at hs
    exact ⟨hs, h1, by omega⟩
/-- What is rounded, in steps. -/
theorem rX_dv {neg : Bool} {n : Nat} {e pos m b : Int} (h : NF neg n e) (hm : okM m) (h1 : b ≤ e) (h2 : b ≤ pos) :
    dv (sg neg (rX neg n e pos m)) (rE n e pos) b = rdm m (dv (sg neg n) e b) (2 ^ (pos - b).toNat) * ((2 ^ (pos - b).toNat : Nat) : Int) := by
  by_cases hc : n = 0 ∨ pos ≤ e
  · rw [rX, if_pos hc, rE, if_pos hc]
    by_cases hn : n = 0
    · subst hn
      rw [sg_zero, dv_zero]
      have := rdm_exact (m := m) (y := 0) (two_pos (pos - b).toNat)
      rw [Int.zero_mul] at this
      rw [this, Int.zero_mul]
    · have hp : pos ≤ e := by
        rcases hc with hc | hc
        · exact absurd hc hn
        · exact hc
      rw [dv_scale h2 hp, rdm_exact (two_pos _)]
  · have hn : n ≠ 0 := fun h => hc (.inl h)
    have hp : e < pos := by
      rcases Int.lt_or_le e pos with h | h
      · exact h
      · exact absurd (.inr h) hc
    rw [rX, if_neg hc, rE, if_neg hc, rq_rdm (h.odd hn) (by omega) hm]
    have e1 : (pos - b).toNat = (pos - e).toNat + (e - b).toNat := by omega
    have : rdm m (dv (sg neg n) e b) (2 ^ (pos - b).toNat) = rdm m (sg neg n) (2 ^ (pos - e).toNat) := by
      rw [e1, Nat.pow_add, dv, rdm_scale (two_pos _)]
    rw [this, dv]
theorem rE_ge {n : Nat} {e pos b : Int} (h1 : b ≤ e) (h2 : b ≤ pos) : b ≤ rE n e pos := by unfold rE; split <;> omega

end Dy
end Go.Proofs.YtlkjgafnjmfgiaaDoor
namespace Go.Proofs.YtlkjgafnjmfgiaaDoor
open Go Go.RowKit Eng Sp Dg L2
set_option linter.unusedVariables false
set_option linter.unusedSimpArgs false
set_option maxRecDepth 100000
namespace Dy
open _root_.Go.Proofs.YtlkjgafnjmfgiaaDoor.Nat (OwnNil Num Num.bl OwnNil.mono OwnNil.ext OwnNil.rd OwnNil.ahead OwnNil.nil digs_len_bl num_of Yes)
open _root_.Go.Proofs.YtlkjgafnjmfgiaaDoor.Ref (RN RN.nil RN.ext RN.ahead len_mono bl_len32 len32)
open Sb

theorem cmpZ_lt {a b : Int} : cmpZ a b < 0 ↔ a < b := by unfold cmpZ; split <;> (try split) <;> omega
theorem cmpZ_gt {a b : Int} : 0 < cmpZ a b ↔ b < a := by unfold cmpZ; split <;> (try split) <;> omega
theorem cmpZ_le {a b : Int} : cmpZ a b ≤ 0 ↔ a ≤ b := by unfold cmpZ; split <;> (try split) <;> omega
theorem cmpZ_ge {a b : Int} : 0 ≤ cmpZ a b ↔ b ≤ a := by unfold cmpZ; split <;> (try split) <;> omega
theorem cmpZ_eq {a b : Int} : cmpZ a b = 0 ↔ a = b := by unfold cmpZ; split <;> (try split) <;> omega

theorem lit_own (k : IntKind) (t : TypeId) (w : World) (l : List Int) : Own k t (w.alloc (.cells (ints k l).toArray t (0, 0))) ⟨some ⟨w.heap.size, 0, none⟩, l.length, l.length⟩ l w.heap.size :=
  ⟨rfl, [], by simp, by rw [get_alloc]; simp⟩
theorem all_spec {w : World} {s : Slc} {l : List Int} (h : Rd .i64 w s l) (hl : l.length ≤ 1000) :
    Calls pr surdlaw08_all_id #[s.v] w fun e w' => w' = w ∧ ∃ c : Bool, e = .returned (.bool c) ∧ (c = true ↔ ∀ x ∈ l, x = 0) := by
  have hn : s.n = l.length := h.n
  refine surdlaw08_all_vc s w _ (fun t n i w' => t = s ∧ w' = w ∧ n = (l.length : Int) ∧ ∃ j : Nat, i = (j : Int) ∧ j ≤ l.length ∧ ∀ x ∈ l.take j, x = 0) (fun _ n i _ => (n - i).toNat)
    ⟨rfl, rfl, by rw [hn], 0, rfl, Nat.zero_le _, by simp⟩ ?_
  rintro t n i w1 ⟨rfl, rfl, rfl, j, rfl, hj, hz⟩
  refine br_intro (fun hlt => ?_) (fun hge => ?_)
  · have hj' : j < l.length := by simp at hlt; omega
    refine ix_ld (e := 40) (k := .i64) (by kernel_rfl) h (by omega) (by omega) ?_
    refine Calls.mono num_spec ?_
    rintro e w2 ⟨rfl, rfl⟩
    have e8 : IntKind.i64.wrap ((j : Int) + 1) = ((j + 1 : Nat) : Int) := by rw [wrap_i64 (by omega) (by omega)]; omega
    have hmem : l.getD j 0 ∈ l := by rw [getD_lt l 0 hj']; exact List.getElem_mem hj'
    rw [Int.toNat_natCast]
    refine ⟨_, rfl, br_intro (fun hx => ?_) (fun hx => ?_)⟩
    · exact ⟨rfl, _, rfl, ⟨fun h => (by cases h), fun h => absurd (h _ hmem) (by simpa using hx)⟩⟩
    · refine ⟨⟨rfl, rfl, rfl, j + 1, e8, hj', ?_⟩, by rw [e8]; omega⟩
      rw [List.take_succ_eq_append_getElem hj']
      intro x hxm
      rcases List.mem_append.1 hxm with h1 | h1
      · exact hz x h1
      · have : x = l[j] := by simpa using h1
        rw [this, ← getD_lt l 0 hj']
        simpa using hx
  · have hj' : j = l.length := by simp at hge; omega
    subst hj'
    rw [List.take_length] at hz
    exact ⟨rfl, _, rfl, ⟨fun _ => hz, fun _ => rfl⟩⟩
/-- Numbers laid in a list, and asked whether all are nought. -/
theorem all_lit {w : World} (l : List Int) (hl : l.length ≤ 1000) {cs : Array Value} {n : Nat} (hcs : cs = (ints .i64 l).toArray) (hn : n = l.length) {K : Bool → World → Prop} (h0 : (¬ ∀ x ∈ l, x = 0) → ∀ w', Ahead w w' → K false w') (h1 : (∀ x ∈ l, x = 0) → ∀ w', Ahead w w' → K true w') :
    newC w cs 40 fun ad w1 => Calls pr surdlaw08_all_id #[(⟨some ad, n, n⟩ : Slc).v] w1 fun e w2 => ∃ b : Bool, e = .returned (.bool b) ∧ Ahead w1 w2 ∧ K b w2 := by
  subst hcs hn
  show Calls pr surdlaw08_all_id #[(⟨some ⟨w.heap.size, 0, none⟩, l.length, l.length⟩ : Slc).v] _ _
  refine Calls.mono (all_spec (lit_own .i64 40 w l).rd hl) ?_
  rintro e w2 ⟨rfl, c, rfl, hc⟩
  refine ⟨c, rfl, Ahead.refl _, ?_⟩
  cases c
  · exact h0 (fun h => by have := hc.2 h; cases this) _ (Ahead.alloc _ _)
  · exact h1 (hc.1 rfl) _ (Ahead.alloc _ _)

theorem tC_eq {X X' : Nat} {E E' : Int} (h : od X = od X') (h' : eD X E = eD X' E') : tC X E = tC X' E' := by unfold tC; rw [h, h']
theorem rdC_zero {neg : Bool} {x : Nat} {e pos m : Int} (h : rdC neg x e pos m = 0) : wi e ∧ okM m ∧ tC (rX (nD neg x) (od x) (eD x e) pos m) (rE (od x) (eD x e) pos) = 0 := by
  unfold rdC at h
  split at h
  · split at h
    · split at h
      · exact ⟨by assumption, by assumption, h⟩
      · omega
    · omega
  · omega
theorem rdC_ok {neg : Bool} {x : Nat} {e pos m : Int} (h : wi e) (hp : wi pos) (hm : okM m) : rdC neg x e pos m = tC (rX (nD neg x) (od x) (eD x e) pos m) (rE (od x) (eD x e) pos) := by
  rw [rdC, if_pos h, if_pos hp, if_pos hm]

end Dy
end Go.Proofs.YtlkjgafnjmfgiaaDoor
