/- What the law leans on, part 3. No condition. -/
import Derived.Test.YthhbjhdnaopcnaaDoorZDyadicShort2
namespace Go.Proofs.YthhbjhdnaopcnaaDoor
open Go Go.RowKit Eng
set_option linter.unusedVariables false

set_option maxRecDepth 100000 in
/-- surd/surdref06.Shift: function 53. -/
theorem surdref06_Shift_vc (a0_a_0 : Bool) (a0_a_1 : Slc) (a1_n : Int) (w : World) (R : Ending → World → Prop)
    
    (h : newC w #[Value.bool a0_a_0, a0_a_1.v] 44 fun ad1 w1 =>
    newC w1 #[Value.bool false, (⟨none, 0, 0⟩ : Slc).v] 44 fun ad2 w2 =>
    br (decide (a1_n ≥ 0))
    (ldB ad1 w2.drew fun b1 =>
     ldS (ad1.add 1) w2.drew fun s1 =>
     Calls Tryd.prog 54 #[s1.v, Value.int .i64 a1_n] w2.drew fun e1 w3 =>
     ∃ s2 : Slc, e1 = .returned s2.v ∧
     (Ahead w2.drew w3 ∧
      (Calls Tryd.prog 66 #[Value.bool b1, s2.v] w3 fun e2 w4 =>
       ∃ b2 : Bool, ∃ s3 : Slc, e2 = .returned (Value.agg #[Value.bool b2, s3.v]) ∧
       (Ahead w3 w4 ∧
        (stC ad2 (Value.bool b2) w4 fun w5 =>
         stC (ad2.add 1) s3.v w5 fun w6 =>
         ldB ad2 w6 fun b3 =>
         ldS (ad2.add 1) w6 fun s4 =>
         R (.returned (Value.agg #[Value.bool b3, s4.v])) w6)))))
    (ldS (ad1.add 1) w2 fun s5 =>
     Calls Tryd.prog 34 #[s5.v] w2 fun e3 w7 =>
     ∃ x1 : Int, e3 = .returned (Value.int .i64 x1) ∧
     (br (decide (a1_n < (IntKind.i64.wrap (0 - x1))))
      (ldB ad1 w7 fun b4 =>
       br b4
       (Calls Tryd.prog 77 #[Value.int .i64 (-1)] w7 fun e4 w8 =>
        ∃ b5 : Bool, ∃ s6 : Slc, e4 = .returned (Value.agg #[Value.bool b5, s6.v]) ∧
        (stC ad2 (Value.bool b5) w8 fun w9 =>
         stC (ad2.add 1) s6.v w9 fun w10 =>
         ldB ad2 w10 fun b6 =>
         ldS (ad2.add 1) w10 fun s7 =>
         R (.returned (Value.agg #[Value.bool b6, s7.v])) w10))
       (stC ad2 (Value.bool false) w7 fun w11 =>
        stC (ad2.add 1) ((⟨none, 0, 0⟩ : Slc).v) w11 fun w12 =>
        ldB ad2 w12 fun b7 =>
        ldS (ad2.add 1) w12 fun s8 =>
        R (.returned (Value.agg #[Value.bool b7, s8.v])) w12))
      (∃ V1 : Nat → Nat → Prop, Out (V1 0) ad1 (ldB ad1 w7.drew fun b8 =>
        ldS (ad1.add 1) w7.drew fun s9 =>
        (Calls Tryd.prog 52 #[Value.int .i64 1] w7.drew fun e5 w13 =>
         ∃ s10 : Slc, e5 = .returned s10.v ∧
         (Bar (V1 0) w7.drew w13 ∧
          ((Calls Tryd.prog 54 #[s10.v, Value.int .i64 (IntKind.i64.wrap (0 - a1_n))] w13 fun e6 w14 =>
            ∃ s11 : Slc, e6 = .returned s11.v ∧
            (Bar (V1 0) w13 w14 ∧
             ((Calls Tryd.prog 66 #[Value.bool false, s11.v] w14 fun e7 w15 =>
               ∃ b9 : Bool, ∃ s12 : Slc, e7 = .returned (Value.agg #[Value.bool b9, s12.v]) ∧
               (Bar (V1 0) w14 w15 ∧
                ((Calls Tryd.prog 81 #[Value.agg #[Value.bool b8, s9.v], Value.agg #[Value.bool b9, s12.v]] w15 fun e8 w16 =>
                  ∃ b10 : Bool, ∃ s13 : Slc, ∃ b11 : Bool, ∃ s14 : Slc, e8 = .returned (Value.tuple #[Value.agg #[Value.bool b10, s13.v], Value.agg #[Value.bool b11, s14.v]]) ∧
                  ((newC w16 #[Value.bool false, (⟨none, 0, 0⟩ : Slc).v] 44 fun ad3 w17 =>
                    Bar (V1 0) w16 w17 ∧
                    (newC w17 #[Value.bool false, (⟨none, 0, 0⟩ : Slc).v] 44 fun ad4 w18 =>
                     Bar (V1 0) w17 w18 ∧
                     (stC ad3 (Value.bool b10) w18 fun w19 =>
                      stC (ad3.add 1) s13.v w19 fun w20 =>
                      stC ad4 (Value.bool b11) w20 fun w21 =>
                      stC (ad4.add 1) s14.v w21 fun w22 =>
                      ldB ad3 w22 fun b12 =>
                      ldS (ad3.add 1) w22 fun s15 =>
                      stC ad2 (Value.bool b12) w22 fun w23 =>
                      stC (ad2.add 1) s15.v w23 fun w24 =>
                      ldB ad2 w24 fun b13 =>
                      ldS (ad2.add 1) w24 fun s16 =>
                      R (.returned (Value.agg #[Value.bool b13, s16.v])) w24))) ∧
                   (newC w16 #[Value.bool false, (⟨none, 0, 0⟩ : Slc).v] 44 fun ad5 w25 =>
                    Bar (V1 0) w16 w25 ∧
                    (newC w25 #[Value.bool false, (⟨none, 0, 0⟩ : Slc).v] 44 fun ad6 w26 =>
                     Bar (V1 0) w25 w26 ∧
                     (stC ad6 (Value.bool b10) w26 fun w27 =>
                      stC (ad6.add 1) s13.v w27 fun w28 =>
                      stC ad5 (Value.bool b11) w28 fun w29 =>
                      stC (ad5.add 1) s14.v w29 fun w30 =>
                      ldB ad6 w30 fun b14 =>
                      ldS (ad6.add 1) w30 fun s17 =>
                      stC ad2 (Value.bool b14) w30 fun w31 =>
                      stC (ad2.add 1) s17.v w31 fun w32 =>
                      ldB ad2 w32 fun b15 =>
                      ldS (ad2.add 1) w32 fun s18 =>
                      R (.returned (Value.agg #[Value.bool b15, s18.v])) w32))))) ∧
                 ((newC w15 #[Value.bool false, (⟨none, 0, 0⟩ : Slc).v] 44 fun ad7 w33 =>
                   Bar (V1 0) w15 w33 ∧
                   ((Calls Tryd.prog 81 #[Value.agg #[Value.bool b8, s9.v], Value.agg #[Value.bool b9, s12.v]] w33 fun e9 w34 =>
                     ∃ b16 : Bool, ∃ s19 : Slc, ∃ b17 : Bool, ∃ s20 : Slc, e9 = .returned (Value.tuple #[Value.agg #[Value.bool b16, s19.v], Value.agg #[Value.bool b17, s20.v]]) ∧
                     (newC w34 #[Value.bool false, (⟨none, 0, 0⟩ : Slc).v] 44 fun ad8 w35 =>
                      Bar (V1 0) w34 w35 ∧
                      (stC ad7 (Value.bool b16) w35 fun w36 =>
                       stC (ad7.add 1) s19.v w36 fun w37 =>
                       stC ad8 (Value.bool b17) w37 fun w38 =>
                       stC (ad8.add 1) s20.v w38 fun w39 =>
                       ldB ad7 w39 fun b18 =>
                       ldS (ad7.add 1) w39 fun s21 =>
                       stC ad2 (Value.bool b18) w39 fun w40 =>
                       stC (ad2.add 1) s21.v w40 fun w41 =>
                       ldB ad2 w41 fun b19 =>
                       ldS (ad2.add 1) w41 fun s22 =>
                       R (.returned (Value.agg #[Value.bool b19, s22.v])) w41))) ∧
                    (newC w33 #[Value.bool false, (⟨none, 0, 0⟩ : Slc).v] 44 fun ad9 w42 =>
                     Bar (V1 0) w33 w42 ∧
                     (Calls Tryd.prog 81 #[Value.agg #[Value.bool b8, s9.v], Value.agg #[Value.bool b9, s12.v]] w42 fun e10 w43 =>
                      ∃ b20 : Bool, ∃ s23 : Slc, ∃ b21 : Bool, ∃ s24 : Slc, e10 = .returned (Value.tuple #[Value.agg #[Value.bool b20, s23.v], Value.agg #[Value.bool b21, s24.v]]) ∧
                      (stC ad7 (Value.bool b20) w43 fun w44 =>
                       stC (ad7.add 1) s23.v w44 fun w45 =>
                       stC ad9 (Value.bool b21) w45 fun w46 =>
                       stC (ad9.add 1) s24.v w46 fun w47 =>
                       ldB ad7 w47 fun b22 =>
                       ldS (ad7.add 1) w47 fun s25 =>
                       stC ad2 (Value.bool b22) w47 fun w48 =>
                       stC (ad2.add 1) s25.v w48 fun w49 =>
                       ldB ad2 w49 fun b23 =>
                       ldS (ad2.add 1) w49 fun s26 =>
                       R (.returned (Value.agg #[Value.bool b23, s26.v])) w49))))) ∧
                  (newC w15 #[Value.bool false, (⟨none, 0, 0⟩ : Slc).v] 44 fun ad10 w50 =>
                   Bar (V1 0) w15 w50 ∧
                   ((Calls Tryd.prog 81 #[Value.agg #[Value.bool b8, s9.v], Value.agg #[Value.bool b9, s12.v]] w50 fun e11 w51 =>
                     ∃ b24 : Bool, ∃ s27 : Slc, ∃ b25 : Bool, ∃ s28 : Slc, e11 = .returned (Value.tuple #[Value.agg #[Value.bool b24, s27.v], Value.agg #[Value.bool b25, s28.v]]) ∧
                     (newC w51 #[Value.bool false, (⟨none, 0, 0⟩ : Slc).v] 44 fun ad11 w52 =>
                      Bar (V1 0) w51 w52 ∧
                      (stC ad11 (Value.bool b24) w52 fun w53 =>
                       stC (ad11.add 1) s27.v w53 fun w54 =>
                       stC ad10 (Value.bool b25) w54 fun w55 =>
                       stC (ad10.add 1) s28.v w55 fun w56 =>
                       ldB ad11 w56 fun b26 =>
                       ldS (ad11.add 1) w56 fun s29 =>
                       stC ad2 (Value.bool b26) w56 fun w57 =>
                       stC (ad2.add 1) s29.v w57 fun w58 =>
                       ldB ad2 w58 fun b27 =>
                       ldS (ad2.add 1) w58 fun s30 =>
                       R (.returned (Value.agg #[Value.bool b27, s30.v])) w58))) ∧
                    (newC w50 #[Value.bool false, (⟨none, 0, 0⟩ : Slc).v] 44 fun ad12 w59 =>
                     Bar (V1 0) w50 w59 ∧
                     (Calls Tryd.prog 81 #[Value.agg #[Value.bool b8, s9.v], Value.agg #[Value.bool b9, s12.v]] w59 fun e12 w60 =>
                      ∃ b28 : Bool, ∃ s31 : Slc, ∃ b29 : Bool, ∃ s32 : Slc, e12 = .returned (Value.tuple #[Value.agg #[Value.bool b28, s31.v], Value.agg #[Value.bool b29, s32.v]]) ∧
                      (stC ad12 (Value.bool b28) w60 fun w61 =>
                       stC (ad12.add 1) s31.v w61 fun w62 =>
                       stC ad10 (Value.bool b29) w62 fun w63 =>
                       stC (ad10.add 1) s32.v w63 fun w64 =>
                       ldB ad12 w64 fun b30 =>
                       ldS (ad12.add 1) w64 fun s33 =>
                       stC ad2 (Value.bool b30) w64 fun w65 =>
                       stC (ad2.add 1) s33.v w65 fun w66 =>
                       ldB ad2 w66 fun b31 =>
                       ldS (ad2.add 1) w66 fun s34 =>
                       R (.returned (Value.agg #[Value.bool b31, s34.v])) w66))))))))) ∧
              ((newC w14 #[Value.bool false, (⟨none, 0, 0⟩ : Slc).v] 44 fun ad13 w67 =>
                Bar (V1 0) w14 w67 ∧
                ((Calls Tryd.prog 66 #[Value.bool false, s11.v] w67 fun e13 w68 =>
                  ∃ b32 : Bool, ∃ s35 : Slc, e13 = .returned (Value.agg #[Value.bool b32, s35.v]) ∧
                  (Bar (V1 0) w67 w68 ∧
                   ((Calls Tryd.prog 81 #[Value.agg #[Value.bool b8, s9.v], Value.agg #[Value.bool b32, s35.v]] w68 fun e14 w69 =>
                     ∃ b33 : Bool, ∃ s36 : Slc, ∃ b34 : Bool, ∃ s37 : Slc, e14 = .returned (Value.tuple #[Value.agg #[Value.bool b33, s36.v], Value.agg #[Value.bool b34, s37.v]]) ∧
                     (newC w69 #[Value.bool false, (⟨none, 0, 0⟩ : Slc).v] 44 fun ad14 w70 =>
                      Bar (V1 0) w69 w70 ∧
                      (stC ad13 (Value.bool b33) w70 fun w71 =>
                       stC (ad13.add 1) s36.v w71 fun w72 =>
                       stC ad14 (Value.bool b34) w72 fun w73 =>
                       stC (ad14.add 1) s37.v w73 fun w74 =>
                       ldB ad13 w74 fun b35 =>
                       ldS (ad13.add 1) w74 fun s38 =>
                       stC ad2 (Value.bool b35) w74 fun w75 =>
                       stC (ad2.add 1) s38.v w75 fun w76 =>
                       ldB ad2 w76 fun b36 =>
                       ldS (ad2.add 1) w76 fun s39 =>
                       R (.returned (Value.agg #[Value.bool b36, s39.v])) w76))) ∧
                    (newC w68 #[Value.bool false, (⟨none, 0, 0⟩ : Slc).v] 44 fun ad15 w77 =>
                     Bar (V1 0) w68 w77 ∧
                     (Calls Tryd.prog 81 #[Value.agg #[Value.bool b8, s9.v], Value.agg #[Value.bool b32, s35.v]] w77 fun e15 w78 =>
                      ∃ b37 : Bool, ∃ s40 : Slc, ∃ b38 : Bool, ∃ s41 : Slc, e15 = .returned (Value.tuple #[Value.agg #[Value.bool b37, s40.v], Value.agg #[Value.bool b38, s41.v]]) ∧
                      (stC ad13 (Value.bool b37) w78 fun w79 =>
                       stC (ad13.add 1) s40.v w79 fun w80 =>
                       stC ad15 (Value.bool b38) w80 fun w81 =>
                       stC (ad15.add 1) s41.v w81 fun w82 =>
                       ldB ad13 w82 fun b39 =>
                       ldS (ad13.add 1) w82 fun s42 =>
                       stC ad2 (Value.bool b39) w82 fun w83 =>
                       stC (ad2.add 1) s42.v w83 fun w84 =>
                       ldB ad2 w84 fun b40 =>
                       ldS (ad2.add 1) w84 fun s43 =>
                       R (.returned (Value.agg #[Value.bool b40, s43.v])) w84)))))) ∧
                 (newC w67 #[Value.bool false, (⟨none, 0, 0⟩ : Slc).v] 44 fun ad16 w85 =>
                  Bar (V1 0) w67 w85 ∧
                  (Calls Tryd.prog 66 #[Value.bool false, s11.v] w85 fun e16 w86 =>
                   ∃ b41 : Bool, ∃ s44 : Slc, e16 = .returned (Value.agg #[Value.bool b41, s44.v]) ∧
                   (Bar (V1 0) w85 w86 ∧
                    (Calls Tryd.prog 81 #[Value.agg #[Value.bool b8, s9.v], Value.agg #[Value.bool b41, s44.v]] w86 fun e17 w87 =>
                     ∃ b42 : Bool, ∃ s45 : Slc, ∃ b43 : Bool, ∃ s46 : Slc, e17 = .returned (Value.tuple #[Value.agg #[Value.bool b42, s45.v], Value.agg #[Value.bool b43, s46.v]]) ∧
                     (stC ad13 (Value.bool b42) w87 fun w88 =>
                      stC (ad13.add 1) s45.v w88 fun w89 =>
                      stC ad16 (Value.bool b43) w89 fun w90 =>
                      stC (ad16.add 1) s46.v w90 fun w91 =>
                      ldB ad13 w91 fun b44 =>
                      ldS (ad13.add 1) w91 fun s47 =>
                      stC ad2 (Value.bool b44) w91 fun w92 =>
                      stC (ad2.add 1) s47.v w92 fun w93 =>
                      ldB ad2 w93 fun b45 =>
                      ldS (ad2.add 1) w93 fun s48 =>
                      R (.returned (Value.agg #[Value.bool b45, s48.v])) w93))))))) ∧
               (newC w14 #[Value.bool false, (⟨none, 0, 0⟩ : Slc).v] 44 fun ad17 w94 =>
                Bar (V1 0) w14 w94 ∧
                ((Calls Tryd.prog 66 #[Value.bool false, s11.v] w94 fun e18 w95 =>
                  ∃ b46 : Bool, ∃ s49 : Slc, e18 = .returned (Value.agg #[Value.bool b46, s49.v]) ∧
                  (Bar (V1 0) w94 w95 ∧
                   ((Calls Tryd.prog 81 #[Value.agg #[Value.bool b8, s9.v], Value.agg #[Value.bool b46, s49.v]] w95 fun e19 w96 =>
                     ∃ b47 : Bool, ∃ s50 : Slc, ∃ b48 : Bool, ∃ s51 : Slc, e19 = .returned (Value.tuple #[Value.agg #[Value.bool b47, s50.v], Value.agg #[Value.bool b48, s51.v]]) ∧
                     (newC w96 #[Value.bool false, (⟨none, 0, 0⟩ : Slc).v] 44 fun ad18 w97 =>
                      Bar (V1 0) w96 w97 ∧
                      (stC ad18 (Value.bool b47) w97 fun w98 =>
                       stC (ad18.add 1) s50.v w98 fun w99 =>
                       stC ad17 (Value.bool b48) w99 fun w100 =>
                       stC (ad17.add 1) s51.v w100 fun w101 =>
                       ldB ad18 w101 fun b49 =>
                       ldS (ad18.add 1) w101 fun s52 =>
                       stC ad2 (Value.bool b49) w101 fun w102 =>
                       stC (ad2.add 1) s52.v w102 fun w103 =>
                       ldB ad2 w103 fun b50 =>
                       ldS (ad2.add 1) w103 fun s53 =>
                       R (.returned (Value.agg #[Value.bool b50, s53.v])) w103))) ∧
                    (newC w95 #[Value.bool false, (⟨none, 0, 0⟩ : Slc).v] 44 fun ad19 w104 =>
                     Bar (V1 0) w95 w104 ∧
                     (Calls Tryd.prog 81 #[Value.agg #[Value.bool b8, s9.v], Value.agg #[Value.bool b46, s49.v]] w104 fun e20 w105 =>
                      ∃ b51 : Bool, ∃ s54 : Slc, ∃ b52 : Bool, ∃ s55 : Slc, e20 = .returned (Value.tuple #[Value.agg #[Value.bool b51, s54.v], Value.agg #[Value.bool b52, s55.v]]) ∧
                      (stC ad19 (Value.bool b51) w105 fun w106 =>
                       stC (ad19.add 1) s54.v w106 fun w107 =>
                       stC ad17 (Value.bool b52) w107 fun w108 =>
                       stC (ad17.add 1) s55.v w108 fun w109 =>
                       ldB ad19 w109 fun b53 =>
                       ldS (ad19.add 1) w109 fun s56 =>
                       stC ad2 (Value.bool b53) w109 fun w110 =>
                       stC (ad2.add 1) s56.v w110 fun w111 =>
                       ldB ad2 w111 fun b54 =>
                       ldS (ad2.add 1) w111 fun s57 =>
                       R (.returned (Value.agg #[Value.bool b54, s57.v])) w111)))))) ∧
                 (newC w94 #[Value.bool false, (⟨none, 0, 0⟩ : Slc).v] 44 fun ad20 w112 =>
                  Bar (V1 0) w94 w112 ∧
                  (Calls Tryd.prog 66 #[Value.bool false, s11.v] w112 fun e21 w113 =>
                   ∃ b55 : Bool, ∃ s58 : Slc, e21 = .returned (Value.agg #[Value.bool b55, s58.v]) ∧
                   (Bar (V1 0) w112 w113 ∧
                    (Calls Tryd.prog 81 #[Value.agg #[Value.bool b8, s9.v], Value.agg #[Value.bool b55, s58.v]] w113 fun e22 w114 =>
                     ∃ b56 : Bool, ∃ s59 : Slc, ∃ b57 : Bool, ∃ s60 : Slc, e22 = .returned (Value.tuple #[Value.agg #[Value.bool b56, s59.v], Value.agg #[Value.bool b57, s60.v]]) ∧
                     (stC ad20 (Value.bool b56) w114 fun w115 =>
                      stC (ad20.add 1) s59.v w115 fun w116 =>
                      stC ad17 (Value.bool b57) w116 fun w117 =>
                      stC (ad17.add 1) s60.v w117 fun w118 =>
                      ldB ad20 w118 fun b58 =>
                      ldS (ad20.add 1) w118 fun s61 =>
                      stC ad2 (Value.bool b58) w118 fun w119 =>
                      stC (ad2.add 1) s61.v w119 fun w120 =>
                      ldB ad2 w120 fun b59 =>
                      ldS (ad2.add 1) w120 fun s62 =>
                      R (.returned (Value.agg #[Value.bool b59, s62.v])) w120))))))))))) ∧
           ((newC w13 #[Value.bool false, (⟨none, 0, 0⟩ : Slc).v] 44 fun ad21 w121 =>
             Bar (V1 0) w13 w121 ∧
             ((Calls Tryd.prog 54 #[s10.v, Value.int .i64 (IntKind.i64.wrap (0 - a1_n))] w121 fun e23 w122 =>
               ∃ s63 : Slc, e23 = .returned s63.v ∧
               (Bar (V1 0) w121 w122 ∧
                ((Calls Tryd.prog 66 #[Value.bool false, s63.v] w122 fun e24 w123 =>
                  ∃ b60 : Bool, ∃ s64 : Slc, e24 = .returned (Value.agg #[Value.bool b60, s64.v]) ∧
                  (Bar (V1 0) w122 w123 ∧
                   ((Calls Tryd.prog 81 #[Value.agg #[Value.bool b8, s9.v], Value.agg #[Value.bool b60, s64.v]] w123 fun e25 w124 =>
                     ∃ b61 : Bool, ∃ s65 : Slc, ∃ b62 : Bool, ∃ s66 : Slc, e25 = .returned (Value.tuple #[Value.agg #[Value.bool b61, s65.v], Value.agg #[Value.bool b62, s66.v]]) ∧
                     (newC w124 #[Value.bool false, (⟨none, 0, 0⟩ : Slc).v] 44 fun ad22 w125 =>
                      Bar (V1 0) w124 w125 ∧
                      (stC ad21 (Value.bool b61) w125 fun w126 =>
                       stC (ad21.add 1) s65.v w126 fun w127 =>
                       stC ad22 (Value.bool b62) w127 fun w128 =>
                       stC (ad22.add 1) s66.v w128 fun w129 =>
                       ldB ad21 w129 fun b63 =>
                       ldS (ad21.add 1) w129 fun s67 =>
                       stC ad2 (Value.bool b63) w129 fun w130 =>
                       stC (ad2.add 1) s67.v w130 fun w131 =>
                       ldB ad2 w131 fun b64 =>
                       ldS (ad2.add 1) w131 fun s68 =>
                       R (.returned (Value.agg #[Value.bool b64, s68.v])) w131))) ∧
                    (newC w123 #[Value.bool false, (⟨none, 0, 0⟩ : Slc).v] 44 fun ad23 w132 =>
                     Bar (V1 0) w123 w132 ∧
                     (Calls Tryd.prog 81 #[Value.agg #[Value.bool b8, s9.v], Value.agg #[Value.bool b60, s64.v]] w132 fun e26 w133 =>
                      ∃ b65 : Bool, ∃ s69 : Slc, ∃ b66 : Bool, ∃ s70 : Slc, e26 = .returned (Value.tuple #[Value.agg #[Value.bool b65, s69.v], Value.agg #[Value.bool b66, s70.v]]) ∧
                      (stC ad21 (Value.bool b65) w133 fun w134 =>
                       stC (ad21.add 1) s69.v w134 fun w135 =>
                       stC ad23 (Value.bool b66) w135 fun w136 =>
                       stC (ad23.add 1) s70.v w136 fun w137 =>
                       ldB ad21 w137 fun b67 =>
                       ldS (ad21.add 1) w137 fun s71 =>
                       stC ad2 (Value.bool b67) w137 fun w138 =>
                       stC (ad2.add 1) s71.v w138 fun w139 =>
                       ldB ad2 w139 fun b68 =>
                       ldS (ad2.add 1) w139 fun s72 =>
                       R (.returned (Value.agg #[Value.bool b68, s72.v])) w139)))))) ∧
                 (newC w122 #[Value.bool false, (⟨none, 0, 0⟩ : Slc).v] 44 fun ad24 w140 =>
                  Bar (V1 0) w122 w140 ∧
                  (Calls Tryd.prog 66 #[Value.bool false, s63.v] w140 fun e27 w141 =>
                   ∃ b69 : Bool, ∃ s73 : Slc, e27 = .returned (Value.agg #[Value.bool b69, s73.v]) ∧
                   (Bar (V1 0) w140 w141 ∧
                    (Calls Tryd.prog 81 #[Value.agg #[Value.bool b8, s9.v], Value.agg #[Value.bool b69, s73.v]] w141 fun e28 w142 =>
                     ∃ b70 : Bool, ∃ s74 : Slc, ∃ b71 : Bool, ∃ s75 : Slc, e28 = .returned (Value.tuple #[Value.agg #[Value.bool b70, s74.v], Value.agg #[Value.bool b71, s75.v]]) ∧
                     (stC ad21 (Value.bool b70) w142 fun w143 =>
                      stC (ad21.add 1) s74.v w143 fun w144 =>
                      stC ad24 (Value.bool b71) w144 fun w145 =>
                      stC (ad24.add 1) s75.v w145 fun w146 =>
                      ldB ad21 w146 fun b72 =>
                      ldS (ad21.add 1) w146 fun s76 =>
                      stC ad2 (Value.bool b72) w146 fun w147 =>
                      stC (ad2.add 1) s76.v w147 fun w148 =>
                      ldB ad2 w148 fun b73 =>
                      ldS (ad2.add 1) w148 fun s77 =>
                      R (.returned (Value.agg #[Value.bool b73, s77.v])) w148)))))))) ∧
              (newC w121 #[Value.bool false, (⟨none, 0, 0⟩ : Slc).v] 44 fun ad25 w149 =>
               Bar (V1 0) w121 w149 ∧
               (Calls Tryd.prog 54 #[s10.v, Value.int .i64 (IntKind.i64.wrap (0 - a1_n))] w149 fun e29 w150 =>
                ∃ s78 : Slc, e29 = .returned s78.v ∧
                (Bar (V1 0) w149 w150 ∧
                 (Calls Tryd.prog 66 #[Value.bool false, s78.v] w150 fun e30 w151 =>
                  ∃ b74 : Bool, ∃ s79 : Slc, e30 = .returned (Value.agg #[Value.bool b74, s79.v]) ∧
                  (Bar (V1 0) w150 w151 ∧
                   (Calls Tryd.prog 81 #[Value.agg #[Value.bool b8, s9.v], Value.agg #[Value.bool b74, s79.v]] w151 fun e31 w152 =>
                    ∃ b75 : Bool, ∃ s80 : Slc, ∃ b76 : Bool, ∃ s81 : Slc, e31 = .returned (Value.tuple #[Value.agg #[Value.bool b75, s80.v], Value.agg #[Value.bool b76, s81.v]]) ∧
                    (stC ad21 (Value.bool b75) w152 fun w153 =>
                     stC (ad21.add 1) s80.v w153 fun w154 =>
                     stC ad25 (Value.bool b76) w154 fun w155 =>
                     stC (ad25.add 1) s81.v w155 fun w156 =>
                     ldB ad21 w156 fun b77 =>
                     ldS (ad21.add 1) w156 fun s82 =>
                     stC ad2 (Value.bool b77) w156 fun w157 =>
                     stC (ad2.add 1) s82.v w157 fun w158 =>
                     ldB ad2 w158 fun b78 =>
                     ldS (ad2.add 1) w158 fun s83 =>
                     R (.returned (Value.agg #[Value.bool b78, s83.v])) w158))))))))) ∧
            (newC w13 #[Value.bool false, (⟨none, 0, 0⟩ : Slc).v] 44 fun ad26 w159 =>
             Bar (V1 0) w13 w159 ∧
             ((Calls Tryd.prog 54 #[s10.v, Value.int .i64 (IntKind.i64.wrap (0 - a1_n))] w159 fun e32 w160 =>
               ∃ s84 : Slc, e32 = .returned s84.v ∧
               (Bar (V1 0) w159 w160 ∧
                ((Calls Tryd.prog 66 #[Value.bool false, s84.v] w160 fun e33 w161 =>
                  ∃ b79 : Bool, ∃ s85 : Slc, e33 = .returned (Value.agg #[Value.bool b79, s85.v]) ∧
                  (Bar (V1 0) w160 w161 ∧
                   ((Calls Tryd.prog 81 #[Value.agg #[Value.bool b8, s9.v], Value.agg #[Value.bool b79, s85.v]] w161 fun e34 w162 =>
                     ∃ b80 : Bool, ∃ s86 : Slc, ∃ b81 : Bool, ∃ s87 : Slc, e34 = .returned (Value.tuple #[Value.agg #[Value.bool b80, s86.v], Value.agg #[Value.bool b81, s87.v]]) ∧
                     (newC w162 #[Value.bool false, (⟨none, 0, 0⟩ : Slc).v] 44 fun ad27 w163 =>
                      Bar (V1 0) w162 w163 ∧
                      (stC ad27 (Value.bool b80) w163 fun w164 =>
                       stC (ad27.add 1) s86.v w164 fun w165 =>
                       stC ad26 (Value.bool b81) w165 fun w166 =>
                       stC (ad26.add 1) s87.v w166 fun w167 =>
                       ldB ad27 w167 fun b82 =>
                       ldS (ad27.add 1) w167 fun s88 =>
                       stC ad2 (Value.bool b82) w167 fun w168 =>
                       stC (ad2.add 1) s88.v w168 fun w169 =>
                       ldB ad2 w169 fun b83 =>
                       ldS (ad2.add 1) w169 fun s89 =>
                       R (.returned (Value.agg #[Value.bool b83, s89.v])) w169))) ∧
                    (newC w161 #[Value.bool false, (⟨none, 0, 0⟩ : Slc).v] 44 fun ad28 w170 =>
                     Bar (V1 0) w161 w170 ∧
                     (Calls Tryd.prog 81 #[Value.agg #[Value.bool b8, s9.v], Value.agg #[Value.bool b79, s85.v]] w170 fun e35 w171 =>
                      ∃ b84 : Bool, ∃ s90 : Slc, ∃ b85 : Bool, ∃ s91 : Slc, e35 = .returned (Value.tuple #[Value.agg #[Value.bool b84, s90.v], Value.agg #[Value.bool b85, s91.v]]) ∧
                      (stC ad28 (Value.bool b84) w171 fun w172 =>
                       stC (ad28.add 1) s90.v w172 fun w173 =>
                       stC ad26 (Value.bool b85) w173 fun w174 =>
                       stC (ad26.add 1) s91.v w174 fun w175 =>
                       ldB ad28 w175 fun b86 =>
                       ldS (ad28.add 1) w175 fun s92 =>
                       stC ad2 (Value.bool b86) w175 fun w176 =>
                       stC (ad2.add 1) s92.v w176 fun w177 =>
                       ldB ad2 w177 fun b87 =>
                       ldS (ad2.add 1) w177 fun s93 =>
                       R (.returned (Value.agg #[Value.bool b87, s93.v])) w177)))))) ∧
                 (newC w160 #[Value.bool false, (⟨none, 0, 0⟩ : Slc).v] 44 fun ad29 w178 =>
                  Bar (V1 0) w160 w178 ∧
                  (Calls Tryd.prog 66 #[Value.bool false, s84.v] w178 fun e36 w179 =>
                   ∃ b88 : Bool, ∃ s94 : Slc, e36 = .returned (Value.agg #[Value.bool b88, s94.v]) ∧
                   (Bar (V1 0) w178 w179 ∧
                    (Calls Tryd.prog 81 #[Value.agg #[Value.bool b8, s9.v], Value.agg #[Value.bool b88, s94.v]] w179 fun e37 w180 =>
                     ∃ b89 : Bool, ∃ s95 : Slc, ∃ b90 : Bool, ∃ s96 : Slc, e37 = .returned (Value.tuple #[Value.agg #[Value.bool b89, s95.v], Value.agg #[Value.bool b90, s96.v]]) ∧
                     (stC ad29 (Value.bool b89) w180 fun w181 =>
                      stC (ad29.add 1) s95.v w181 fun w182 =>
                      stC ad26 (Value.bool b90) w182 fun w183 =>
                      stC (ad26.add 1) s96.v w183 fun w184 =>
                      ldB ad29 w184 fun b91 =>
                      ldS (ad29.add 1) w184 fun s97 =>
                      stC ad2 (Value.bool b91) w184 fun w185 =>
                      stC (ad2.add 1) s97.v w185 fun w186 =>
                      ldB ad2 w186 fun b92 =>
                      ldS (ad2.add 1) w186 fun s98 =>
                      R (.returned (Value.agg #[Value.bool b92, s98.v])) w186)))))))) ∧
              (newC w159 #[Value.bool false, (⟨none, 0, 0⟩ : Slc).v] 44 fun ad30 w187 =>
               Bar (V1 0) w159 w187 ∧
               (Calls Tryd.prog 54 #[s10.v, Value.int .i64 (IntKind.i64.wrap (0 - a1_n))] w187 fun e38 w188 =>
                ∃ s99 : Slc, e38 = .returned s99.v ∧
                (Bar (V1 0) w187 w188 ∧
                 (Calls Tryd.prog 66 #[Value.bool false, s99.v] w188 fun e39 w189 =>
                  ∃ b93 : Bool, ∃ s100 : Slc, e39 = .returned (Value.agg #[Value.bool b93, s100.v]) ∧
                  (Bar (V1 0) w188 w189 ∧
                   (Calls Tryd.prog 81 #[Value.agg #[Value.bool b8, s9.v], Value.agg #[Value.bool b93, s100.v]] w189 fun e40 w190 =>
                    ∃ b94 : Bool, ∃ s101 : Slc, ∃ b95 : Bool, ∃ s102 : Slc, e40 = .returned (Value.tuple #[Value.agg #[Value.bool b94, s101.v], Value.agg #[Value.bool b95, s102.v]]) ∧
                    (stC ad30 (Value.bool b94) w190 fun w191 =>
                     stC (ad30.add 1) s101.v w191 fun w192 =>
                     stC ad26 (Value.bool b95) w192 fun w193 =>
                     stC (ad26.add 1) s102.v w193 fun w194 =>
                     ldB ad30 w194 fun b96 =>
                     ldS (ad30.add 1) w194 fun s103 =>
                     stC ad2 (Value.bool b96) w194 fun w195 =>
                     stC (ad2.add 1) s103.v w195 fun w196 =>
                     ldB ad2 w196 fun b97 =>
                     ldS (ad2.add 1) w196 fun s104 =>
                     R (.returned (Value.agg #[Value.bool b97, s104.v])) w196))))))))))))) ∧
        ((newC w7.drew #[Value.bool false, (⟨none, 0, 0⟩ : Slc).v] 44 fun ad31 w197 =>
          Bar (V1 0) w7.drew w197 ∧
          ((Calls Tryd.prog 52 #[Value.int .i64 1] w197 fun e41 w198 =>
            ∃ s105 : Slc, e41 = .returned s105.v ∧
            (Bar (V1 0) w197 w198 ∧
             ((Calls Tryd.prog 54 #[s105.v, Value.int .i64 (IntKind.i64.wrap (0 - a1_n))] w198 fun e42 w199 =>
               ∃ s106 : Slc, e42 = .returned s106.v ∧
               (Bar (V1 0) w198 w199 ∧
                ((Calls Tryd.prog 66 #[Value.bool false, s106.v] w199 fun e43 w200 =>
                  ∃ b98 : Bool, ∃ s107 : Slc, e43 = .returned (Value.agg #[Value.bool b98, s107.v]) ∧
                  (Bar (V1 0) w199 w200 ∧
                   ((Calls Tryd.prog 81 #[Value.agg #[Value.bool b8, s9.v], Value.agg #[Value.bool b98, s107.v]] w200 fun e44 w201 =>
                     ∃ b99 : Bool, ∃ s108 : Slc, ∃ b100 : Bool, ∃ s109 : Slc, e44 = .returned (Value.tuple #[Value.agg #[Value.bool b99, s108.v], Value.agg #[Value.bool b100, s109.v]]) ∧
                     (newC w201 #[Value.bool false, (⟨none, 0, 0⟩ : Slc).v] 44 fun ad32 w202 =>
                      Bar (V1 0) w201 w202 ∧
                      (stC ad31 (Value.bool b99) w202 fun w203 =>
                       stC (ad31.add 1) s108.v w203 fun w204 =>
                       stC ad32 (Value.bool b100) w204 fun w205 =>
                       stC (ad32.add 1) s109.v w205 fun w206 =>
                       ldB ad31 w206 fun b101 =>
                       ldS (ad31.add 1) w206 fun s110 =>
                       stC ad2 (Value.bool b101) w206 fun w207 =>
                       stC (ad2.add 1) s110.v w207 fun w208 =>
                       ldB ad2 w208 fun b102 =>
                       ldS (ad2.add 1) w208 fun s111 =>
                       R (.returned (Value.agg #[Value.bool b102, s111.v])) w208))) ∧
                    (newC w200 #[Value.bool false, (⟨none, 0, 0⟩ : Slc).v] 44 fun ad33 w209 =>
                     Bar (V1 0) w200 w209 ∧
                     (Calls Tryd.prog 81 #[Value.agg #[Value.bool b8, s9.v], Value.agg #[Value.bool b98, s107.v]] w209 fun e45 w210 =>
                      ∃ b103 : Bool, ∃ s112 : Slc, ∃ b104 : Bool, ∃ s113 : Slc, e45 = .returned (Value.tuple #[Value.agg #[Value.bool b103, s112.v], Value.agg #[Value.bool b104, s113.v]]) ∧
                      (stC ad31 (Value.bool b103) w210 fun w211 =>
                       stC (ad31.add 1) s112.v w211 fun w212 =>
                       stC ad33 (Value.bool b104) w212 fun w213 =>
                       stC (ad33.add 1) s113.v w213 fun w214 =>
                       ldB ad31 w214 fun b105 =>
                       ldS (ad31.add 1) w214 fun s114 =>
                       stC ad2 (Value.bool b105) w214 fun w215 =>
                       stC (ad2.add 1) s114.v w215 fun w216 =>
                       ldB ad2 w216 fun b106 =>
                       ldS (ad2.add 1) w216 fun s115 =>
                       R (.returned (Value.agg #[Value.bool b106, s115.v])) w216)))))) ∧
                 (newC w199 #[Value.bool false, (⟨none, 0, 0⟩ : Slc).v] 44 fun ad34 w217 =>
                  Bar (V1 0) w199 w217 ∧
                  (Calls Tryd.prog 66 #[Value.bool false, s106.v] w217 fun e46 w218 =>
                   ∃ b107 : Bool, ∃ s116 : Slc, e46 = .returned (Value.agg #[Value.bool b107, s116.v]) ∧
                   (Bar (V1 0) w217 w218 ∧
                    (Calls Tryd.prog 81 #[Value.agg #[Value.bool b8, s9.v], Value.agg #[Value.bool b107, s116.v]] w218 fun e47 w219 =>
                     ∃ b108 : Bool, ∃ s117 : Slc, ∃ b109 : Bool, ∃ s118 : Slc, e47 = .returned (Value.tuple #[Value.agg #[Value.bool b108, s117.v], Value.agg #[Value.bool b109, s118.v]]) ∧
                     (stC ad31 (Value.bool b108) w219 fun w220 =>
                      stC (ad31.add 1) s117.v w220 fun w221 =>
                      stC ad34 (Value.bool b109) w221 fun w222 =>
                      stC (ad34.add 1) s118.v w222 fun w223 =>
                      ldB ad31 w223 fun b110 =>
                      ldS (ad31.add 1) w223 fun s119 =>
                      stC ad2 (Value.bool b110) w223 fun w224 =>
                      stC (ad2.add 1) s119.v w224 fun w225 =>
                      ldB ad2 w225 fun b111 =>
                      ldS (ad2.add 1) w225 fun s120 =>
                      R (.returned (Value.agg #[Value.bool b111, s120.v])) w225)))))))) ∧
              (newC w198 #[Value.bool false, (⟨none, 0, 0⟩ : Slc).v] 44 fun ad35 w226 =>
               Bar (V1 0) w198 w226 ∧
               (Calls Tryd.prog 54 #[s105.v, Value.int .i64 (IntKind.i64.wrap (0 - a1_n))] w226 fun e48 w227 =>
                ∃ s121 : Slc, e48 = .returned s121.v ∧
                (Bar (V1 0) w226 w227 ∧
                 (Calls Tryd.prog 66 #[Value.bool false, s121.v] w227 fun e49 w228 =>
                  ∃ b112 : Bool, ∃ s122 : Slc, e49 = .returned (Value.agg #[Value.bool b112, s122.v]) ∧
                  (Bar (V1 0) w227 w228 ∧
                   (Calls Tryd.prog 81 #[Value.agg #[Value.bool b8, s9.v], Value.agg #[Value.bool b112, s122.v]] w228 fun e50 w229 =>
                    ∃ b113 : Bool, ∃ s123 : Slc, ∃ b114 : Bool, ∃ s124 : Slc, e50 = .returned (Value.tuple #[Value.agg #[Value.bool b113, s123.v], Value.agg #[Value.bool b114, s124.v]]) ∧
                    (stC ad31 (Value.bool b113) w229 fun w230 =>
                     stC (ad31.add 1) s123.v w230 fun w231 =>
                     stC ad35 (Value.bool b114) w231 fun w232 =>
                     stC (ad35.add 1) s124.v w232 fun w233 =>
                     ldB ad31 w233 fun b115 =>
                     ldS (ad31.add 1) w233 fun s125 =>
                     stC ad2 (Value.bool b115) w233 fun w234 =>
                     stC (ad2.add 1) s125.v w234 fun w235 =>
                     ldB ad2 w235 fun b116 =>
                     ldS (ad2.add 1) w235 fun s126 =>
                     R (.returned (Value.agg #[Value.bool b116, s126.v])) w235)))))))))) ∧
           (newC w197 #[Value.bool false, (⟨none, 0, 0⟩ : Slc).v] 44 fun ad36 w236 =>
            Bar (V1 0) w197 w236 ∧
            (Calls Tryd.prog 52 #[Value.int .i64 1] w236 fun e51 w237 =>
             ∃ s127 : Slc, e51 = .returned s127.v ∧
             (Bar (V1 0) w236 w237 ∧
              (Calls Tryd.prog 54 #[s127.v, Value.int .i64 (IntKind.i64.wrap (0 - a1_n))] w237 fun e52 w238 =>
               ∃ s128 : Slc, e52 = .returned s128.v ∧
               (Bar (V1 0) w237 w238 ∧
                (Calls Tryd.prog 66 #[Value.bool false, s128.v] w238 fun e53 w239 =>
                 ∃ b117 : Bool, ∃ s129 : Slc, e53 = .returned (Value.agg #[Value.bool b117, s129.v]) ∧
                 (Bar (V1 0) w238 w239 ∧
                  (Calls Tryd.prog 81 #[Value.agg #[Value.bool b8, s9.v], Value.agg #[Value.bool b117, s129.v]] w239 fun e54 w240 =>
                   ∃ b118 : Bool, ∃ s130 : Slc, ∃ b119 : Bool, ∃ s131 : Slc, e54 = .returned (Value.tuple #[Value.agg #[Value.bool b118, s130.v], Value.agg #[Value.bool b119, s131.v]]) ∧
                   (stC ad31 (Value.bool b118) w240 fun w241 =>
                    stC (ad31.add 1) s130.v w241 fun w242 =>
                    stC ad36 (Value.bool b119) w242 fun w243 =>
                    stC (ad36.add 1) s131.v w243 fun w244 =>
                    ldB ad31 w244 fun b120 =>
                    ldS (ad31.add 1) w244 fun s132 =>
                    stC ad2 (Value.bool b120) w244 fun w245 =>
                    stC (ad2.add 1) s132.v w245 fun w246 =>
                    ldB ad2 w246 fun b121 =>
                    ldS (ad2.add 1) w246 fun s133 =>
                    R (.returned (Value.agg #[Value.bool b121, s133.v])) w246))))))))))) ∧
         (newC w7.drew #[Value.bool false, (⟨none, 0, 0⟩ : Slc).v] 44 fun ad37 w247 =>
          Bar (V1 0) w7.drew w247 ∧
          ((Calls Tryd.prog 52 #[Value.int .i64 1] w247 fun e55 w248 =>
            ∃ s134 : Slc, e55 = .returned s134.v ∧
            (Bar (V1 0) w247 w248 ∧
             ((Calls Tryd.prog 54 #[s134.v, Value.int .i64 (IntKind.i64.wrap (0 - a1_n))] w248 fun e56 w249 =>
               ∃ s135 : Slc, e56 = .returned s135.v ∧
               (Bar (V1 0) w248 w249 ∧
                ((Calls Tryd.prog 66 #[Value.bool false, s135.v] w249 fun e57 w250 =>
                  ∃ b122 : Bool, ∃ s136 : Slc, e57 = .returned (Value.agg #[Value.bool b122, s136.v]) ∧
                  (Bar (V1 0) w249 w250 ∧
                   ((Calls Tryd.prog 81 #[Value.agg #[Value.bool b8, s9.v], Value.agg #[Value.bool b122, s136.v]] w250 fun e58 w251 =>
                     ∃ b123 : Bool, ∃ s137 : Slc, ∃ b124 : Bool, ∃ s138 : Slc, e58 = .returned (Value.tuple #[Value.agg #[Value.bool b123, s137.v], Value.agg #[Value.bool b124, s138.v]]) ∧
                     (newC w251 #[Value.bool false, (⟨none, 0, 0⟩ : Slc).v] 44 fun ad38 w252 =>
                      Bar (V1 0) w251 w252 ∧
                      (stC ad38 (Value.bool b123) w252 fun w253 =>
                       stC (ad38.add 1) s137.v w253 fun w254 =>
                       stC ad37 (Value.bool b124) w254 fun w255 =>
                       stC (ad37.add 1) s138.v w255 fun w256 =>
                       ldB ad38 w256 fun b125 =>
                       ldS (ad38.add 1) w256 fun s139 =>
                       stC ad2 (Value.bool b125) w256 fun w257 =>
                       stC (ad2.add 1) s139.v w257 fun w258 =>
                       ldB ad2 w258 fun b126 =>
                       ldS (ad2.add 1) w258 fun s140 =>
                       R (.returned (Value.agg #[Value.bool b126, s140.v])) w258))) ∧
                    (newC w250 #[Value.bool false, (⟨none, 0, 0⟩ : Slc).v] 44 fun ad39 w259 =>
                     Bar (V1 0) w250 w259 ∧
                     (Calls Tryd.prog 81 #[Value.agg #[Value.bool b8, s9.v], Value.agg #[Value.bool b122, s136.v]] w259 fun e59 w260 =>
                      ∃ b127 : Bool, ∃ s141 : Slc, ∃ b128 : Bool, ∃ s142 : Slc, e59 = .returned (Value.tuple #[Value.agg #[Value.bool b127, s141.v], Value.agg #[Value.bool b128, s142.v]]) ∧
                      (stC ad39 (Value.bool b127) w260 fun w261 =>
                       stC (ad39.add 1) s141.v w261 fun w262 =>
                       stC ad37 (Value.bool b128) w262 fun w263 =>
                       stC (ad37.add 1) s142.v w263 fun w264 =>
                       ldB ad39 w264 fun b129 =>
                       ldS (ad39.add 1) w264 fun s143 =>
                       stC ad2 (Value.bool b129) w264 fun w265 =>
                       stC (ad2.add 1) s143.v w265 fun w266 =>
                       ldB ad2 w266 fun b130 =>
                       ldS (ad2.add 1) w266 fun s144 =>
                       R (.returned (Value.agg #[Value.bool b130, s144.v])) w266)))))) ∧
                 (newC w249 #[Value.bool false, (⟨none, 0, 0⟩ : Slc).v] 44 fun ad40 w267 =>
                  Bar (V1 0) w249 w267 ∧
                  (Calls Tryd.prog 66 #[Value.bool false, s135.v] w267 fun e60 w268 =>
                   ∃ b131 : Bool, ∃ s145 : Slc, e60 = .returned (Value.agg #[Value.bool b131, s145.v]) ∧
                   (Bar (V1 0) w267 w268 ∧
                    (Calls Tryd.prog 81 #[Value.agg #[Value.bool b8, s9.v], Value.agg #[Value.bool b131, s145.v]] w268 fun e61 w269 =>
                     ∃ b132 : Bool, ∃ s146 : Slc, ∃ b133 : Bool, ∃ s147 : Slc, e61 = .returned (Value.tuple #[Value.agg #[Value.bool b132, s146.v], Value.agg #[Value.bool b133, s147.v]]) ∧
                     (stC ad40 (Value.bool b132) w269 fun w270 =>
                      stC (ad40.add 1) s146.v w270 fun w271 =>
                      stC ad37 (Value.bool b133) w271 fun w272 =>
                      stC (ad37.add 1) s147.v w272 fun w273 =>
                      ldB ad40 w273 fun b134 =>
                      ldS (ad40.add 1) w273 fun s148 =>
                      stC ad2 (Value.bool b134) w273 fun w274 =>
                      stC (ad2.add 1) s148.v w274 fun w275 =>
                      ldB ad2 w275 fun b135 =>
                      ldS (ad2.add 1) w275 fun s149 =>
                      R (.returned (Value.agg #[Value.bool b135, s149.v])) w275)))))))) ∧
              (newC w248 #[Value.bool false, (⟨none, 0, 0⟩ : Slc).v] 44 fun ad41 w276 =>
               Bar (V1 0) w248 w276 ∧
               (Calls Tryd.prog 54 #[s134.v, Value.int .i64 (IntKind.i64.wrap (0 - a1_n))] w276 fun e62 w277 =>
                ∃ s150 : Slc, e62 = .returned s150.v ∧
                (Bar (V1 0) w276 w277 ∧
                 (Calls Tryd.prog 66 #[Value.bool false, s150.v] w277 fun e63 w278 =>
                  ∃ b136 : Bool, ∃ s151 : Slc, e63 = .returned (Value.agg #[Value.bool b136, s151.v]) ∧
                  (Bar (V1 0) w277 w278 ∧
                   (Calls Tryd.prog 81 #[Value.agg #[Value.bool b8, s9.v], Value.agg #[Value.bool b136, s151.v]] w278 fun e64 w279 =>
                    ∃ b137 : Bool, ∃ s152 : Slc, ∃ b138 : Bool, ∃ s153 : Slc, e64 = .returned (Value.tuple #[Value.agg #[Value.bool b137, s152.v], Value.agg #[Value.bool b138, s153.v]]) ∧
                    (stC ad41 (Value.bool b137) w279 fun w280 =>
                     stC (ad41.add 1) s152.v w280 fun w281 =>
                     stC ad37 (Value.bool b138) w281 fun w282 =>
                     stC (ad37.add 1) s153.v w282 fun w283 =>
                     ldB ad41 w283 fun b139 =>
                     ldS (ad41.add 1) w283 fun s154 =>
                     stC ad2 (Value.bool b139) w283 fun w284 =>
                     stC (ad2.add 1) s154.v w284 fun w285 =>
                     ldB ad2 w285 fun b140 =>
                     ldS (ad2.add 1) w285 fun s155 =>
                     R (.returned (Value.agg #[Value.bool b140, s155.v])) w285)))))))))) ∧
           (newC w247 #[Value.bool false, (⟨none, 0, 0⟩ : Slc).v] 44 fun ad42 w286 =>
            Bar (V1 0) w247 w286 ∧
            (Calls Tryd.prog 52 #[Value.int .i64 1] w286 fun e65 w287 =>
             ∃ s156 : Slc, e65 = .returned s156.v ∧
             (Bar (V1 0) w286 w287 ∧
              (Calls Tryd.prog 54 #[s156.v, Value.int .i64 (IntKind.i64.wrap (0 - a1_n))] w287 fun e66 w288 =>
               ∃ s157 : Slc, e66 = .returned s157.v ∧
               (Bar (V1 0) w287 w288 ∧
                (Calls Tryd.prog 66 #[Value.bool false, s157.v] w288 fun e67 w289 =>
                 ∃ b141 : Bool, ∃ s158 : Slc, e67 = .returned (Value.agg #[Value.bool b141, s158.v]) ∧
                 (Bar (V1 0) w288 w289 ∧
                  (Calls Tryd.prog 81 #[Value.agg #[Value.bool b8, s9.v], Value.agg #[Value.bool b141, s158.v]] w289 fun e68 w290 =>
                   ∃ b142 : Bool, ∃ s159 : Slc, ∃ b143 : Bool, ∃ s160 : Slc, e68 = .returned (Value.tuple #[Value.agg #[Value.bool b142, s159.v], Value.agg #[Value.bool b143, s160.v]]) ∧
                   (stC ad42 (Value.bool b142) w290 fun w291 =>
                    stC (ad42.add 1) s159.v w291 fun w292 =>
                    stC ad37 (Value.bool b143) w292 fun w293 =>
                    stC (ad37.add 1) s160.v w293 fun w294 =>
                    ldB ad42 w294 fun b144 =>
                    ldS (ad42.add 1) w294 fun s161 =>
                    stC ad2 (Value.bool b144) w294 fun w295 =>
                    stC (ad2.add 1) s161.v w295 fun w296 =>
                    ldB ad2 w296 fun b145 =>
                    ldS (ad2.add 1) w296 fun s162 =>
                    R (.returned (Value.agg #[Value.bool b145, s162.v])) w296))))))))))))))))) :
    Calls Tryd.prog 53 #[Value.agg #[Value.bool a0_a_0, a0_a_1.v], Value.int .i64 a1_n] w R := by
  refine calls_of_vc (marks [2000007] (fun _ => none)) (by kernel_rfl) Tryd.func53 rfl ?_ ?_
  · refine kcast h ?_; kernel_rfl
  · exact (obl_seq rfl (obl_reg (obl_seq rfl (obl_seq rfl (obl_reg (obl_cond (obl_seq rfl (obl_held (by kernel_rfl) (by kernel_rfl) (by kernel_rfl) (obl_ret (obl_skip (obl_seq rfl (obl_seq rfl (obl_reg (obl_cond (obl_seq rfl (obl_seq rfl (obl_reg (obl_cond (obl_seq rfl (obl_reg (obl_ret (obl_skip (obl_seq rfl (obl_reg (obl_ret (obl_skip (obl_seq rfl (obl_store _ rfl (by kernel_rfl) (obl_seq rfl (obl_reg (obl_ret trivial)))))))))))))))))))))))))))))))

set_option maxRecDepth 100000 in
/-- surd/dyadic.two: function 86. -/
theorem dyadic_two_vc (a0_a_0 : Bool) (a0_a_1 : Slc) (a0_a_2 : Int) (a1_b_0 : Bool) (a1_b_1 : Slc) (a1_b_2 : Int) (w : World) (R : Ending → World → Prop)
    
    (h : newC w #[Value.bool a0_a_0, a0_a_1.v, Value.int .i64 a0_a_2] 33 fun ad1 w1 =>
    newC w1 #[Value.bool a1_b_0, a1_b_1.v, Value.int .i64 a1_b_2] 33 fun ad2 w2 =>
    newC w2 #[Value.bool false, (⟨none, 0, 0⟩ : Slc).v, Value.int .i64 0] 98 fun ad3 w3 =>
    newC w3 #[Value.bool false, (⟨none, 0, 0⟩ : Slc).v, Value.int .i64 0] 98 fun ad4 w4 =>
    ldB ad1 w4 fun b1 =>
    ldS (ad1.add 1) w4 fun s1 =>
    ldI .i64 (ad1.add 2) w4 fun x1 =>
    Calls Tryd.prog 62 #[Value.agg #[Value.bool b1, s1.v, Value.int .i64 x1]] w4 fun e1 w5 =>
    ∃ b2 : Bool, ∃ s2 : Slc, ∃ x2 : Int, ∃ x3 : Int, e1 = .returned (Value.tuple #[Value.agg #[Value.bool b2, s2.v, Value.int .i64 x2], Value.int .i64 x3]) ∧
    (newC w5 #[Value.bool false, (⟨none, 0, 0⟩ : Slc).v, Value.int .i64 0] 98 fun ad5 w6 =>
     stC ad5 (Value.bool b2) w6 fun w7 =>
     stC (ad5.add 1) s2.v w7 fun w8 =>
     stC (ad5.add 2) (Value.int .i64 x2) w8 fun w9 =>
     br (x3 != 0)
     (∃ V1 : Nat → Nat → Prop, Out (V1 0) ad5 (ldB ad5 w9.drew fun b3 =>
       ldS (ad5.add 1) w9.drew fun s3 =>
       ldI .i64 (ad5.add 2) w9.drew fun x4 =>
       Out (V1 1) ad5 (ldB ad5 w9.drew fun b4 =>
        ldS (ad5.add 1) w9.drew fun s4 =>
        ldI .i64 (ad5.add 2) w9.drew fun x5 =>
        stC ad3 (Value.bool b3) w9.drew fun w10 =>
        stC (ad3.add 1) s3.v w10 fun w11 =>
        stC (ad3.add 2) (Value.int .i64 x4) w11 fun w12 =>
        Bar (V1 1) w9.drew w12 ∧
        (stC ad4 (Value.bool b4) w12 fun w13 =>
         stC (ad4.add 1) s4.v w13 fun w14 =>
         stC (ad4.add 2) (Value.int .i64 x5) w14 fun w15 =>
         ldB ad3 w15 fun b5 =>
         ldS (ad3.add 1) w15 fun s5 =>
         ldI .i64 (ad3.add 2) w15 fun x6 =>
         ldB ad4 w15 fun b6 =>
         ldS (ad4.add 1) w15 fun s6 =>
         ldI .i64 (ad4.add 2) w15 fun x7 =>
         R (.returned (Value.tuple #[Value.agg #[Value.bool b5, s5.v, Value.int .i64 x6], Value.agg #[Value.bool b6, s6.v, Value.int .i64 x7], Value.int .i64 x3])) w15))))
     (ldB ad2 w9 fun b7 =>
      ldS (ad2.add 1) w9 fun s7 =>
      ldI .i64 (ad2.add 2) w9 fun x8 =>
      Calls Tryd.prog 62 #[Value.agg #[Value.bool b7, s7.v, Value.int .i64 x8]] w9 fun e2 w16 =>
      ∃ b8 : Bool, ∃ s8 : Slc, ∃ x9 : Int, ∃ x10 : Int, e2 = .returned (Value.tuple #[Value.agg #[Value.bool b8, s8.v, Value.int .i64 x9], Value.int .i64 x10]) ∧
      (newC w16 #[Value.bool false, (⟨none, 0, 0⟩ : Slc).v, Value.int .i64 0] 98 fun ad6 w17 =>
       stC ad6 (Value.bool b8) w17 fun w18 =>
       stC (ad6.add 1) s8.v w18 fun w19 =>
       stC (ad6.add 2) (Value.int .i64 x9) w19 fun w20 =>
       ∃ V2 : Nat → Nat → Prop, Out (V2 0) ad5 (ldB ad5 w20.drew fun b9 =>
        ldS (ad5.add 1) w20.drew fun s9 =>
        ldI .i64 (ad5.add 2) w20.drew fun x11 =>
        Out (V2 1) ad6 (ldB ad6 w20.drew fun b10 =>
         ldS (ad6.add 1) w20.drew fun s10 =>
         ldI .i64 (ad6.add 2) w20.drew fun x12 =>
         stC ad3 (Value.bool b9) w20.drew fun w21 =>
         stC (ad3.add 1) s9.v w21 fun w22 =>
         stC (ad3.add 2) (Value.int .i64 x11) w22 fun w23 =>
         Bar (V2 1) w20.drew w23 ∧
         (stC ad4 (Value.bool b10) w23 fun w24 =>
          stC (ad4.add 1) s10.v w24 fun w25 =>
          stC (ad4.add 2) (Value.int .i64 x12) w25 fun w26 =>
          ldB ad3 w26 fun b11 =>
          ldS (ad3.add 1) w26 fun s11 =>
          ldI .i64 (ad3.add 2) w26 fun x13 =>
          ldB ad4 w26 fun b12 =>
          ldS (ad4.add 1) w26 fun s12 =>
          ldI .i64 (ad4.add 2) w26 fun x14 =>
          R (.returned (Value.tuple #[Value.agg #[Value.bool b11, s11.v, Value.int .i64 x13], Value.agg #[Value.bool b12, s12.v, Value.int .i64 x14], Value.int .i64 x10])) w26))))))) :
    Calls Tryd.prog 86 #[Value.agg #[Value.bool a0_a_0, a0_a_1.v, Value.int .i64 a0_a_2], Value.agg #[Value.bool a1_b_0, a1_b_1.v, Value.int .i64 a1_b_2]] w R := by
  refine calls_of_vc (marks [2000003, 2000005] (fun _ => none)) (by kernel_rfl) Tryd.func86 rfl ?_ ?_
  · refine kcast h ?_; kernel_rfl
  · exact (obl_seq rfl (obl_reg (obl_seq rfl (obl_reg (obl_seq rfl (obl_seq rfl (obl_reg (obl_cond (obl_seq rfl (obl_store _ rfl (by kernel_rfl) (obl_ret (obl_skip (obl_seq rfl (obl_reg (obl_seq rfl (obl_store _ rfl (by kernel_rfl) (obl_ret trivial)))))))))))))))))

end Go.Proofs.YthhbjhdnaopcnaaDoor
namespace Go.Proofs.YthhbjhdnaopcnaaDoor
open Go Go.RowKit Eng L2
set_option linter.unusedVariables false
set_option maxRecDepth 100000

/-- surd/dyadic.steps: function 84, its local variables as values. -/
theorem dyadic_steps_v2 (a0_0 : Bool) (a0_1 : Slc) (a0_2 : Int) (a1 : Int) (a2 : Int) (w : World) (R : Ending → World → Prop)
    (K3 : Int → Int → Bool → Bool → Slc → Int → Bool → Slc → World → Prop) (K8 : Int → Int → Slc → Bool → Slc → Int → Bool → Slc → World → Prop) (K16 : Slc → Bool → Bool → Slc → Int → Bool → Slc → World → Prop)
    (h : ∀ w1, Ext w w1 → Ahead w w1 →
    (Calls Tryd.prog 71 #[Value.agg #[Value.bool a0_0, a0_1.v]] w1 fun e1 w2 =>
     ∃ x1 : Int, e1 = .returned (Value.int .i64 x1) ∧ Ahead w1 w2 ∧
     (br (x1 == 0)
      (K3 a1 a2 true a0_0 a0_1 a0_2 false (⟨none, 0, 0⟩ : Slc) w2)
      (K3 a1 a2 (decide (a0_2 ≥ a1)) a0_0 a0_1 a0_2 false (⟨none, 0, 0⟩ : Slc) w2))))
    (h3000003 : ∀ (t1 : Int) (t2 : Int) (t19 : Bool) (t3_0 : Bool) (t3_1 : Slc) (t3_2 : Int) (t6_0 : Bool) (t6_1 : Slc) (w_ : World), Ahead w w_ → K3 t1 t2 t19 t3_0 t3_1 t3_2 t6_0 t6_1 w_ → 
    br t19
    (∀ w3, Ext w_ w3 → Ahead w w3 →
     (Calls Tryd.prog 107 #[t3_1.v, Value.int .i64 (maxI (IntKind.i64.wrap (t3_2 - t1)) 0)] w3 fun e2 w4 =>
      ∃ s1 : Slc, e2 = .returned s1.v ∧ Ahead w3 w4 ∧
      (∀ w5, Ext w4 w5 → Ahead w w5 →
       (R (.returned (Value.agg #[Value.bool t3_0, s1.v])) w5))))
    (Calls Tryd.prog 73 #[Value.agg #[Value.bool t3_0, t3_1.v]] w_ fun e3 w6 =>
     ∃ x2 : Int, e3 = .returned (Value.int .i64 x2) ∧ Ahead w_ w6 ∧
     (br (decide ((IntKind.i64.wrap (t1 - t3_2)) < x2))
      (Calls Tryd.prog 108 #[t3_1.v, Value.int .i64 (IntKind.i64.wrap (t1 - t3_2))] w6 fun e4 w7 =>
       ∃ s2 : Slc, e4 = .returned s2.v ∧ Ahead w6 w7 ∧
       (K8 t2 (IntKind.i64.wrap (t1 - t3_2)) s2 t3_0 t3_1 t3_2 t6_0 t6_1 w7))
      (K8 t2 (IntKind.i64.wrap (t1 - t3_2)) (⟨none, 0, 0⟩ : Slc) t3_0 t3_1 t3_2 t6_0 t6_1 w6))))
    (h3000008 : ∀ (t2 : Int) (t7 : Int) (t8 : Slc) (t3_0 : Bool) (t3_1 : Slc) (t3_2 : Int) (t6_0 : Bool) (t6_1 : Slc) (w_ : World), Ahead w w_ → K8 t2 t7 t8 t3_0 t3_1 t3_2 t6_0 t6_1 w_ → 
    br (t2 == 2)
    (Calls Tryd.prog 109 #[t3_1.v, Value.int .i64 (IntKind.i64.wrap (t7 - 1))] w_ fun e5 w8 =>
     ∃ x3 : Int, e5 = .returned (Value.int .i64 x3) ∧ Ahead w_ w8 ∧
     (br (x3 == 1)
      (Calls Tryd.prog 110 #[t3_1.v] w8 fun e6 w9 =>
       ∃ x4 : Int, e6 = .returned (Value.int .i64 x4) ∧ Ahead w8 w9 ∧
       (br (decide (x4 < (IntKind.i64.wrap (t7 - 1))))
        (K16 t8 true t3_0 t3_1 t3_2 t6_0 t6_1 w9)
        (Calls Tryd.prog 109 #[t8.v, Value.int .i64 0] w9 fun e9 w14 =>
         ∃ x5 : Int, e9 = .returned (Value.int .i64 x5) ∧ Ahead w9 w14 ∧
         (br (!(x5 == 1))
          (K16 t8 false t3_0 t3_1 t3_2 t6_0 t6_1 w14)
          (K16 t8 true t3_0 t3_1 t3_2 t6_0 t6_1 w14)))))
      (K16 t8 false t3_0 t3_1 t3_2 t6_0 t6_1 w8)))
    (br (t2 == 0)
     (K16 t8 t3_0 t3_0 t3_1 t3_2 t6_0 t6_1 w_)
     (K16 t8 (!t3_0) t3_0 t3_1 t3_2 t6_0 t6_1 w_)))
    (h3000016 : ∀ (t8 : Slc) (t9 : Bool) (t3_0 : Bool) (t3_1 : Slc) (t3_2 : Int) (t6_0 : Bool) (t6_1 : Slc) (w_ : World), Ahead w w_ → K16 t8 t9 t3_0 t3_1 t3_2 t6_0 t6_1 w_ → 
    br t9
    (Calls Tryd.prog 101 #[Value.int .u64 1] w_ fun e7 w10 =>
     ∃ s3 : Slc, e7 = .returned s3.v ∧ Ahead w_ w10 ∧
     (Calls Tryd.prog 111 #[t8.v, s3.v] w10 fun e8 w11 =>
      ∃ s4 : Slc, e8 = .returned s4.v ∧ Ahead w10 w11 ∧
      (∀ w12, Ext w11 w12 → Ahead w w12 →
       (R (.returned (Value.agg #[Value.bool t3_0, s4.v])) w12))))
    (∀ w13, Ext w_ w13 → Ahead w w13 →
     (R (.returned (Value.agg #[Value.bool t3_0, t8.v])) w13))) :
    Calls Tryd.prog 84 #[Value.agg #[Value.bool a0_0, a0_1.v, Value.int .i64 a0_2], Value.int .i64 a1, Value.int .i64 a2] w (fun e_ w_ => Ahead w w_ ∧ R e_ w_) := by
  refine dyadic_steps_vc a0_0 a0_1 a0_2 a1 a2 w _ (fun t1 t2 t3 t6 t19 w_ => ∃ c3_ : Nat, ∃ c6_ : Nat, ∃ t3_0 : Bool, ∃ t3_1 : Slc, ∃ t3_2 : Int, ∃ t6_0 : Bool, ∃ t6_1 : Slc, t3 = ⟨c3_, 0, none⟩ ∧ Blt w_ c3_ 98 #[Value.bool t3_0, t3_1.v, Value.int .i64 t3_2] ∧ w.heap.size ≤ c3_ ∧ t6 = ⟨c6_, 0, none⟩ ∧ Blt w_ c6_ 31 #[Value.bool t6_0, t6_1.v] ∧ w.heap.size ≤ c6_ ∧ c3_ ≠ c6_ ∧ Ahead w w_ ∧ K3 t1 t2 t19 t3_0 t3_1 t3_2 t6_0 t6_1 w_) (fun t2 t3 t6 t7 t8 w_ => ∃ c3_ : Nat, ∃ c6_ : Nat, ∃ t3_0 : Bool, ∃ t3_1 : Slc, ∃ t3_2 : Int, ∃ t6_0 : Bool, ∃ t6_1 : Slc, t3 = ⟨c3_, 0, none⟩ ∧ Blt w_ c3_ 98 #[Value.bool t3_0, t3_1.v, Value.int .i64 t3_2] ∧ w.heap.size ≤ c3_ ∧ t6 = ⟨c6_, 0, none⟩ ∧ Blt w_ c6_ 31 #[Value.bool t6_0, t6_1.v] ∧ w.heap.size ≤ c6_ ∧ c3_ ≠ c6_ ∧ Ahead w w_ ∧ K8 t2 t7 t8 t3_0 t3_1 t3_2 t6_0 t6_1 w_) (fun t3 t6 t8 t9 w_ => ∃ c3_ : Nat, ∃ c6_ : Nat, ∃ t3_0 : Bool, ∃ t3_1 : Slc, ∃ t3_2 : Int, ∃ t6_0 : Bool, ∃ t6_1 : Slc, t3 = ⟨c3_, 0, none⟩ ∧ Blt w_ c3_ 98 #[Value.bool t3_0, t3_1.v, Value.int .i64 t3_2] ∧ w.heap.size ≤ c3_ ∧ t6 = ⟨c6_, 0, none⟩ ∧ Blt w_ c6_ 31 #[Value.bool t6_0, t6_1.v] ∧ w.heap.size ≤ c6_ ∧ c3_ ≠ c6_ ∧ Ahead w w_ ∧ K16 t8 t9 t3_0 t3_1 t3_2 t6_0 t6_1 w_) ?_ ?_ ?_ ?_
  · have A : Ahead w w := Ahead.refl w
    have X : Ext w w := Ext.refl w
    refine newC_t fun bk1 u1 hb1 ha_u1 hs B1 => ?_
    have g1 : w.heap.size ≤ bk1 := by have := A.size; omega
    replace A := A.trans ha_u1
    replace X := X.trans (Ext.of_ahead ha_u1)
    clear hs hb1
    refine newC_t fun bk2 u2 hb2 ha_u2 hs B2 => ?_
    have g2 : w.heap.size ≤ bk2 := by have := A.size; omega
    have l1_2 : bk1 < bk2 := by have := B1.lt; omega
    replace B1 := B1.ahead ha_u2
    replace A := A.trans ha_u2
    replace X := X.trans (Ext.of_ahead ha_u2)
    clear hs hb2
    refine ldB_t 0 B1 rfl ?_
    refine ldS_t 1 B1 rfl ?_
    replace h := h _ X A
    refine Calls.mono h ?_
    clear h
    rintro e1 w2 ⟨x1, he_, ha_w2, h⟩
    refine ⟨x1, he_, ?_⟩
    clear he_
    replace B1 := B1.ahead ha_w2
    replace B2 := B2.ahead ha_w2
    replace A := A.trans ha_w2
    replace X := X.trans (Ext.of_ahead ha_w2)
    replace X : Ext w2 w2 := Ext.refl _
    refine br_map h (fun h_ => ?_) (fun h_ => ?_)
    · skip
      clear h
      have h := h_
      clear h_
      exact ⟨bk1, bk2, a0_0, a0_1, a0_2, false, (⟨none, 0, 0⟩ : Slc), rfl, B1, g1, rfl, B2, g2, (by omega), A, h⟩
    · skip
      clear h
      have h := h_
      clear h_
      refine ldI_t 2 B1 rfl ?_
      exact ⟨bk1, bk2, a0_0, a0_1, a0_2, false, (⟨none, 0, 0⟩ : Slc), rfl, B1, g1, rfl, B2, g2, (by omega), A, h⟩
  · clear h
    rintro t1 t2 t3 t6 t19 w_ ⟨bk1, bk2, t3_0, t3_1, t3_2, t6_0, t6_1, rfl, B1, g1, rfl, B2, g2, n1_2, A, hJ3000003⟩
    have h := h3000003  t1 t2 t19 t3_0 t3_1 t3_2 t6_0 t6_1 w_ A hJ3000003
    have X : Ext w_ w_ := Ext.refl _
    refine br_map h (fun h_ => ?_) (fun h_ => ?_)
    · skip
      clear h
      have h := h_
      clear h_
      have hd_ := Sp.Ahead.drew w_
      replace B1 := B1.ahead hd_
      replace B2 := B2.ahead hd_
      replace A := A.trans hd_
      replace X := X.trans (Ext.of_ahead hd_)
      clear hd_
      refine ldB_t 0 B1 rfl ?_
      refine ldS_t 1 B1 rfl ?_
      refine ldI_t 2 B1 rfl ?_
      replace h := h _ X A
      refine Calls.mono h ?_
      clear h
      rintro e2 w4 ⟨s1, he_, ha_w4, h⟩
      refine ⟨s1, he_, ?_⟩
      clear he_
      replace B1 := B1.ahead ha_w4
      replace B2 := B2.ahead ha_w4
      replace A := A.trans ha_w4
      replace X := X.trans (Ext.of_ahead ha_w4)
      replace X : Ext w4 w4 := Ext.refl _
      refine ⟨ha_w4, ?_⟩
      refine stC_t 0 B2 rfl rfl rfl fun u3 k_u3 B2_ => ?_
      replace B2 : Blt u3 bk2 31 #[Value.bool t3_0, t6_1.v] := B2_
      clear B2_
      refine stC_t 1 B2 rfl rfl rfl fun u4 k_u4 B2_ => ?_
      replace B2 : Blt u4 bk2 31 #[Value.bool t3_0, s1.v] := B2_
      clear B2_
      have kk_u3 := (k_u3.trans k_u4)
      replace B1 := kk_u3.blt B1 (by omega)
      replace A := kk_u3.ahead A g2
      replace X := X.trans kk_u3.ext
      clear k_u4 k_u3
      refine ldB_t 0 B2 rfl ?_
      refine ldS_t 1 B2 rfl ?_
      replace h := h _ X A
      exact ⟨A, h⟩
    · skip
      clear h
      have h := h_
      clear h_
      refine ldI_t 2 B1 rfl ?_
      refine ldB_t 0 B1 rfl ?_
      refine ldS_t 1 B1 rfl ?_
      refine Calls.mono h ?_
      clear h
      rintro e3 w6 ⟨x2, he_, ha_w6, h⟩
      refine ⟨x2, he_, ?_⟩
      clear he_
      replace B1 := B1.ahead ha_w6
      replace B2 := B2.ahead ha_w6
      replace A := A.trans ha_w6
      replace X := X.trans (Ext.of_ahead ha_w6)
      replace X : Ext w6 w6 := Ext.refl _
      refine br_map h (fun h_ => ?_) (fun h_ => ?_)
      · skip
        clear h
        have h := h_
        clear h_
        refine ldS_t 1 B1 rfl ?_
        refine Calls.mono h ?_
        clear h
        rintro e4 w7 ⟨s2, he_, ha_w7, h⟩
        refine ⟨s2, he_, ?_⟩
        clear he_
        replace B1 := B1.ahead ha_w7
        replace B2 := B2.ahead ha_w7
        replace A := A.trans ha_w7
        replace X := X.trans (Ext.of_ahead ha_w7)
        replace X : Ext w7 w7 := Ext.refl _
        exact ⟨bk1, bk2, t3_0, t3_1, t3_2, t6_0, t6_1, rfl, B1, g1, rfl, B2, g2, (by omega), A, h⟩
      · skip
        clear h
        have h := h_
        clear h_
        exact ⟨bk1, bk2, t3_0, t3_1, t3_2, t6_0, t6_1, rfl, B1, g1, rfl, B2, g2, (by omega), A, h⟩
  · clear h
    rintro t2 t3 t6 t7 t8 w_ ⟨bk1, bk2, t3_0, t3_1, t3_2, t6_0, t6_1, rfl, B1, g1, rfl, B2, g2, n1_2, A, hJ3000008⟩
    have h := h3000008  t2 t7 t8 t3_0 t3_1 t3_2 t6_0 t6_1 w_ A hJ3000008
    have X : Ext w_ w_ := Ext.refl _
    refine br_map h (fun h_ => ?_) (fun h_ => ?_)
    · skip
      clear h
      have h := h_
      clear h_
      refine ldS_t 1 B1 rfl ?_
      refine Calls.mono h ?_
      clear h
      rintro e5 w8 ⟨x3, he_, ha_w8, h⟩
      refine ⟨x3, he_, ?_⟩
      clear he_
      replace B1 := B1.ahead ha_w8
      replace B2 := B2.ahead ha_w8
      replace A := A.trans ha_w8
      replace X := X.trans (Ext.of_ahead ha_w8)
      replace X : Ext w8 w8 := Ext.refl _
      refine br_map h (fun h_ => ?_) (fun h_ => ?_)
      · skip
        clear h
        have h := h_
        clear h_
        refine ldS_t 1 B1 rfl ?_
        refine Calls.mono h ?_
        clear h
        rintro e6 w9 ⟨x4, he_, ha_w9, h⟩
        refine ⟨x4, he_, ?_⟩
        clear he_
        replace B1 := B1.ahead ha_w9
        replace B2 := B2.ahead ha_w9
        replace A := A.trans ha_w9
        replace X := X.trans (Ext.of_ahead ha_w9)
        replace X : Ext w9 w9 := Ext.refl _
        refine br_map h (fun h_ => ?_) (fun h_ => ?_)
        · skip
          clear h
          have h := h_
          clear h_
          exact ⟨bk1, bk2, t3_0, t3_1, t3_2, t6_0, t6_1, rfl, B1, g1, rfl, B2, g2, (by omega), A, h⟩
        · skip
          clear h
          have h := h_
          clear h_
          refine Calls.mono h ?_
          clear h
          rintro e9 w14 ⟨x5, he_, ha_w14, h⟩
          refine ⟨x5, he_, ?_⟩
          clear he_
          replace B1 := B1.ahead ha_w14
          replace B2 := B2.ahead ha_w14
          replace A := A.trans ha_w14
          replace X := X.trans (Ext.of_ahead ha_w14)
          replace X : Ext w14 w14 := Ext.refl _
          refine br_map h (fun h_ => ?_) (fun h_ => ?_)
          · skip
            clear h
            have h := h_
            clear h_
            exact ⟨bk1, bk2, t3_0, t3_1, t3_2, t6_0, t6_1, rfl, B1, g1, rfl, B2, g2, (by omega), A, h⟩
          · skip
            clear h
            have h := h_
            clear h_
            exact ⟨bk1, bk2, t3_0, t3_1, t3_2, t6_0, t6_1, rfl, B1, g1, rfl, B2, g2, (by omega), A, h⟩
      · skip
        clear h
        have h := h_
        clear h_
        exact ⟨bk1, bk2, t3_0, t3_1, t3_2, t6_0, t6_1, rfl, B1, g1, rfl, B2, g2, (by omega), A, h⟩
    · skip
      clear h
      have h := h_
      clear h_
      refine br_map h (fun h_ => ?_) (fun h_ => ?_)
      · skip
        clear h
        have h := h_
        clear h_
        refine ldB_t 0 B1 rfl ?_
        exact ⟨bk1, bk2, t3_0, t3_1, t3_2, t6_0, t6_1, rfl, B1, g1, rfl, B2, g2, (by omega), A, h⟩
      · skip
        clear h
        have h := h_
        clear h_
        refine ldB_t 0 B1 rfl ?_
        exact ⟨bk1, bk2, t3_0, t3_1, t3_2, t6_0, t6_1, rfl, B1, g1, rfl, B2, g2, (by omega), A, h⟩
  · clear h
    rintro t3 t6 t8 t9 w_ ⟨bk1, bk2, t3_0, t3_1, t3_2, t6_0, t6_1, rfl, B1, g1, rfl, B2, g2, n1_2, A, hJ3000016⟩
    have h := h3000016  t8 t9 t3_0 t3_1 t3_2 t6_0 t6_1 w_ A hJ3000016
    have X : Ext w_ w_ := Ext.refl _
    refine br_map h (fun h_ => ?_) (fun h_ => ?_)
    · skip
      clear h
      have h := h_
      clear h_
      refine Calls.mono h ?_
      clear h
      rintro e7 w10 ⟨s3, he_, ha_w10, h⟩
      refine ⟨s3, he_, ?_⟩
      clear he_
      replace B1 := B1.ahead ha_w10
      replace B2 := B2.ahead ha_w10
      replace A := A.trans ha_w10
      replace X := X.trans (Ext.of_ahead ha_w10)
      replace X : Ext w10 w10 := Ext.refl _
      refine Calls.mono h ?_
      clear h
      rintro e8 w11 ⟨s4, he_, ha_w11, h⟩
      refine ⟨s4, he_, ?_⟩
      clear he_
      replace B1 := B1.ahead ha_w11
      replace B2 := B2.ahead ha_w11
      replace A := A.trans ha_w11
      replace X := X.trans (Ext.of_ahead ha_w11)
      replace X : Ext w11 w11 := Ext.refl _
      refine ldB_t 0 B1 rfl ?_
      refine stC_t 0 B2 rfl rfl rfl fun u5 k_u5 B2_ => ?_
      replace B2 : Blt u5 bk2 31 #[Value.bool t3_0, t6_1.v] := B2_
      clear B2_
      refine stC_t 1 B2 rfl rfl rfl fun u6 k_u6 B2_ => ?_
      replace B2 : Blt u6 bk2 31 #[Value.bool t3_0, s4.v] := B2_
      clear B2_
      have kk_u5 := (k_u5.trans k_u6)
      replace B1 := kk_u5.blt B1 (by omega)
      replace A := kk_u5.ahead A g2
      replace X := X.trans kk_u5.ext
      clear k_u6 k_u5
      refine ldB_t 0 B2 rfl ?_
      refine ldS_t 1 B2 rfl ?_
      replace h := h _ X A
      exact ⟨A, h⟩
    · skip
      clear h
      have h := h_
      clear h_
      refine ldB_t 0 B1 rfl ?_
      refine stC_t 0 B2 rfl rfl rfl fun u7 k_u7 B2_ => ?_
      replace B2 : Blt u7 bk2 31 #[Value.bool t3_0, t6_1.v] := B2_
      clear B2_
      refine stC_t 1 B2 rfl rfl rfl fun u8 k_u8 B2_ => ?_
      replace B2 : Blt u8 bk2 31 #[Value.bool t3_0, t8.v] := B2_
      clear B2_
      have kk_u7 := (k_u7.trans k_u8)
      replace B1 := kk_u7.blt B1 (by omega)
      replace A := kk_u7.ahead A g2
      replace X := X.trans kk_u7.ext
      clear k_u8 k_u7
      refine ldB_t 0 B2 rfl ?_
      refine ldS_t 1 B2 rfl ?_
      replace h := h _ X A
      exact ⟨A, h⟩

/-- surd/dyadic.rounded: function 80, its local variables as values. -/
theorem dyadic_rounded_v2 (a0_x_0 : Bool) (a0_x_1 : Slc) (a0_x_2 : Int) (a1_pos : Int) (a2_m : Int) (w : World) (R : Ending → World → Prop)
    
    (h : ∀ w1, Ext w w1 → Ahead w w1 →
    (Calls Tryd.prog 71 #[Value.agg #[Value.bool a0_x_0, a0_x_1.v]] w1 fun e1 w2 =>
     ∃ x1 : Int, e1 = .returned (Value.int .i64 x1) ∧ Ahead w1 w2 ∧
     (br (x1 == 0)
      (Calls Tryd.prog 64 #[Value.agg #[Value.bool a0_x_0, a0_x_1.v], Value.int .i64 a0_x_2] w2 fun e2 w3 =>
       ∃ b1 : Bool, ∃ s1 : Slc, ∃ x2 : Int, ∃ x3 : Int, e2 = .returned (Value.tuple #[Value.agg #[Value.bool b1, s1.v, Value.int .i64 x2], Value.int .i64 x3]) ∧ Ahead w2 w3 ∧
       (∀ w4, Ext w3 w4 → Ahead w w4 →
        (R (.returned (Value.tuple #[Value.agg #[Value.bool b1, s1.v, Value.int .i64 x2], Value.int .i64 x3])) w4)))
      (br (decide (a0_x_2 ≥ a1_pos))
       (Calls Tryd.prog 64 #[Value.agg #[Value.bool a0_x_0, a0_x_1.v], Value.int .i64 a0_x_2] w2 fun e3 w5 =>
        ∃ b2 : Bool, ∃ s2 : Slc, ∃ x4 : Int, ∃ x5 : Int, e3 = .returned (Value.tuple #[Value.agg #[Value.bool b2, s2.v, Value.int .i64 x4], Value.int .i64 x5]) ∧ Ahead w2 w5 ∧
        (∀ w6, Ext w5 w6 → Ahead w w6 →
         (R (.returned (Value.tuple #[Value.agg #[Value.bool b2, s2.v, Value.int .i64 x4], Value.int .i64 x5])) w6)))
       (Calls Tryd.prog 84 #[Value.agg #[Value.bool a0_x_0, a0_x_1.v, Value.int .i64 a0_x_2], Value.int .i64 a1_pos, Value.int .i64 a2_m] w2 fun e4 w7 =>
        ∃ b3 : Bool, ∃ s3 : Slc, e4 = .returned (Value.agg #[Value.bool b3, s3.v]) ∧ Ahead w2 w7 ∧
        (Calls Tryd.prog 64 #[Value.agg #[Value.bool b3, s3.v], Value.int .i64 a1_pos] w7 fun e5 w8 =>
         ∃ b4 : Bool, ∃ s4 : Slc, ∃ x6 : Int, ∃ x7 : Int, e5 = .returned (Value.tuple #[Value.agg #[Value.bool b4, s4.v, Value.int .i64 x6], Value.int .i64 x7]) ∧ Ahead w7 w8 ∧
         (∀ w9, Ext w8 w9 → Ahead w w9 →
          (R (.returned (Value.tuple #[Value.agg #[Value.bool b4, s4.v, Value.int .i64 x6], Value.int .i64 x7])) w9))))))))
     :
    Calls Tryd.prog 80 #[Value.agg #[Value.bool a0_x_0, a0_x_1.v, Value.int .i64 a0_x_2], Value.int .i64 a1_pos, Value.int .i64 a2_m] w (fun e_ w_ => Ahead w w_ ∧ R e_ w_) := by
  refine dyadic_rounded_vc a0_x_0 a0_x_1 a0_x_2 a1_pos a2_m w _  ?_
  · have A : Ahead w w := Ahead.refl w
    have X : Ext w w := Ext.refl w
    refine newC_t fun bk1 u1 hb1 ha_u1 hs B1 => ?_
    have g1 : w.heap.size ≤ bk1 := by have := A.size; omega
    replace A := A.trans ha_u1
    replace X := X.trans (Ext.of_ahead ha_u1)
    clear hs hb1
    refine newC_t fun bk2 u2 hb2 ha_u2 hs B2 => ?_
    have g2 : w.heap.size ≤ bk2 := by have := A.size; omega
    have l1_2 : bk1 < bk2 := by have := B1.lt; omega
    replace B1 := B1.ahead ha_u2
    replace A := A.trans ha_u2
    replace X := X.trans (Ext.of_ahead ha_u2)
    clear hs hb2
    refine ldB_t 0 B1 rfl ?_
    refine ldS_t 1 B1 rfl ?_
    replace h := h _ X A
    refine Calls.mono h ?_
    clear h
    rintro e1 w2 ⟨x1, he_, ha_w2, h⟩
    refine ⟨x1, he_, ?_⟩
    clear he_
    replace B1 := B1.ahead ha_w2
    replace B2 := B2.ahead ha_w2
    replace A := A.trans ha_w2
    replace X := X.trans (Ext.of_ahead ha_w2)
    replace X : Ext w2 w2 := Ext.refl _
    refine br_map h (fun h_ => ?_) (fun h_ => ?_)
    · skip
      clear h
      have h := h_
      clear h_
      refine ldB_t 0 B1 rfl ?_
      refine ldS_t 1 B1 rfl ?_
      refine ldI_t 2 B1 rfl ?_
      refine Calls.mono h ?_
      clear h
      rintro e2 w3 ⟨b1, s1, x2, x3, he_, ha_w3, h⟩
      refine ⟨b1, s1, x2, x3, he_, ?_⟩
      clear he_
      replace B1 := B1.ahead ha_w3
      replace B2 := B2.ahead ha_w3
      replace A := A.trans ha_w3
      replace X := X.trans (Ext.of_ahead ha_w3)
      replace X : Ext w3 w3 := Ext.refl _
      refine stC_t 0 B2 rfl rfl rfl fun u3 k_u3 B2_ => ?_
      replace B2 : Blt u3 bk2 33 #[Value.bool b1, (⟨none, 0, 0⟩ : Slc).v, Value.int .i64 0] := B2_
      clear B2_
      refine stC_t 1 B2 rfl rfl rfl fun u4 k_u4 B2_ => ?_
      replace B2 : Blt u4 bk2 33 #[Value.bool b1, s1.v, Value.int .i64 0] := B2_
      clear B2_
      refine stC_t 2 B2 rfl rfl rfl fun u5 k_u5 B2_ => ?_
      replace B2 : Blt u5 bk2 33 #[Value.bool b1, s1.v, Value.int .i64 x2] := B2_
      clear B2_
      have kk_u3 := ((k_u3.trans k_u4).trans k_u5)
      replace B1 := kk_u3.blt B1 (by omega)
      replace A := kk_u3.ahead A g2
      replace X := X.trans kk_u3.ext
      clear k_u5 k_u4 k_u3
      refine ldB_t 0 B2 rfl ?_
      refine ldS_t 1 B2 rfl ?_
      refine ldI_t 2 B2 rfl ?_
      replace h := h _ X A
      exact ⟨A, h⟩
    · skip
      clear h
      have h := h_
      clear h_
      refine ldI_t 2 B1 rfl ?_
      refine br_map h (fun h_ => ?_) (fun h_ => ?_)
      · skip
        clear h
        have h := h_
        clear h_
        refine ldB_t 0 B1 rfl ?_
        refine ldS_t 1 B1 rfl ?_
        refine ldI_t 2 B1 rfl ?_
        refine Calls.mono h ?_
        clear h
        rintro e3 w5 ⟨b2, s2, x4, x5, he_, ha_w5, h⟩
        refine ⟨b2, s2, x4, x5, he_, ?_⟩
        clear he_
        replace B1 := B1.ahead ha_w5
        replace B2 := B2.ahead ha_w5
        replace A := A.trans ha_w5
        replace X := X.trans (Ext.of_ahead ha_w5)
        replace X : Ext w5 w5 := Ext.refl _
        refine stC_t 0 B2 rfl rfl rfl fun u6 k_u6 B2_ => ?_
        replace B2 : Blt u6 bk2 33 #[Value.bool b2, (⟨none, 0, 0⟩ : Slc).v, Value.int .i64 0] := B2_
        clear B2_
        refine stC_t 1 B2 rfl rfl rfl fun u7 k_u7 B2_ => ?_
        replace B2 : Blt u7 bk2 33 #[Value.bool b2, s2.v, Value.int .i64 0] := B2_
        clear B2_
        refine stC_t 2 B2 rfl rfl rfl fun u8 k_u8 B2_ => ?_
        replace B2 : Blt u8 bk2 33 #[Value.bool b2, s2.v, Value.int .i64 x4] := B2_
        clear B2_
        have kk_u6 := ((k_u6.trans k_u7).trans k_u8)
        replace B1 := kk_u6.blt B1 (by omega)
        replace A := kk_u6.ahead A g2
        replace X := X.trans kk_u6.ext
        clear k_u8 k_u7 k_u6
        refine ldB_t 0 B2 rfl ?_
        refine ldS_t 1 B2 rfl ?_
        refine ldI_t 2 B2 rfl ?_
        replace h := h _ X A
        exact ⟨A, h⟩
      · skip
        clear h
        have h := h_
        clear h_
        refine ldB_t 0 B1 rfl ?_
        refine ldS_t 1 B1 rfl ?_
        refine ldI_t 2 B1 rfl ?_
        refine Calls.mono h ?_
        clear h
        rintro e4 w7 ⟨b3, s3, he_, ha_w7, h⟩
        refine ⟨b3, s3, he_, ?_⟩
        clear he_
        replace B1 := B1.ahead ha_w7
        replace B2 := B2.ahead ha_w7
        replace A := A.trans ha_w7
        replace X := X.trans (Ext.of_ahead ha_w7)
        replace X : Ext w7 w7 := Ext.refl _
        refine Calls.mono h ?_
        clear h
        rintro e5 w8 ⟨b4, s4, x6, x7, he_, ha_w8, h⟩
        refine ⟨b4, s4, x6, x7, he_, ?_⟩
        clear he_
        replace B1 := B1.ahead ha_w8
        replace B2 := B2.ahead ha_w8
        replace A := A.trans ha_w8
        replace X := X.trans (Ext.of_ahead ha_w8)
        replace X : Ext w8 w8 := Ext.refl _
        refine stC_t 0 B2 rfl rfl rfl fun u9 k_u9 B2_ => ?_
        replace B2 : Blt u9 bk2 33 #[Value.bool b4, (⟨none, 0, 0⟩ : Slc).v, Value.int .i64 0] := B2_
        clear B2_
        refine stC_t 1 B2 rfl rfl rfl fun u10 k_u10 B2_ => ?_
        replace B2 : Blt u10 bk2 33 #[Value.bool b4, s4.v, Value.int .i64 0] := B2_
        clear B2_
        refine stC_t 2 B2 rfl rfl rfl fun u11 k_u11 B2_ => ?_
        replace B2 : Blt u11 bk2 33 #[Value.bool b4, s4.v, Value.int .i64 x6] := B2_
        clear B2_
        have kk_u9 := ((k_u9.trans k_u10).trans k_u11)
        replace B1 := kk_u9.blt B1 (by omega)
        replace A := kk_u9.ahead A g2
        replace X := X.trans kk_u9.ext
        clear k_u11 k_u10 k_u9
        refine ldB_t 0 B2 rfl ?_
        refine ldS_t 1 B2 rfl ?_
        refine ldI_t 2 B2 rfl ?_
        replace h := h _ X A
        exact ⟨A, h⟩

/-- surd/surdref06.Neg: function 96, its local variables as values. -/
theorem surdref06_Neg_v2 (a0_a_0 : Bool) (a0_a_1 : Slc) (w : World) (R : Ending → World → Prop)
    
    (h : ∀ w1, Ext w w1 → Ahead w w1 →
    (Calls Tryd.prog 66 #[Value.bool (!a0_a_0), a0_a_1.v] w1 fun e1 w2 =>
     ∃ b1 : Bool, ∃ s1 : Slc, e1 = .returned (Value.agg #[Value.bool b1, s1.v]) ∧ Ahead w1 w2 ∧
     (∀ w3, Ext w2 w3 → Ahead w w3 →
      (R (.returned (Value.agg #[Value.bool b1, s1.v])) w3))))
     :
    Calls Tryd.prog 96 #[Value.agg #[Value.bool a0_a_0, a0_a_1.v]] w (fun e_ w_ => Ahead w w_ ∧ R e_ w_) := by
  refine surdref06_Neg_vc a0_a_0 a0_a_1 w _  ?_
  · have A : Ahead w w := Ahead.refl w
    have X : Ext w w := Ext.refl w
    refine newC_t fun bk1 u1 hb1 ha_u1 hs B1 => ?_
    have g1 : w.heap.size ≤ bk1 := by have := A.size; omega
    replace A := A.trans ha_u1
    replace X := X.trans (Ext.of_ahead ha_u1)
    clear hs hb1
    refine newC_t fun bk2 u2 hb2 ha_u2 hs B2 => ?_
    have g2 : w.heap.size ≤ bk2 := by have := A.size; omega
    have l1_2 : bk1 < bk2 := by have := B1.lt; omega
    replace B1 := B1.ahead ha_u2
    replace A := A.trans ha_u2
    replace X := X.trans (Ext.of_ahead ha_u2)
    clear hs hb2
    refine ldB_t 0 B1 rfl ?_
    refine ldS_t 1 B1 rfl ?_
    replace h := h _ X A
    refine Calls.mono h ?_
    clear h
    rintro e1 w2 ⟨b1, s1, he_, ha_w2, h⟩
    refine ⟨b1, s1, he_, ?_⟩
    clear he_
    replace B1 := B1.ahead ha_w2
    replace B2 := B2.ahead ha_w2
    replace A := A.trans ha_w2
    replace X := X.trans (Ext.of_ahead ha_w2)
    replace X : Ext w2 w2 := Ext.refl _
    refine stC_t 0 B2 rfl rfl rfl fun u3 k_u3 B2_ => ?_
    replace B2 : Blt u3 bk2 44 #[Value.bool b1, (⟨none, 0, 0⟩ : Slc).v] := B2_
    clear B2_
    refine stC_t 1 B2 rfl rfl rfl fun u4 k_u4 B2_ => ?_
    replace B2 : Blt u4 bk2 44 #[Value.bool b1, s1.v] := B2_
    clear B2_
    have kk_u3 := (k_u3.trans k_u4)
    replace B1 := kk_u3.blt B1 (by omega)
    replace A := kk_u3.ahead A g2
    replace X := X.trans kk_u3.ext
    clear k_u4 k_u3
    refine ldB_t 0 B2 rfl ?_
    refine ldS_t 1 B2 rfl ?_
    replace h := h _ X A
    exact ⟨A, h⟩

/-- surd/surdref06.Add: function 91, its local variables as values. -/
theorem surdref06_Add_v2 (a0_a_0 : Bool) (a0_a_1 : Slc) (a1_b_0 : Bool) (a1_b_1 : Slc) (w : World) (R : Ending → World → Prop)
    
    (h : br (a0_a_0 == a1_b_0)
    (∀ w1, Ext w w1 → Ahead w w1 →
     (Calls Tryd.prog 116 #[a0_a_1.v, a1_b_1.v] w1 fun e1 w2 =>
      ∃ s1 : Slc, e1 = .returned s1.v ∧ Ahead w1 w2 ∧
      (Calls Tryd.prog 66 #[Value.bool a0_a_0, s1.v] w2 fun e2 w3 =>
       ∃ b1 : Bool, ∃ s2 : Slc, e2 = .returned (Value.agg #[Value.bool b1, s2.v]) ∧ Ahead w2 w3 ∧
       (∀ w4, Ext w3 w4 → Ahead w w4 →
        (R (.returned (Value.agg #[Value.bool b1, s2.v])) w4)))))
    (∀ w5, Ext w w5 → Ahead w w5 →
     (Calls Tryd.prog 106 #[a0_a_1.v, a1_b_1.v] w5 fun e3 w6 =>
      ∃ x1 : Int, e3 = .returned (Value.int .i64 x1) ∧ Ahead w5 w6 ∧
      (br (decide (x1 ≥ 0))
       (∀ w7, Ext w6 w7 → Ahead w w7 →
        (Calls Tryd.prog 117 #[a0_a_1.v, a1_b_1.v] w7 fun e4 w8 =>
         ∃ s3 : Slc, e4 = .returned s3.v ∧ Ahead w7 w8 ∧
         (Calls Tryd.prog 66 #[Value.bool a0_a_0, s3.v] w8 fun e5 w9 =>
          ∃ b2 : Bool, ∃ s4 : Slc, e5 = .returned (Value.agg #[Value.bool b2, s4.v]) ∧ Ahead w8 w9 ∧
          (∀ w10, Ext w9 w10 → Ahead w w10 →
           (R (.returned (Value.agg #[Value.bool b2, s4.v])) w10)))))
       (∀ w11, Ext w6 w11 → Ahead w w11 →
        (Calls Tryd.prog 117 #[a1_b_1.v, a0_a_1.v] w11 fun e6 w12 =>
         ∃ s5 : Slc, e6 = .returned s5.v ∧ Ahead w11 w12 ∧
         (Calls Tryd.prog 66 #[Value.bool a1_b_0, s5.v] w12 fun e7 w13 =>
          ∃ b3 : Bool, ∃ s6 : Slc, e7 = .returned (Value.agg #[Value.bool b3, s6.v]) ∧ Ahead w12 w13 ∧
          (∀ w14, Ext w13 w14 → Ahead w w14 →
           (R (.returned (Value.agg #[Value.bool b3, s6.v])) w14)))))))))
     :
    Calls Tryd.prog 91 #[Value.agg #[Value.bool a0_a_0, a0_a_1.v], Value.agg #[Value.bool a1_b_0, a1_b_1.v]] w (fun e_ w_ => Ahead w w_ ∧ R e_ w_) := by
  refine surdref06_Add_vc a0_a_0 a0_a_1 a1_b_0 a1_b_1 w _  ?_
  · have A : Ahead w w := Ahead.refl w
    have X : Ext w w := Ext.refl w
    refine newC_t fun bk1 u1 hb1 ha_u1 hs B1 => ?_
    have g1 : w.heap.size ≤ bk1 := by have := A.size; omega
    replace A := A.trans ha_u1
    replace X := X.trans (Ext.of_ahead ha_u1)
    clear hs hb1
    refine newC_t fun bk2 u2 hb2 ha_u2 hs B2 => ?_
    have g2 : w.heap.size ≤ bk2 := by have := A.size; omega
    have l1_2 : bk1 < bk2 := by have := B1.lt; omega
    replace B1 := B1.ahead ha_u2
    replace A := A.trans ha_u2
    replace X := X.trans (Ext.of_ahead ha_u2)
    clear hs hb2
    refine newC_t fun bk3 u3 hb3 ha_u3 hs B3 => ?_
    have g3 : w.heap.size ≤ bk3 := by have := A.size; omega
    have l1_3 : bk1 < bk3 := by have := B1.lt; omega
    have l2_3 : bk2 < bk3 := by have := B2.lt; omega
    replace B1 := B1.ahead ha_u3
    replace B2 := B2.ahead ha_u3
    replace A := A.trans ha_u3
    replace X := X.trans (Ext.of_ahead ha_u3)
    clear hs hb3
    refine ldB_t 0 B1 rfl ?_
    refine ldB_t 0 B2 rfl ?_
    refine br_map h (fun h_ => ?_) (fun h_ => ?_)
    · skip
      clear h
      have h := h_
      clear h_
      have hd_ := Sp.Ahead.drew u3
      replace B1 := B1.ahead hd_
      replace B2 := B2.ahead hd_
      replace B3 := B3.ahead hd_
      replace A := A.trans hd_
      replace X := X.trans (Ext.of_ahead hd_)
      clear hd_
      refine ldB_t 0 B1 rfl ?_
      refine ldS_t 1 B1 rfl ?_
      refine ldS_t 1 B2 rfl ?_
      replace h := h _ X A
      refine Calls.mono h ?_
      clear h
      rintro e1 w2 ⟨s1, he_, ha_w2, h⟩
      refine ⟨s1, he_, ?_⟩
      clear he_
      replace B1 := B1.ahead ha_w2
      replace B2 := B2.ahead ha_w2
      replace B3 := B3.ahead ha_w2
      replace A := A.trans ha_w2
      replace X := X.trans (Ext.of_ahead ha_w2)
      replace X : Ext w2 w2 := Ext.refl _
      refine ⟨ha_w2, ?_⟩
      refine Calls.mono h ?_
      clear h
      rintro e2 w3 ⟨b1, s2, he_, ha_w3, h⟩
      refine ⟨b1, s2, he_, ?_⟩
      clear he_
      replace B1 := B1.ahead ha_w3
      replace B2 := B2.ahead ha_w3
      replace B3 := B3.ahead ha_w3
      replace A := A.trans ha_w3
      replace X := X.trans (Ext.of_ahead ha_w3)
      replace X : Ext w3 w3 := Ext.refl _
      refine ⟨ha_w3, ?_⟩
      refine stC_t 0 B3 rfl rfl rfl fun u4 k_u4 B3_ => ?_
      replace B3 : Blt u4 bk3 44 #[Value.bool b1, (⟨none, 0, 0⟩ : Slc).v] := B3_
      clear B3_
      refine stC_t 1 B3 rfl rfl rfl fun u5 k_u5 B3_ => ?_
      replace B3 : Blt u5 bk3 44 #[Value.bool b1, s2.v] := B3_
      clear B3_
      have kk_u4 := (k_u4.trans k_u5)
      replace B1 := kk_u4.blt B1 (by omega)
      replace B2 := kk_u4.blt B2 (by omega)
      replace A := kk_u4.ahead A g3
      replace X := X.trans kk_u4.ext
      clear k_u5 k_u4
      refine ldB_t 0 B3 rfl ?_
      refine ldS_t 1 B3 rfl ?_
      replace h := h _ X A
      exact ⟨A, h⟩
    · skip
      clear h
      have h := h_
      clear h_
      refine ldS_t 1 B1 rfl ?_
      refine ldS_t 1 B2 rfl ?_
      replace h := h _ X A
      refine Calls.mono h ?_
      clear h
      rintro e3 w6 ⟨x1, he_, ha_w6, h⟩
      refine ⟨x1, he_, ?_⟩
      clear he_
      replace B1 := B1.ahead ha_w6
      replace B2 := B2.ahead ha_w6
      replace B3 := B3.ahead ha_w6
      replace A := A.trans ha_w6
      replace X := X.trans (Ext.of_ahead ha_w6)
      replace X : Ext w6 w6 := Ext.refl _
      refine br_map h (fun h_ => ?_) (fun h_ => ?_)
      · skip
        clear h
        have h := h_
        clear h_
        have hd_ := Sp.Ahead.drew w6
        replace B1 := B1.ahead hd_
        replace B2 := B2.ahead hd_
        replace B3 := B3.ahead hd_
        replace A := A.trans hd_
        replace X := X.trans (Ext.of_ahead hd_)
        clear hd_
        refine ldB_t 0 B1 rfl ?_
        refine ldS_t 1 B1 rfl ?_
        refine ldS_t 1 B2 rfl ?_
        replace h := h _ X A
        refine Calls.mono h ?_
        clear h
        rintro e4 w8 ⟨s3, he_, ha_w8, h⟩
        refine ⟨s3, he_, ?_⟩
        clear he_
        replace B1 := B1.ahead ha_w8
        replace B2 := B2.ahead ha_w8
        replace B3 := B3.ahead ha_w8
        replace A := A.trans ha_w8
        replace X := X.trans (Ext.of_ahead ha_w8)
        replace X : Ext w8 w8 := Ext.refl _
        refine ⟨ha_w8, ?_⟩
        refine Calls.mono h ?_
        clear h
        rintro e5 w9 ⟨b2, s4, he_, ha_w9, h⟩
        refine ⟨b2, s4, he_, ?_⟩
        clear he_
        replace B1 := B1.ahead ha_w9
        replace B2 := B2.ahead ha_w9
        replace B3 := B3.ahead ha_w9
        replace A := A.trans ha_w9
        replace X := X.trans (Ext.of_ahead ha_w9)
        replace X : Ext w9 w9 := Ext.refl _
        refine ⟨ha_w9, ?_⟩
        refine stC_t 0 B3 rfl rfl rfl fun u6 k_u6 B3_ => ?_
        replace B3 : Blt u6 bk3 44 #[Value.bool b2, (⟨none, 0, 0⟩ : Slc).v] := B3_
        clear B3_
        refine stC_t 1 B3 rfl rfl rfl fun u7 k_u7 B3_ => ?_
        replace B3 : Blt u7 bk3 44 #[Value.bool b2, s4.v] := B3_
        clear B3_
        have kk_u6 := (k_u6.trans k_u7)
        replace B1 := kk_u6.blt B1 (by omega)
        replace B2 := kk_u6.blt B2 (by omega)
        replace A := kk_u6.ahead A g3
        replace X := X.trans kk_u6.ext
        clear k_u7 k_u6
        refine ldB_t 0 B3 rfl ?_
        refine ldS_t 1 B3 rfl ?_
        replace h := h _ X A
        exact ⟨A, h⟩
      · skip
        clear h
        have h := h_
        clear h_
        have hd_ := Sp.Ahead.drew w6
        replace B1 := B1.ahead hd_
        replace B2 := B2.ahead hd_
        replace B3 := B3.ahead hd_
        replace A := A.trans hd_
        replace X := X.trans (Ext.of_ahead hd_)
        clear hd_
        refine ldB_t 0 B2 rfl ?_
        refine ldS_t 1 B2 rfl ?_
        refine ldS_t 1 B1 rfl ?_
        replace h := h _ X A
        refine Calls.mono h ?_
        clear h
        rintro e6 w12 ⟨s5, he_, ha_w12, h⟩
        refine ⟨s5, he_, ?_⟩
        clear he_
        replace B1 := B1.ahead ha_w12
        replace B2 := B2.ahead ha_w12
        replace B3 := B3.ahead ha_w12
        replace A := A.trans ha_w12
        replace X := X.trans (Ext.of_ahead ha_w12)
        replace X : Ext w12 w12 := Ext.refl _
        refine ⟨ha_w12, ?_⟩
        refine Calls.mono h ?_
        clear h
        rintro e7 w13 ⟨b3, s6, he_, ha_w13, h⟩
        refine ⟨b3, s6, he_, ?_⟩
        clear he_
        replace B1 := B1.ahead ha_w13
        replace B2 := B2.ahead ha_w13
        replace B3 := B3.ahead ha_w13
        replace A := A.trans ha_w13
        replace X := X.trans (Ext.of_ahead ha_w13)
        replace X : Ext w13 w13 := Ext.refl _
        refine ⟨ha_w13, ?_⟩
        refine stC_t 0 B3 rfl rfl rfl fun u8 k_u8 B3_ => ?_
        replace B3 : Blt u8 bk3 44 #[Value.bool b3, (⟨none, 0, 0⟩ : Slc).v] := B3_
        clear B3_
        refine stC_t 1 B3 rfl rfl rfl fun u9 k_u9 B3_ => ?_
        replace B3 : Blt u9 bk3 44 #[Value.bool b3, s6.v] := B3_
        clear B3_
        have kk_u8 := (k_u8.trans k_u9)
        replace B1 := kk_u8.blt B1 (by omega)
        replace B2 := kk_u8.blt B2 (by omega)
        replace A := kk_u8.ahead A g3
        replace X := X.trans kk_u8.ext
        clear k_u9 k_u8
        refine ldB_t 0 B3 rfl ?_
        refine ldS_t 1 B3 rfl ?_
        replace h := h _ X A
        exact ⟨A, h⟩

/-- surd/surdlaw08.of: function 35, its local variables as values. -/
theorem surdlaw08_of_v2 (a0_a_0 : Bool) (a0_a_1 : Slc) (a0_a_2 : Int) (w : World) (R : Ending → World → Prop)
    
    (h : ∀ w1, Ext w w1 → Ahead w w1 →
    (Calls Tryd.prog 78 #[Value.int .i64 a0_a_2] w1 fun e1 w2 =>
     ∃ b1 : Bool, e1 = .returned (Value.bool b1) ∧ Ahead w1 w2 ∧
     (br (!b1)
      (∀ w3, Ext w2 w3 → Ahead w w3 →
       (R (.returned (Value.tuple #[Value.agg #[Value.bool (false), ((⟨none, 0, 0⟩ : Slc)).v, Value.int .i64 (0 : Int)], Value.bool false])) w3))
      (∀ w4, Ext w2 w4 → Ahead w w4 →
       (Calls Tryd.prog 21 #[Value.bool a0_a_0, a0_a_1.v] w4 fun e2 w5 =>
        ∃ b2 : Bool, ∃ s1 : Slc, e2 = .returned (Value.agg #[Value.bool b2, s1.v]) ∧ Ahead w4 w5 ∧
        (Calls Tryd.prog 22 #[Value.agg #[Value.bool b2, s1.v], Value.int .i64 a0_a_2] w5 fun e3 w6 =>
         ∃ b3 : Bool, ∃ s2 : Slc, ∃ x1 : Int, e3 = .returned (Value.agg #[Value.bool b3, s2.v, Value.int .i64 x1]) ∧ Ahead w5 w6 ∧
         (∀ w7, Ext w6 w7 → Ahead w w7 →
          (R (.returned (Value.tuple #[Value.agg #[Value.bool b3, s2.v, Value.int .i64 x1], Value.bool true])) w7))))))))
     :
    Calls Tryd.prog 35 #[Value.agg #[Value.bool a0_a_0, a0_a_1.v, Value.int .i64 a0_a_2]] w (fun e_ w_ => Ahead w w_ ∧ R e_ w_) := by
  refine surdlaw08_of_vc a0_a_0 a0_a_1 a0_a_2 w _  ?_
  · have A : Ahead w w := Ahead.refl w
    have X : Ext w w := Ext.refl w
    refine newC_t fun bk1 u1 hb1 ha_u1 hs B1 => ?_
    have g1 : w.heap.size ≤ bk1 := by have := A.size; omega
    replace A := A.trans ha_u1
    replace X := X.trans (Ext.of_ahead ha_u1)
    clear hs hb1
    refine newC_t fun bk2 u2 hb2 ha_u2 hs B2 => ?_
    have g2 : w.heap.size ≤ bk2 := by have := A.size; omega
    have l1_2 : bk1 < bk2 := by have := B1.lt; omega
    replace B1 := B1.ahead ha_u2
    replace A := A.trans ha_u2
    replace X := X.trans (Ext.of_ahead ha_u2)
    clear hs hb2
    refine ldI_t 2 B1 rfl ?_
    replace h := h _ X A
    refine Calls.mono h ?_
    clear h
    rintro e1 w2 ⟨b1, he_, ha_w2, h⟩
    refine ⟨b1, he_, ?_⟩
    clear he_
    replace B1 := B1.ahead ha_w2
    replace B2 := B2.ahead ha_w2
    replace A := A.trans ha_w2
    replace X := X.trans (Ext.of_ahead ha_w2)
    replace X : Ext w2 w2 := Ext.refl _
    refine br_map h (fun h_ => ?_) (fun h_ => ?_)
    · skip
      clear h
      have h := h_
      clear h_
      refine stC_t 0 B2 rfl rfl rfl fun u3 k_u3 B2_ => ?_
      replace B2 : Blt u3 bk2 47 #[Value.bool false, (⟨none, 0, 0⟩ : Slc).v, Value.int .i64 0] := B2_
      clear B2_
      refine stC_t 1 B2 rfl rfl rfl fun u4 k_u4 B2_ => ?_
      replace B2 : Blt u4 bk2 47 #[Value.bool false, (⟨none, 0, 0⟩ : Slc).v, Value.int .i64 0] := B2_
      clear B2_
      refine stC_t 2 B2 rfl rfl rfl fun u5 k_u5 B2_ => ?_
      replace B2 : Blt u5 bk2 47 #[Value.bool false, (⟨none, 0, 0⟩ : Slc).v, Value.int .i64 0] := B2_
      clear B2_
      have kk_u3 := ((k_u3.trans k_u4).trans k_u5)
      replace B1 := kk_u3.blt B1 (by omega)
      replace A := kk_u3.ahead A g2
      replace X := X.trans kk_u3.ext
      clear k_u5 k_u4 k_u3
      refine ldB_t 0 B2 rfl ?_
      refine ldS_t 1 B2 rfl ?_
      refine ldI_t 2 B2 rfl ?_
      replace h := h _ X A
      exact ⟨A, h⟩
    · skip
      clear h
      have h := h_
      clear h_
      have hd_ := Sp.Ahead.drew w2
      replace B1 := B1.ahead hd_
      replace B2 := B2.ahead hd_
      replace A := A.trans hd_
      replace X := X.trans (Ext.of_ahead hd_)
      clear hd_
      refine ldB_t 0 B1 rfl ?_
      refine ldS_t 1 B1 rfl ?_
      refine ldI_t 2 B1 rfl ?_
      replace h := h _ X A
      refine Calls.mono h ?_
      clear h
      rintro e2 w5 ⟨b2, s1, he_, ha_w5, h⟩
      refine ⟨b2, s1, he_, ?_⟩
      clear he_
      replace B1 := B1.ahead ha_w5
      replace B2 := B2.ahead ha_w5
      replace A := A.trans ha_w5
      replace X := X.trans (Ext.of_ahead ha_w5)
      replace X : Ext w5 w5 := Ext.refl _
      refine ⟨ha_w5, ?_⟩
      refine Calls.mono h ?_
      clear h
      rintro e3 w6 ⟨b3, s2, x1, he_, ha_w6, h⟩
      refine ⟨b3, s2, x1, he_, ?_⟩
      clear he_
      replace B1 := B1.ahead ha_w6
      replace B2 := B2.ahead ha_w6
      replace A := A.trans ha_w6
      replace X := X.trans (Ext.of_ahead ha_w6)
      replace X : Ext w6 w6 := Ext.refl _
      refine ⟨ha_w6, ?_⟩
      refine stC_t 0 B2 rfl rfl rfl fun u6 k_u6 B2_ => ?_
      replace B2 : Blt u6 bk2 47 #[Value.bool b3, (⟨none, 0, 0⟩ : Slc).v, Value.int .i64 0] := B2_
      clear B2_
      refine stC_t 1 B2 rfl rfl rfl fun u7 k_u7 B2_ => ?_
      replace B2 : Blt u7 bk2 47 #[Value.bool b3, s2.v, Value.int .i64 0] := B2_
      clear B2_
      refine stC_t 2 B2 rfl rfl rfl fun u8 k_u8 B2_ => ?_
      replace B2 : Blt u8 bk2 47 #[Value.bool b3, s2.v, Value.int .i64 x1] := B2_
      clear B2_
      have kk_u6 := ((k_u6.trans k_u7).trans k_u8)
      replace B1 := kk_u6.blt B1 (by omega)
      replace A := kk_u6.ahead A g2
      replace X := X.trans kk_u6.ext
      clear k_u8 k_u7 k_u6
      refine ldB_t 0 B2 rfl ?_
      refine ldS_t 1 B2 rfl ?_
      refine ldI_t 2 B2 rfl ?_
      replace h := h _ X A
      exact ⟨A, h⟩

end Go.Proofs.YthhbjhdnaopcnaaDoor
namespace Go.Proofs.YthhbjhdnaopcnaaDoor
open Go Go.RowKit Eng Sp Dg L2
set_option linter.unusedVariables false
set_option linter.unusedSimpArgs false
set_option maxRecDepth 100000
namespace Dy
open _root_.Go.Proofs.YthhbjhdnaopcnaaDoor.Nat (ldN ldNf stF stFf mkF Fill OwnNil Num Num.bl OwnNil.mono OwnNil.ext OwnNil.rd OwnNil.ahead OwnNil.nil bigC leftC left_num Norm_spec Length_spec len_num semShr semShl fixShl orI_nat digs_len_bl From_spec nBit_spec)
open _root_.Go.Proofs.YthhbjhdnaopcnaaDoor.Ref (len_mono)
open Sb

theorem limb_spec {w : World} {s : Slc} {l : List Nat} (h : Rd .u64 w s (nn l)) {i : Int} (h0 : 0 ≤ i) :
    Calls pr dyadic_limb_id #[s.v, .int .i64 i] w fun e w' => w' = w ∧ e = .returned (.int .u64 (l.getD i.toNat 0 : Nat)) := by
  have hn : s.n = l.length := by rw [h.n, nn_length]
  refine dyadic_limb_vc s i w _ (br_intro (fun hlt => ?_) (fun hge => ?_))
  · have hlt' : i < l.length := by have := of_decide_eq_true hlt; omega
    exact ldN h h0 hlt' ⟨rfl, rfl⟩
  · refine ⟨rfl, ?_⟩
    rw [getD_ge l 0 (by have := of_decide_eq_false hge; omega)]; rfl

theorem plus_spec {w : World} {p q : Slc} {x y : Nat} (hp : Rd .u64 w p (nn (digs B64 x))) (hq : Rd .u64 w q (nn (digs B64 y))) (la : (digs B64 x).length + 1 ≤ 2 ^ 44) (lb : (digs B64 y).length + 1 ≤ 2 ^ 44) :
    Calls pr dyadic_plus_id #[p.v, q.v] w fun e w' => Ahead w w' ∧ ∃ s, e = .returned (Slc.v s) ∧ OwnNil w.heap.size w' s (digs B64 (x + y)) := by
  have hB := B64v
  have hna : p.n = (digs B64 x).length := by rw [hp.n, nn_length]
  have hnb : q.n = (digs B64 y).length := by rw [hq.n, nn_length]
  have oa := ok_digs two64 x
  have ob := ok_digs two64 y
  have vx := val_digs two64 x
  have vy := val_digs two64 y
  generalize digs B64 x = A at *
  generalize digs B64 y = C at *
  refine dyadic_plus_vc p q w _ (fun s t out k n i w' => s = p ∧ t = q ∧ ∃ (m : Nat) (l : List Nat) (j cr : Nat), n = ((m + 1 : Nat) : Int) ∧ A.length ≤ m ∧ C.length ≤ m ∧ m + 1 ≤ 2 ^ 44 ∧ k = (cr : Int) ∧ cr ≤ 1 ∧ i = (j : Int) ∧ j ≤ m + 1 ∧
    Fill w w' out l (fun _ => True) ∧ l.length = m + 1 ∧ ok B64 l ∧ val B64 (l.take j) + cr * B64 ^ j = val B64 (A.take j) + val B64 (C.take j)) (fun _ _ _ _ n i _ => (n - i).toNat) ?_ ?_
  · have em : maxI (p.n : Int) (q.n : Int) = ((max A.length C.length : Nat) : Int) := by
      unfold maxI; split <;> omega
    rw [em, wrap_i64 (by omega) (by omega)]
    refine mkF (S := fun _ => True) (w0 := w) (by omega) (by omega) (Ahead.refl _) trivial ?_
    intro s w1 hsn hf ha
    refine ⟨rfl, rfl, max A.length C.length, _, 0, 0, by rw [hsn]; omega, by omega, by omega, by omega, rfl, by omega, rfl, Nat.zero_le _, hf, by rw [List.length_replicate]; omega, ok_replicate (by omega) _, by simp [val]⟩
  · rintro s t out k n i w1 ⟨rfl, rfl, m, l, j, cr, rfl, hA, hC, hm, rfl, hcr, rfl, hj, hf, hl, ol, hv⟩
    refine br_intro (fun hlt => ?_) (fun hge => ?_)
    · have hj' : j < m + 1 := by have := of_decide_eq_true hlt; omega
      refine Calls.mono (limb_spec (hp.ahead hf.base) (by omega)) ?_
      rintro e w2 ⟨rfl, rfl⟩
      refine ⟨_, rfl, Calls.mono (limb_spec (hq.ahead hf.base) (by omega)) ?_⟩
      rintro e w3 ⟨rfl, rfl⟩
      refine ⟨_, rfl, ?_⟩
      rw [Int.toNat_natCast]
      have hx := ok_getD oa (by omega : 0 < B64) j
      have hy := ok_getD ob (by omega : 0 < B64) j
      have e8 : IntKind.i64.wrap ((j : Int) + 1) = ((j + 1 : Nat) : Int) := by rw [wrap_i64 (by omega) (by omega)]; omega
      have t1 := val_take_succ' A j (B := B64)
      have t2 := val_take_succ' C j (B := B64)
      generalize A.getD j 0 = a at *
      generalize C.getD j 0 = c at *
      have e1 : IntKind.u64.wrap ((a : Int) + (c : Int)) = (((a + c) % B64 : Nat) : Int) := by rw [wrap_u64, hB]; omega
      have e2 : IntKind.u64.wrap ((((a + c) % B64 : Nat) : Int) + (cr : Int)) = (((a + c + cr) % B64 : Nat) : Int) := by rw [wrap_u64, hB]; omega
      rw [e1, e2]
      -- a round's end
      have fin : ∀ cr' : Nat, cr' = (a + c + cr) / B64 → semA pr (Instr.indexAt 29 out.v (.int .i64 (j : Int))) w3 fun ad1 w4 => stC ad1 (.int .u64 (((a + c + cr) % B64 : Nat) : Int)) w4 fun w5 =>
          (s = s ∧ t = t ∧ ∃ (m' : Nat) (l : List Nat) (j' cr : Nat), ((m + 1 : Nat) : Int) = ((m' + 1 : Nat) : Int) ∧ A.length ≤ m' ∧ C.length ≤ m' ∧ m' + 1 ≤ 2 ^ 44 ∧ (cr' : Int) = (cr : Int) ∧ cr ≤ 1 ∧ IntKind.i64.wrap ((j : Int) + 1) = (j' : Int) ∧ j' ≤ m' + 1 ∧
    Fill w w5 out l (fun _ => True) ∧ l.length = m' + 1 ∧ ok B64 l ∧ val B64 (l.take j') + cr * B64 ^ j' = val B64 (A.take j') + val B64 (C.take j')) ∧ (((m + 1 : Nat) : Int) - IntKind.i64.wrap ((j : Int) + 1)).toNat < (((m + 1 : Nat) : Int) - (j : Int)).toNat := by
        intro cr' hc'
        refine stF hf (by omega) (by omega) ?_
        intro w5 hf5
        simp only [Int.toNat_natCast] at hf5
        refine ⟨⟨rfl, rfl, m, _, j + 1, cr', rfl, hA, hC, hm, rfl, by rw [hc', hB]; omega, e8, hj', hf5, by simpa using hl, ok_set ol (Nat.mod_lt _ (by omega)), ?_⟩, by rw [e8]; omega⟩
        rw [val_take_set _ _ _ (by omega), t1, t2, Nat.pow_succ]
        exact add_step (by have := Nat.mod_add_div (a + c + cr) B64; rw [hc']; omega) hv
      refine br_intro (fun h1 => ?_) (fun h1 => br_intro (fun h2 => ?_) (fun h2 => ?_))
      · exact fin 1 (by have := of_decide_eq_true h1; rw [hB] at this ⊢; omega)
      · exact fin 1 (by have := of_decide_eq_true h2; rw [hB] at this ⊢; omega)
      · exact fin 0 (by have q1 := of_decide_eq_false h1; have q2 := of_decide_eq_false h2; rw [hB] at q1 q2 ⊢; omega)
    · have hj' : j = m + 1 := by have := of_decide_eq_false hge; omega
      subst hj'
      rw [val_take_all l (by omega), val_take_all A (by omega), val_take_all C (by omega), vx, vy] at hv
      have h1 : x < B64 ^ m := by rw [← vx]; exact Nat.lt_of_lt_of_le (val_lt oa) (Nat.pow_le_pow_right (by omega) hA)
      have h2 : y < B64 ^ m := by rw [← vy]; exact Nat.lt_of_lt_of_le (val_lt ob) (Nat.pow_le_pow_right (by omega) hC)
      have h3 : cr = 0 := by
        rcases Nat.lt_or_ge cr 1 with h | h
        · omega
        · have hc1 : cr = 1 := by omega
          subst hc1
          have : 2 * B64 ^ m ≤ B64 ^ (m + 1) := by rw [Nat.pow_succ, Nat.mul_comm]; exact Nat.mul_le_mul_left _ (by omega)
          omega
      subst h3
      have hv' : val B64 l = x + y := by omega
      refine Calls.mono (Norm_spec hf.rd (by omega) ol) ?_
      rw [hv']
      rintro e w6 ⟨h6, s', rfl, hr⟩
      exact ⟨_, rfl, hf.base.trans h6, _, rfl, hr.mono hf.base.size⟩

theorem set_getD_self (l : List Nat) (i : Nat) (h : i < l.length) : l.set i (l.getD i 0) = l := by
  rw [getD_lt _ _ h]; exact List.set_getElem_self h
theorem dleft_spec {w : World} {a : Slc} {x k : Nat} (ra : Rd .u64 w a (nn (digs B64 x))) (na : (digs B64 x).length + k / 64 + 1 ≤ 2 ^ 44) :
    Calls pr dyadic_left_id #[a.v, .int .i64 (k : Int)] w fun e w' => Ahead w w' ∧ ∃ s, e = .returned (Slc.v s) ∧ OwnNil w.heap.size w' s (digs B64 (x * 2 ^ k)) := by
  have hB := B64v
  have h64 : B64 = 2 ^ 64 := rfl
  have hA0 := val_digs two64 x
  have hoA := ok_digs two64 x
  have hw : k % 64 < 64 := Nat.mod_lt _ (by omega)
  have hp2 : B64 ^ (k / 64) * 2 ^ (k % 64) = 2 ^ k := (pow_split k 64).symm
  have hnum : Num w a x := ⟨_, ra, by omega, hoA, hA0⟩
  have hna : a.n = (digs B64 x).length := by rw [ra.n, nn_length]
  generalize digs B64 x = A at *
  refine dyadic_left_vc a k w _ (fun t7 t8 t9 t32 t33 t34 w' => t7 = ((k / 64 : Nat) : Int) ∧ t8 = ((k % 64 : Nat) : Int) ∧ t33 = (A.length : Int) ∧ ∃ (l : List Nat) (j : Nat), t34 = (j : Int) ∧ j ≤ A.length ∧
    Fill w w' t9 l (fun w' => Rd .u64 w' t32 (nn A)) ∧ l.length = k / 64 + A.length + 1 ∧ ok B64 l ∧ val B64 l = val B64 (A.take j) * (B64 ^ (k / 64) * 2 ^ (k % 64))) (fun _ _ _ _ n i _ => (n - i).toNat) ?_ ?_
  · refine Calls.mono (left_num hnum (n := (k : Int)) (by omega) (by omega)) ?_
    rintro e w1 ⟨h1, s, rfl, os⟩
    have ek : ((k : Int)).toNat = k := by omega
    rw [ek] at os
    refine ⟨_, _, rfl, br_intro (fun hc => ?_) (fun hc => ?_)⟩
    · have hc0 : leftC x (k : Int) = 0 := by simpa using hc
      rw [if_pos hc0] at os
      exact ⟨h1, s, rfl, os⟩
    · rw [tdivN (by omega), tmodN, hna, wrap_i64 (x := (A.length : Int) + _) (by omega) (by omega), wrap_i64 (by omega) (by omega), show (A.length : Int) + ((k / 64 : Nat) : Int) + 1 = ((k / 64 + A.length + 1 : Nat) : Int) by omega]
      refine mkF (w0 := w) (S := fun w' => Rd .u64 w' a (nn A)) (by omega) (by omega) h1 (ra.ahead h1) ?_
      intro c w3 hcn hf ha
      refine ⟨rfl, rfl, rfl, _, 0, rfl, Nat.zero_le _, hf, by rw [List.length_replicate]; omega, ok_replicate (by omega) _, ?_⟩
      rw [val_replicate]; simp [val]
  · rintro t7 t8 c t32 t33 t34 w' ⟨rfl, rfl, rfl, l, j, rfl, hj, hf, hl, ol, hv⟩
    have hS := hf.src (fun _ h hs => Rd.ahead hs h)
    refine br_intro (fun hlt => ?_) (fun hge => ?_)
    · have hj' : j < A.length := by have := of_decide_eq_true hlt; omega
      have hfacts := left_facts (w := 64) (l := l) (A := A) (j := j) (wd := k / 64) (s := k % 64) hw (by omega) hoA hj' hv
      refine ldN hS (by omega) (by omega) ?_
      rw [wrap_i64 (x := (j : Int) + ((k / 64 : Nat) : Int)) (by omega) (by omega), show (j : Int) + ((k / 64 : Nat) : Int) = ((k / 64 + j : Nat) : Int) by omega,
        wrap_i64 (x := ((k / 64 + j : Nat) : Int) + 1) (by omega) (by omega), show ((k / 64 + j : Nat) : Int) + 1 = ((k / 64 + j + 1 : Nat) : Int) by omega]
      refine ldN hf.rd (by omega) (by omega) ?_
      refine semShl (by omega) ?_
      have hx := ok_getD hoA (by omega : 0 < B64) j
      have hlk := ok_getD ol (by omega : 0 < B64) (k / 64 + j)
      simp only [Int.toNat_natCast]
      rw [orI_nat hlk (Nat.mod_lt _ (by omega))]
      refine stF hf (by omega) (by omega) ?_
      intro w7 hf7
      simp only [Int.toNat_natCast] at hf7
      have e8 : IntKind.i64.wrap ((j : Int) + 1) = ((j + 1 : Nat) : Int) := by rw [wrap_i64 (by omega) (by omega)]; omega
      have hlo : l.getD (k / 64 + j) 0 ||| A.getD j 0 * 2 ^ (k % 64) % B64 = l.getD (k / 64 + j) 0 + A.getD j 0 * 2 ^ (k % 64) % 2 ^ 64 := by
        have h2 := shl_lo (A.getD j 0) (k % 64) 64 (by omega)
        have h2' : A.getD j 0 * 2 ^ (k % 64) % B64 = _ := h2
        rw [h2', h2, or_add hfacts.1]
      have hlolt : l.getD (k / 64 + j) 0 ||| A.getD j 0 * 2 ^ (k % 64) % B64 < B64 := Nat.or_lt_two_pow (n := 64) hlk (Nat.mod_lt _ (by omega))
      have hhi : A.getD j 0 * 2 ^ (k % 64) / 2 ^ 64 < B64 := by
        rw [shl_hi _ _ _ (by omega)]
        exact Nat.lt_of_le_of_lt (Nat.div_le_self _ _) hx
      have stp := left_step (w := 64) (lo := l.getD (k / 64 + j) 0 ||| A.getD j 0 * 2 ^ (k % 64) % B64) hw (by omega) hoA hj' hv hlo rfl
      refine br_intro (fun hs => ?_) (fun hs => ?_)
      · have hs' : 0 < k % 64 := by have := of_decide_eq_true hs; omega
        rw [show IntKind.u64.wrap (64 - ((k % 64 : Nat) : Int)) = ((64 - k % 64 : Nat) : Int) by rw [wrap_u64' (by omega) (by omega)]; omega]
        refine semShr (by omega) ?_
        rw [← shl_hi _ _ 64 (by omega)]
        refine stF hf7 (by omega) (by simp; omega) ?_
        intro w10 hf10
        simp only [Int.toNat_natCast] at hf10
        exact ⟨⟨by trivial, by trivial, by trivial, _, j + 1, e8, by omega, hf10, by simpa using hl, ok_set (ok_set ol hlolt) hhi, stp⟩, by rw [e8]; omega⟩
      · have hs' : k % 64 = 0 := by have := of_decide_eq_false hs; omega
        have hz : A.getD j 0 * 2 ^ (k % 64) / 2 ^ 64 = 0 := by
          rw [hs', Nat.pow_zero, Nat.mul_one]; exact Nat.div_eq_of_lt hx
        rw [hz] at stp
        have hzero : (l.set (k / 64 + j) (l.getD (k / 64 + j) 0 ||| A.getD j 0 * 2 ^ (k % 64) % B64)).getD (k / 64 + j + 1) 0 = 0 := by
          rw [getD_set _ _ _ _ (by omega), if_neg (by omega)]; exact hfacts.2
        have hsame := set_getD_self (l.set (k / 64 + j) (l.getD (k / 64 + j) 0 ||| A.getD j 0 * 2 ^ (k % 64) % B64)) (k / 64 + j + 1) (by simp; omega)
        rw [hzero] at hsame
        rw [hsame] at stp
        exact ⟨⟨by trivial, by trivial, by trivial, _, j + 1, e8, by omega, hf7, by simpa using hl, ok_set ol hlolt, stp⟩, by rw [e8]; omega⟩
    · have hj' : j = A.length := by have := of_decide_eq_false hge; omega
      subst hj'
      rw [List.take_length, hA0, hp2] at hv
      refine Calls.mono (Norm_spec hf.rd (by omega) ol) ?_
      rw [hv]
      rintro e w3 ⟨h3, s, rfl, os⟩
      exact ⟨_, rfl, hf.base.trans h3, _, rfl, os.mono hf.base.size⟩

theorem direction_spec {w : World} {m : Int} : Calls pr dyadic_direction_id #[.int .i64 m] w fun e w' => w' = w ∧ e = .returned (.bool (decide (0 ≤ m ∧ m ≤ 2))) := by
  refine dyadic_direction_vc m w _ (br_intro (fun h => ?_) (fun h => br_intro (fun h2 => ?_) (fun h2 => ?_)))
  · have h' : m = 0 := by simpa using h
    subst h'; exact ⟨rfl, rfl⟩
  · have h' : m = 1 := by simpa using h2
    subst h'; exact ⟨rfl, rfl⟩
  · have h1 : m ≠ 0 := by simpa using h
    have h3 : m ≠ 1 := by simpa using h2
    refine ⟨rfl, ?_⟩
    congr 2
    rw [Bool.eq_iff_iff]
    simp; omega

/-- Does the size grow by a step? -/
def upR (neg : Bool) (n gap : Nat) (m : Int) : Bool := if m = 2 then decide (n / 2 ^ (gap - 1) % 2 = 1) && (decide (tz n < gap - 1) || decide (n / 2 ^ gap % 2 = 1)) else if m = 0 then neg else !neg
/-- The size of a number of so many steps, rounded. -/
def rq (neg : Bool) (n gap : Nat) (m : Int) : Nat := n / 2 ^ gap + if upR neg n gap m then 1 else 0
def stq (neg : Bool) (n : Nat) (e pos m : Int) : Nat := if n = 0 ∨ pos ≤ e then n * 2 ^ (e - pos).toNat else rq neg n (pos - e).toNat m

theorem steps_spec {w : World} {neg : Bool} {s : Slc} {n : Nat} {e pos m : Int} (hT : Tab w) (r : Rd .u64 w s (nn (digs B64 n))) (hl : (digs B64 n).length + 1 ≤ 2 ^ 44) (he : -2305843009213693952 ≤ e ∧ e ≤ 2305843009213693952) (hp : -2305843009213693952 ≤ pos ∧ pos ≤ 2305843009213693952)
    (hsz : n = 0 ∨ pos ≤ e → (digs B64 n).length + (e - pos).toNat / 64 + 1 ≤ 2 ^ 44) :
    Calls pr dyadic_steps_id #[.agg (c3 neg s e), .int .i64 pos, .int .i64 m] w fun en w' => Ahead w w' ∧ ∃ s', en = .returned (.agg (c2 neg s')) ∧ OwnNil w.heap.size w' s' (digs B64 (stq neg n e pos m)) := by
  have hB := B64v
  have on := ok_digs two64 n
  have vn := val_digs two64 n
  have hnum : Num w s n := ⟨_, r, by omega, on, vn⟩
  have hbl := Num.bl hnum
  refine dyadic_steps_v2 neg s e pos m w _
    (fun t1 t2 t19 b s' e' _ _ w' => pos = t1 ∧ m = t2 ∧ t19 = decide (n = 0 ∨ pos ≤ e) ∧ neg = b ∧ s = s' ∧ e = e')
    (fun t2 t7 t8 b s' e' _ _ w' => m = t2 ∧ t7 = (((pos - e).toNat : Nat) : Int) ∧ ¬ (n = 0 ∨ pos ≤ e) ∧ OwnNil w.heap.size w' t8 (digs B64 (n / 2 ^ (pos - e).toNat)) ∧ neg = b ∧ s = s')
    (fun t8 t9 b s' e' _ _ w' => ¬ (n = 0 ∨ pos ≤ e) ∧ OwnNil w.heap.size w' t8 (digs B64 (n / 2 ^ (pos - e).toNat)) ∧ t9 = upR neg n (pos - e).toNat m ∧ neg = b) ?_ ?_ ?_ ?_
  · intro w1 x1 a1
    refine Calls.mono (part_sign_spec (hnum.ahead a1)) ?_
    rintro en w2 ⟨h2, rfl⟩
    refine ⟨_, rfl, h2, br_intro (fun hz => ?_) (fun hz => ?_)⟩
    · have hn : n = 0 := sgn_zero_iff.1 (by simpa using hz)
      exact ⟨rfl, rfl, by simp [hn], rfl, rfl, rfl⟩
    · have hn : n ≠ 0 := fun e0 => by rw [e0] at hz; simp [sgn] at hz
      exact ⟨rfl, rfl, by simp [hn], rfl, rfl, rfl⟩
  · rintro _ _ _ _ _ _ _ _ w1 a1 ⟨rfl, rfl, rfl, rfl, rfl, rfl⟩
    refine br_intro (fun hc => ?_) (fun hc => ?_)
    · have hc' := of_decide_eq_true hc
      intro w3 x3 a3
      have e1 : maxI (IntKind.i64.wrap (e - pos)) 0 = (((e - pos).toNat : Nat) : Int) := by
        rw [wrap_i64 (by omega) (by omega)]; unfold maxI; split <;> omega
      rw [e1]
      refine Calls.mono (dleft_spec (r.ahead a3) (hsz hc')) ?_
      rintro en w4 ⟨h4, s1, rfl, o1⟩
      refine ⟨_, rfl, h4, fun w5 x5 a5 => ⟨_, rfl, ?_⟩⟩
      rw [stq, if_pos hc']
      exact (o1.ext x5).mono a3.size
    · have hc' := of_decide_eq_false hc
      have hn : n ≠ 0 := fun h => hc' (.inl h)
      have hpe : e < pos := by
        rcases Int.lt_or_le e pos with h | h
        · exact h
        · exact absurd (.inr h) hc'
      refine Calls.mono (part_length_spec (hnum.ahead a1)) ?_
      rintro en w6 ⟨h6, rfl⟩
      have e1 : IntKind.i64.wrap (pos - e) = (((pos - e).toNat : Nat) : Int) := by rw [wrap_i64 (by omega) (by omega)]; omega
      rw [e1]
      refine ⟨_, rfl, h6, br_intro (fun hg => ?_) (fun hg => ?_)⟩
      · have hg' := of_decide_eq_true hg
        refine Calls.mono (shifted_spec (r.ahead (a1.trans h6)) (by omega) (by omega)) ?_
        rintro en w7 ⟨h7, s2, rfl, o2⟩
        exact ⟨_, rfl, h7, rfl, rfl, hc', o2.mono (a1.trans h6).size, rfl, rfl⟩
      · have hg' := of_decide_eq_false hg
        have hz : n / 2 ^ (pos - e).toNat = 0 := Nat.div_eq_of_lt (bl_le_iff.1 (by omega))
        refine ⟨rfl, rfl, hc', ?_, rfl, rfl⟩
        rw [hz, digs_zero]; exact OwnNil.nil
  · rintro _ _ t8 _ _ _ _ _ w1 a1 ⟨rfl, rfl, hc, o8, rfl, rfl⟩
    have hn : n ≠ 0 := fun h => hc (.inl h)
    have hpe : e < pos := by
      rcases Int.lt_or_le e pos with h | h
      · exact h
      · exact absurd (.inr h) hc
    obtain ⟨g, hg⟩ : ∃ g, (pos - e).toNat = g + 1 := ⟨(pos - e).toNat - 1, by omega⟩
    rw [hg] at o8 ⊢
    refine br_intro (fun h2 => ?_) (fun h2 => ?_)
    · have h2' : m = 2 := by simpa using h2
      rw [show IntKind.i64.wrap (((g + 1 : Nat) : Int) - 1) = (g : Int) by rw [wrap_i64 (by omega) (by omega)]; omega]
      refine Calls.mono (nBit_spec (r.ahead a1) (by omega) on (by omega)) ?_
      rw [vn]
      rintro en w8 ⟨rfl, rfl⟩
      refine ⟨_, rfl, Ahead.refl _, br_intro (fun hb => ?_) (fun hb => ?_)⟩
      · have hb' : n / 2 ^ g % 2 = 1 := by have := eq_of_beq hb; omega
        refine Calls.mono (Tail_spec (hT.ahead a1) (r.ahead a1) (by omega) on) ?_
        rw [vn]
        rintro en w9 ⟨rfl, rfl⟩
        refine ⟨_, rfl, Ahead.refl _, br_intro (fun ht => ?_) (fun ht => ?_)⟩
        · have ht' := of_decide_eq_true ht
          refine ⟨hc, o8, ?_, rfl⟩
          rw [upR, if_pos h2', Nat.add_sub_cancel, decide_eq_true hb', decide_eq_true (show tz n < g by omega)]; rfl
        · have ht' := of_decide_eq_false ht
          have lq : (digs B64 (n / 2 ^ (g + 1))).length ≤ 2 ^ 46 := Nat.le_trans (len_mono two64 (Nat.div_le_self _ _)) (by omega)
          have hb0 := nBit_spec (i := 0) o8.rd lq (ok_digs two64 _) (by omega)
          rw [val_digs two64, Nat.pow_zero, Nat.div_one] at hb0
          refine Calls.mono hb0 ?_
          rintro en w14 ⟨rfl, rfl⟩
          have hup : upR neg n (g + 1) m = decide (n / 2 ^ (g + 1) % 2 = 1) := by
            rw [upR, if_pos h2', Nat.add_sub_cancel, decide_eq_true hb', decide_eq_false (show ¬ tz n < g by omega)]; simp
          refine ⟨_, rfl, Ahead.refl _, br_intro (fun hq => ?_) (fun hq => ?_)⟩
          · refine ⟨hc, o8, ?_, rfl⟩
            rw [hup, decide_eq_false]
            intro h
            rw [h] at hq
            simp at hq
          · refine ⟨hc, o8, ?_, rfl⟩
            rw [hup, decide_eq_true]
            have := Nat.mod_lt (n / 2 ^ (g + 1)) (show 2 > 0 by omega)
            rcases Nat.lt_or_ge (n / 2 ^ (g + 1) % 2) 1 with h | h
            · have h0 : n / 2 ^ (g + 1) % 2 = 0 := by omega
              rw [h0] at hq
              simp at hq
            · omega
      · refine ⟨hc, o8, ?_, rfl⟩
        have hb' : ¬ n / 2 ^ g % 2 = 1 := fun h => by rw [h] at hb; simp at hb
        rw [upR, if_pos h2', Nat.add_sub_cancel, decide_eq_false hb']; rfl
    · have h2' : m ≠ 2 := by simpa using h2
      refine br_intro (fun h0 => ?_) (fun h0 => ?_)
      · exact ⟨hc, o8, by rw [upR, if_neg h2', if_pos (by simpa using h0)], rfl⟩
      · exact ⟨hc, o8, by rw [upR, if_neg h2', if_neg (by simpa using h0)], rfl⟩
  · rintro t8 _ _ _ _ _ _ w1 a1 ⟨hc, o8, rfl, rfl⟩
    have hst : stq neg n e pos m = rq neg n (pos - e).toNat m := if_neg hc
    have lq : (digs B64 (n / 2 ^ (pos - e).toNat)).length + 1 ≤ 2 ^ 44 := Nat.le_trans (Nat.add_le_add_right (len_mono two64 (Nat.div_le_self _ _)) 1) hl
    refine br_intro (fun hu => ?_) (fun hu => ?_)
    · refine Calls.mono (From_spec (v := 1) (by omega)) ?_
      rintro en w10 ⟨h10, s3, rfl, o3⟩
      have l1 : (digs B64 1).length ≤ 1 := digs_length_le two64 (by rw [Nat.pow_one]; omega)
      refine ⟨_, rfl, h10, Calls.mono (plus_spec (o8.ahead h10).rd o3.rd lq (by omega)) ?_⟩
      rintro en w11 ⟨h11, s4, rfl, o4⟩
      refine ⟨_, rfl, h11, fun w12 x12 a12 => ⟨_, rfl, ?_⟩⟩
      rw [hst, rq, if_pos hu]
      exact (o4.ext x12).mono (a1.trans h10).size
    · intro w13 x13 a13
      refine ⟨_, rfl, ?_⟩
      rw [hst, rq, if_neg (by rw [hu]; simp), Nat.add_zero]
      exact o8.ext x13

end Dy
end Go.Proofs.YthhbjhdnaopcnaaDoor
namespace Go.Proofs.YthhbjhdnaopcnaaDoor
open Go Go.RowKit Eng Sp Dg L2
set_option linter.unusedVariables false
set_option linter.unusedSimpArgs false
set_option maxRecDepth 100000
namespace Dy
open _root_.Go.Proofs.YthhbjhdnaopcnaaDoor.Ref (RN RN.nil RN.ext RN.ahead Is_spec Len_spec zero_spec Shl_spec Cmp_spec Int_spec len_mono bl_len32)
open Sb

def zb (z : Int) : Bool := decide (z < 0)
/-- The number of a sign and a size. -/
def sg (neg : Bool) (n : Nat) : Int := if neg then -(n : Int) else n
theorem sg_abs (neg : Bool) (n : Nat) : (sg neg n).natAbs = n := by unfold sg; cases neg <;> simp
theorem zb_sg (neg : Bool) (n : Nat) : zb (sg neg n) = nD neg n := by
  unfold zb sg nD
  cases neg
  · simp
  · by_cases h : n = 0
    · subst h; rfl
    · simp [h]; omega
theorem zb_nD (z : Int) : nD (zb z) z.natAbs = zb z := by
  unfold nD zb
  by_cases h : z < 0
  · have : z.natAbs ≠ 0 := by omega
    simp [h, this]
  · simp [h]
theorem sg_zb (z : Int) : sg (zb z) z.natAbs = z := by
  unfold sg zb
  by_cases h : z < 0
  · rw [decide_eq_true h]; simp; omega
  · rw [decide_eq_false h]; simp; omega
theorem zb_neg (z : Int) : nD (!zb z) z.natAbs = zb (-z) := by
  rw [← zb_sg]
  congr 1
  unfold sg zb
  by_cases h : z < 0
  · rw [decide_eq_true h]; simp; omega
  · rw [decide_eq_false h]; simp; omega
/-- A whole number as an answer. -/
def ZRet (z : Int) (e : Ending) (w' : World) : Prop := ∃ s, e = .returned (.agg (c2 (zb z) s)) ∧ RN w' s z.natAbs

theorem dl_le {B x y : Nat} (hB : 2 ≤ B) (h : x ≤ y) : (digs B x).length ≤ (digs B y).length := len_mono hB h
theorem dl_add {x y k : Nat} (hx : (digs B32 x).length ≤ k) (hy : (digs B32 y).length ≤ k) : (digs B32 (x + y)).length ≤ k + 1 := by
  have h : ∀ z, (digs B32 z).length ≤ k → z < B32 ^ k := fun z hz => by
    have := val_lt (ok_digs two32 z)
    rw [val_digs two32] at this
    exact Nat.lt_of_lt_of_le this (Nat.pow_le_pow_right (by rw [B32v]; omega) hz)
  refine digs_length_le two32 ?_
  have h1 := h x hx
  have h2 := h y hy
  rw [Nat.pow_succ]
  have := Nat.mul_le_mul_left (B32 ^ k) two32
  omega

theorem zNeg_spec {w : World} {a : Slc} {x : Int} (ha : RN w a x.natAbs) :
    Calls pr surdref06_Neg_id #[.agg (c2 (zb x) a)] w fun e w' => Ahead w w' ∧ ZRet (-x) e w' := by
  refine surdref06_Neg_v2 (zb x) a w _ fun w1 x1 a1 => Calls.mono (make1_spec (ha.ahead a1)) ?_
  rintro e w2 ⟨h2, rfl, r2⟩
  refine ⟨_, _, rfl, h2, fun w3 x3 a3 => ⟨a, by rw [zb_neg], ?_⟩⟩
  rw [Int.natAbs_neg]; exact r2.ext x3

theorem zAdd_spec {w : World} {a b : Slc} {x y : Int} (ha : RN w a x.natAbs) (hb : RN w b y.natAbs) (la : (digs B32 x.natAbs).length + 1 ≤ 2 ^ 45) (lb : (digs B32 y.natAbs).length + 1 ≤ 2 ^ 45) :
    Calls pr surdref06_Add_id #[.agg (c2 (zb x) a), .agg (c2 (zb y) b)] w fun e w' => Ahead w w' ∧ ZRet (x + y) e w' := by
  refine surdref06_Add_v2 (zb x) a (zb y) b w _ (br_intro (fun he => ?_) (fun hne => ?_))
  · intro w1 x1 a1
    have he' := eq_of_beq he
    refine Calls.mono (Ref.Add_spec (ha.ahead a1) (hb.ahead a1) la lb) ?_
    rintro e w2 ⟨h2, s, rfl, r2⟩
    refine ⟨_, rfl, h2, Calls.mono (make1_spec r2) ?_⟩
    rintro e w3 ⟨h3, rfl, r3⟩
    have es : sg (zb x) (x.natAbs + y.natAbs) = x + y := by
      have h1 := sg_zb x
      have h2 := sg_zb y
      rw [← he'] at h2
      unfold sg at *
      split <;> simp_all <;> omega
    refine ⟨_, _, rfl, h3, fun w4 x4 a4 => ⟨s, ?_, ?_⟩⟩
    · rw [← es, zb_sg]
    · rw [← es, sg_abs]; exact r3.ext x4
  · intro w5 x5 a5
    have hne' : zb x ≠ zb y := fun h => by rw [h] at hne; simp at hne
    have hy' : zb y = !zb x := by cases hx : zb x <;> cases hy : zb y <;> simp_all
    refine Calls.mono (Cmp_spec (ha.ahead a5) (hb.ahead a5) (by omega) (by omega)) ?_
    rintro e w6 ⟨h6, rfl⟩
    have a6 := a5.trans h6
    have hc := cmpI_neg (m := x.natAbs) (n := y.natAbs)
    have h1 := sg_zb x
    have h2 := sg_zb y
    rw [hy'] at h2
    refine ⟨_, rfl, h6, br_intro (fun hg => ?_) (fun hl => ?_)⟩
    · have hle : y.natAbs ≤ x.natAbs := by
        rcases Nat.lt_or_ge x.natAbs y.natAbs with h | h
        · have := hc.2 h; have := of_decide_eq_true hg; omega
        · exact h
      intro w7 x7 a7
      refine Calls.mono (Ref.Sub_spec (ha.ahead a7) (hb.ahead a7) hle (by omega)) ?_
      rintro e w8 ⟨h8, s, rfl, r8⟩
      refine ⟨_, rfl, h8, Calls.mono (make1_spec r8) ?_⟩
      rintro e w9 ⟨h9, rfl, r9⟩
      have es : sg (zb x) (x.natAbs - y.natAbs) = x + y := by
        unfold sg at *
        cases hx : zb x <;> simp_all <;> omega
      refine ⟨_, _, rfl, h9, fun w4 x4 a4 => ⟨s, ?_, ?_⟩⟩
      · rw [← es, zb_sg]
      · rw [← es, sg_abs]; exact r9.ext x4
    · have hlt : x.natAbs < y.natAbs := hc.1 (by have := of_decide_eq_false hl; omega)
      intro w7 x7 a7
      refine Calls.mono (Ref.Sub_spec (hb.ahead a7) (ha.ahead a7) (by omega) (by omega)) ?_
      rintro e w8 ⟨h8, s, rfl, r8⟩
      refine ⟨_, rfl, h8, Calls.mono (make1_spec r8) ?_⟩
      rintro e w9 ⟨h9, rfl, r9⟩
      have es : sg (zb y) (y.natAbs - x.natAbs) = x + y := by
        rw [hy']
        unfold sg at *
        cases hx : zb x <;> simp_all <;> omega
      refine ⟨_, _, rfl, h9, fun w4 x4 a4 => ⟨s, ?_, ?_⟩⟩
      · rw [← es, zb_sg]
      · rw [← es, sg_abs]; exact r9.ext x4

theorem floor_sg {neg : Bool} {x y : Nat} (hy : 0 < y) : sg neg x / (y : Int) = sg neg (x / y) - (if x % y ≠ 0 ∧ neg = true then 1 else 0) := by
  have hd := Nat.mod_add_div x y
  have hm := Nat.mod_lt x hy
  have key : ∀ q r : Int, r + (y : Int) * q = sg neg x → 0 ≤ r → r < y → sg neg x / (y : Int) = q := fun q r h1 h2 h3 =>
    ((Int.ediv_emod_unique (by omega)).2 ⟨h1, h2, h3⟩).1
  have e : (x : Int) = ((x % y : Nat) : Int) + (y : Int) * ((x / y : Nat) : Int) := by
    conv => lhs; rw [← hd]
    push_cast; rfl
  generalize x / y = q at *
  generalize x % y = r at *
  cases neg
  · refine key _ (r : Int) ?_ (by omega) (by omega)
    simp [sg]; omega
  · by_cases hr : r = 0
    · refine key _ 0 ?_ (by omega) (by omega)
      subst hr
      simp [sg]; rw [Int.mul_neg]; omega
    · refine key _ ((y : Int) - r) ?_ (by omega) (by omega)
      simp [sg, hr]
      rw [Int.mul_sub, Int.mul_neg]; omega
theorem mod_sub {x : Int} {y : Nat} : x % (y : Int) = x - x / (y : Int) * y := by
  have := Int.emod_add_mul_ediv x y
  rw [Int.mul_comm] at this
  omega

theorem zb_nat (y : Nat) : zb (y : Int) = false := decide_eq_false (by omega)

theorem sgn_zb {z : Int} : sgn (zb z) z.natAbs = 0 ↔ z = 0 := by rw [sgn_zero_iff]; omega
theorem zSign_zb {w : World} {s : Slc} {z : Int} (h : RN w s z.natAbs) : Calls pr surdref06_Z_Sign_id #[.agg (c2 (zb z) s)] w fun e w' => Ahead w w' ∧ e = .returned (.int .i64 (sgn (zb z) z.natAbs)) := by
  have := zSign_spec (neg := zb z) h
  rw [zb_nD] at this
  exact this

/-- Is the nearest one the next? -/
def nearUp (x : Int) (y : Nat) : Bool := decide (y < 2 * (x % (y : Int)).natAbs ∨ (2 * (x % (y : Int)).natAbs = y ∧ (x / (y : Int)).natAbs % 2 = 1))

end Dy
end Go.Proofs.YthhbjhdnaopcnaaDoor
namespace Go.Proofs.YthhbjhdnaopcnaaDoor
open Go Go.RowKit Eng Sp Dg
set_option linter.unusedVariables false
set_option linter.unusedSimpArgs false
set_option maxRecDepth 100000
namespace Dy
open _root_.Go.Proofs.YthhbjhdnaopcnaaDoor.Nat (ldN OwnNil Num Num.bl OwnNil.mono bigC digs_len_bl Yes num_of From_spec)
open _root_.Go.Proofs.YthhbjhdnaopcnaaDoor.Ref (RN RN.nil Of_spec Is_spec Len_spec zero_spec Lent Lent.ahead Lent.whole Bk len32)
open Sb

theorem wOf_spec {w : World} {v : Int} (h0 : -9223372036854775808 ≤ v) (h1 : v ≤ 9223372036854775807) :
    Calls pr whole_Of_id #[.int .i64 v] w fun e w' => Ahead w w' ∧ ∃ s, e = .returned (.agg (c2 (decide (v < 0)) s)) ∧ OwnNil w.heap.size w' s (digs B64 v.natAbs) := by
  have hB := B64v
  refine whole_Of_vc v w _ (newC_b fun b w1 hb h1' hs1 B1 => br_intro (fun hn => ?_) (fun hn => ?_))
  · have hn' : v < 0 := by simpa using hn
    have e1 : IntKind.u64.wrap (0 - IntKind.u64.wrap v) = ((v.natAbs : Nat) : Int) := by
      rw [wrap_u64, wrap_u64]; omega
    rw [e1]
    refine Calls.mono (From_spec (v := v.natAbs) (by omega)) ?_
    rintro e w2 ⟨h2, s, rfl, o⟩
    refine ⟨_, rfl, ret2 (B1.ahead h2) fun w' u _ => ⟨u.ahead (h1'.trans h2) (by omega), s, ?_, (u.own o (by omega)).mono h1'.size⟩⟩
    rw [decide_eq_true hn']
  · have hn' : ¬ v < 0 := by simpa using hn
    have e1 : IntKind.u64.wrap v = ((v.natAbs : Nat) : Int) := by
      rw [wrap_u64]; omega
    rw [e1]
    refine Calls.mono (From_spec (v := v.natAbs) (by omega)) ?_
    rintro e w2 ⟨h2, s, rfl, o⟩
    refine ⟨_, rfl, ret2 (B1.ahead h2) fun w' u _ => ⟨u.ahead (h1'.trans h2) (by omega), s, ?_, (u.own o (by omega)).mono h1'.size⟩⟩
    rw [decide_eq_false hn']

theorem bl64 {v : Nat} (h : v < 18446744073709551616) : bl v ≤ 64 := bl_le h
theorem tC_small {v : Nat} (h : v < 18446744073709551616) : tC v 0 = 0 := by
  have h1 := bl_mono (od_le v)
  have h2 := bl64 h
  have h3 := tz_le v
  rw [tC, if_neg (by omega), if_pos]
  unfold wi eD
  split <;> omega

theorem Of_spec {w : World} {v : Int} (hT : Tab w) (h0 : -9223372036854775808 ≤ v) (h1 : v ≤ 9223372036854775807) :
    Calls pr dyadic_Of_id #[.int .i64 v] w fun e w' => Ahead w w' ∧ ∃ s, e = .returned (.agg (c3 (nD (decide (v < 0)) v.natAbs) s (eD v.natAbs 0))) ∧ OwnNil w.heap.size w' s (digs B64 (od v.natAbs)) := by
  refine dyadic_Of_vc v w _ (newC_b fun b1 w1 hb1 h1' hs1 B1 => Calls.mono (wOf_spec h0 h1) ?_)
  rintro e w2 ⟨h2, s, rfl, o⟩
  have hl : (digs B64 v.natAbs).length ≤ 1 := digs_length_le two64 (by rw [B64v]; omega)
  have hn : Num w2 s v.natAbs := ⟨_, o.rd, by omega, ok_digs two64 _, val_digs two64 _⟩
  have h02 := h1'.trans h2
  refine ⟨_, _, rfl, Calls.mono (told_spec (e := 0) (hT.ahead h02) hn (by omega)) ?_⟩
  rw [tC_small (by omega)]
  rintro e w3 ⟨h3, s3, rfl, o3⟩
  rw [if_pos rfl] at o3
  rw [if_pos rfl, if_pos rfl]
  have h03 := h02.trans h3
  refine ⟨_, _, _, _, rfl, newC_b fun b2 w4 hb2 h4 hs4 B2 => set3 B2 fun w7 u7 C2 => get3 C2 ?_⟩
  have hlt := B1.lt
  have B17 : Blk w7 b1 _ := u7.blk (((B1.ahead h2).ahead h3).ahead h4) (by have := h02.size; have := h2.size; have := h3.size; omega)
  have h07 := u7.ahead (h03.trans h4) (by have := h03.size; omega)
  refine ret3 B17 fun w' u _ => ⟨u.ahead h07 (by omega), s3, rfl, (u.own (u7.own2 o3 h4 (by omega)) (by have := h2.size; omega)).mono h02.size⟩

theorem number_top_spec {w : World} {neg : Bool} {s : Slc} {x : Nat} {e : Int} (h : Num w s x) (he : -4611686018427387904 ≤ e ∧ e ≤ 4611686018427387904) :
    Calls pr dyadic_number_top_id #[.agg (c3 neg s e)] w fun en w' => Ahead w w' ∧ en = .returned (.int .i64 (e + bl x - 1)) := by
  have hbl := Num.bl h
  refine dyadic_number_top_vc neg s e w _ (newC_b fun b w1 hb h1 hs1 B1 => ?_)
  have hd := Ahead.drew w1
  have B1' := B1.ahead hd
  refine ldI_b (x := e) 2 B1' rfl (get2 B1' rfl rfl (Calls.mono (part_length_spec (h.ahead (h1.trans hd))) ?_))
  rintro en w2 ⟨h2, rfl⟩
  refine ⟨_, rfl, h2, (h1.trans hd).trans h2, ?_⟩
  rw [wrap_i64 (x := e + _) (by omega) (by omega), wrap_i64 (by omega) (by omega)]

theorem dTop_spec {w : World} {neg : Bool} {s : Slc} {x : Nat} {e : Int} (h : RN w s x) (hl : (digs B32 x).length ≤ 2 ^ 45) (he : -4611686018427387904 ≤ e ∧ e ≤ 4611686018427387904) :
    Calls pr surdref08_D_Top_id #[.agg (c3 neg s e)] w fun en w' => Ahead w w' ∧ en = .returned (.int .i64 (bl x - 1 + e)) := by
  have hbl : bl x ≤ 2 ^ 51 := by
    have := Ref.bl_len32 (ok_digs two32 x)
    rw [val_digs two32] at this
    omega
  refine surdref08_D_Top_vc neg s e w _ (newC_b fun b w1 hb h1 hs1 B1 => ?_)
  have hd := Ahead.drew w1
  have B1' := B1.ahead hd
  refine ldS_b (x := s) 1 B1' rfl (ldI_b (x := e) 2 B1' rfl (Calls.mono (Len_spec (h.ahead (h1.trans hd)) (by omega)) ?_))
  rintro en w2 ⟨rfl, rfl⟩
  refine ⟨_, rfl, Ahead.refl _, h1.trans hd, ?_⟩
  rw [wrap_i64 (x := _ - 1) (by omega) (by omega), wrap_i64 (by omega) (by omega)]

theorem Length_spec {w : World} {neg : Bool} {s : Slc} {x : Nat} {e : Int} (hT : Tab w) (h : Num w s x) :
    Calls pr dyadic_Length_id #[.agg (c3 neg s e)] w fun en w' => Ahead w w' ∧ en = .returned (.tuple #[.int .i64 (if wi e then bl (od x) else 0 : Nat), .int .i64 (if wi e then 0 else 80)]) := by
  have hl := num_len h
  refine dyadic_Length_vc neg s e w _ (newC_b fun b1 w1 hb1 h1 hs1 B1 => get3 B1 (Calls.mono (read_spec (hT.ahead h1) (h.ahead h1)) ?_))
  rintro en w2 ⟨h2, s2, rfl, o2⟩
  have h02 := h1.trans h2
  refine ⟨_, _, _, _, rfl, newC_b fun b2 w3 hb2 h3 hs3 B2 => set3 B2 fun w6 u6 C2 => ?_⟩
  have h06 := u6.ahead (h02.trans h3) (by have := h02.size; omega)
  have o6 := u6.own2 o2 h3 (by omega)
  have n6 : Num w6 s2 (if wi e then od x else 0) := by
    by_cases hw : wi e
    · rw [if_pos hw] at o6 ⊢
      exact num_od o6 hl
    · rw [if_neg hw] at o6 ⊢
      exact ⟨[], o6.rd, by simp, fun z hz => by simp at hz, rfl⟩
  refine get2 (x := if wi e then nD neg x else false) (s := s2) C2 rfl rfl (Calls.mono (part_length_spec n6) ?_)
  rintro en w7 ⟨h7, rfl⟩
  refine ⟨_, rfl, h06.trans h7, ?_⟩
  by_cases hw : wi e
  · rw [if_pos hw, if_pos hw, if_pos hw]
  · rw [if_neg hw, if_neg hw, if_neg hw, bl_zero]

end Dy
end Go.Proofs.YthhbjhdnaopcnaaDoor
namespace Go.Proofs.YthhbjhdnaopcnaaDoor
open Go Go.RowKit Eng Sp Dg L2
set_option linter.unusedVariables false
set_option linter.unusedSimpArgs false
set_option maxRecDepth 100000
namespace Dy
open _root_.Go.Proofs.YthhbjhdnaopcnaaDoor.Nat (OwnNil Num Num.bl OwnNil.mono OwnNil.ext OwnNil.rd OwnNil.ahead digs_len_bl num_of Yes)
open _root_.Go.Proofs.YthhbjhdnaopcnaaDoor.Ref (RN RN.nil RN.ext RN.ahead Len_spec Shl_spec Int_spec Lent Lent.ahead Lent.whole len_mono bl_len32 len32)
open Sb

def rX (neg : Bool) (n : Nat) (e pos m : Int) : Nat := if n = 0 ∨ pos ≤ e then n else rq neg n (pos - e).toNat m
def rE (n : Nat) (e pos : Int) : Int := if n = 0 ∨ pos ≤ e then e else pos

theorem rounded_spec {w : World} {neg : Bool} {s : Slc} {n : Nat} {e pos m : Int} (hT : Tab w) (r : Rd .u64 w s (nn (digs B64 n))) (hl : (digs B64 n).length + 1 ≤ 2 ^ 44) (he : -2305843009213693952 ≤ e ∧ e ≤ 2305843009213693952) (hp : -2305843009213693952 ≤ pos ∧ pos ≤ 2305843009213693952) :
    Calls pr dyadic_rounded_id #[.agg (c3 neg s e), .int .i64 pos, .int .i64 m] w (DOut w (tC (rX neg n e pos m) (rE n e pos)) neg (rX neg n e pos m) (rE n e pos)) := by
  have hnum : Num w s n := ⟨_, r, by omega, ok_digs two64 _, val_digs two64 _⟩
  refine Calls.mono (dyadic_rounded_v2 neg s e pos m w (fun en w' => Ahead w w' → DOut w (tC (rX neg n e pos m) (rE n e pos)) neg (rX neg n e pos m) (rE n e pos) en w') ?_) fun en w' ⟨h1, h2⟩ => h2 h1
  intro w1 x1 a1
  refine Calls.mono (part_sign_spec (hnum.ahead a1)) ?_
  rintro en w2 ⟨h2, rfl⟩
  have a2 := a1.trans h2
  have old : (n = 0 ∨ pos ≤ e) → Calls pr dyadic_told_id #[.agg (c2 neg s), .int .i64 e] w2 fun e2 w3 => ∃ b1 : Bool, ∃ s1 : Slc, ∃ x2 : Int, ∃ x3 : Int, e2 = .returned (Value.tuple #[Value.agg #[Value.bool b1, s1.v, Value.int .i64 x2], Value.int .i64 x3]) ∧ Ahead w2 w3 ∧
      (∀ w4, Ext w3 w4 → Ahead w w4 → (Ahead w w4 → DOut w (tC (rX neg n e pos m) (rE n e pos)) neg (rX neg n e pos m) (rE n e pos) (.returned (Value.tuple #[Value.agg #[Value.bool b1, s1.v, Value.int .i64 x2], Value.int .i64 x3])) w4)) := by
    intro hc
    rw [rX, if_pos hc, rE, if_pos hc]
    refine Calls.mono (told_spec (hT.ahead a2) (hnum.ahead a2) (by omega)) ?_
    rintro en w3 ⟨h3, s3, rfl, o3⟩
    exact ⟨_, _, _, _, rfl, h3, fun w4 x4 a4 _ => ⟨a4, s3, rfl, (o3.ext x4).mono a2.size⟩⟩
  refine ⟨_, rfl, h2, br_intro (fun hz => ?_) (fun hz => ?_)⟩
  · exact old (.inl (sgn_zero_iff.1 (eq_of_beq hz)))
  · have hn : n ≠ 0 := fun e0 => by rw [e0] at hz; simp [sgn] at hz
    refine br_intro (fun hge => old (.inr (of_decide_eq_true hge))) (fun hlt => ?_)
    have hc : ¬ (n = 0 ∨ pos ≤ e) := by
      rintro (h | h)
      · exact hn h
      · exact of_decide_eq_false hlt h
    have hst : stq neg n e pos m = rq neg n (pos - e).toNat m := if_neg hc
    rw [rX, if_neg hc, rE, if_neg hc]
    have lq : (digs B64 (n / 2 ^ (pos - e).toNat)).length + 1 ≤ 2 ^ 44 := Nat.le_trans (Nat.add_le_add_right (len_mono two64 (Nat.div_le_self _ _)) 1) hl
    refine Calls.mono (steps_spec (hT.ahead a2) (r.ahead a2) hl he hp (fun h => absurd h hc)) ?_
    rw [hst]
    rintro en w7 ⟨h7, s3, rfl, o3⟩
    have a7 := a2.trans h7
    have lx : (digs B64 (rq neg n (pos - e).toNat m)).length ≤ 2 ^ 44 := by
      have h1 : rq neg n (pos - e).toNat m ≤ n / 2 ^ (pos - e).toNat + 1 := by unfold rq; split <;> omega
      refine Nat.le_trans (len_mono two64 h1) ?_
      have h2 : n / 2 ^ (pos - e).toNat < B64 ^ (digs B64 (n / 2 ^ (pos - e).toNat)).length := by
        have := val_lt (ok_digs two64 (n / 2 ^ (pos - e).toNat))
        rwa [val_digs two64] at this
      refine Nat.le_trans (digs_length_le two64 (m := (digs B64 (n / 2 ^ (pos - e).toNat)).length + 1) ?_) lq
      rw [Nat.pow_succ]
      have h3 := Nat.mul_le_mul_left (B64 ^ (digs B64 (n / 2 ^ (pos - e).toNat)).length) two64
      have h4 : 0 < B64 ^ (digs B64 (n / 2 ^ (pos - e).toNat)).length := Nat.pow_pos (by rw [B64v]; omega)
      exact Nat.lt_of_le_of_lt (Nat.succ_le_of_lt h2) (by omega)
    have hx : Num w7 s3 (rq neg n (pos - e).toNat m) := ⟨_, o3.rd, lx, ok_digs two64 _, val_digs two64 _⟩
    refine ⟨_, _, rfl, h7, Calls.mono (told_spec (hT.ahead a7) hx (by omega)) ?_⟩
    rintro en w8 ⟨h8, s4, rfl, o4⟩
    exact ⟨_, _, _, _, rfl, h8, fun w4 x4 a4 _ => ⟨a4, s4, rfl, (o4.ext x4).mono a7.size⟩⟩

def okM (m : Int) : Prop := 0 ≤ m ∧ m ≤ 2
instance (m : Int) : Decidable (okM m) := inferInstanceAs (Decidable (_ ∧ _))
theorem eD_far {w : World} {s : Slc} {x : Nat} {e : Int} (h : Num w s x) (he : wi e) : -1125999906842624 - 1099511627776 ≤ eD x e ∧ eD x e ≤ 1125999906842624 + 1099511627776 := by
  have h1 := Num.bl h
  have h2 := tz_le x
  unfold wi at he
  unfold eD
  split <;> omega

theorem odd_mod {n gap : Nat} (hn : n % 2 = 1) (hg : 0 < gap) : n % 2 ^ gap ≠ 0 := by
  obtain ⟨g, rfl⟩ : ∃ g, gap = g + 1 := ⟨gap - 1, by omega⟩
  intro h
  have := Nat.mod_add_div n (2 ^ (g + 1))
  rw [h, Nat.pow_succ, Nat.mul_comm (2 ^ g) 2, Nat.mul_assoc] at this
  omega
theorem floor_odd {neg : Bool} {n gap : Nat} (hn : n % 2 = 1) (hg : 0 < gap) : sg neg n / ((2 ^ gap : Nat) : Int) = sg neg (n / 2 ^ gap + if neg then 1 else 0) := by
  rw [floor_sg (Nat.pow_pos (by omega))]
  have h := odd_mod hn hg
  generalize n / 2 ^ gap = q
  cases neg
  · simp [sg]
  · rw [if_pos ⟨h, rfl⟩]
    simp [sg]; omega
theorem mod_odd {neg : Bool} {n gap : Nat} (hn : n % 2 = 1) (hg : 0 < gap) : sg neg n % ((2 ^ gap : Nat) : Int) = if neg then ((2 ^ gap : Nat) : Int) - ((n % 2 ^ gap : Nat) : Int) else ((n % 2 ^ gap : Nat) : Int) := by
  rw [mod_sub, floor_odd hn hg]
  have hd := Nat.mod_add_div n (2 ^ gap)
  have e : (n : Int) = ((n % 2 ^ gap : Nat) : Int) + ((2 ^ gap : Nat) : Int) * ((n / 2 ^ gap : Nat) : Int) := by
    conv => lhs; rw [← hd]
    push_cast; rfl
  generalize n / 2 ^ gap = q at *
  generalize n % 2 ^ gap = r at *
  generalize 2 ^ gap = S at *
  cases neg
  · simp [sg]; rw [Int.mul_comm] at e; omega
  · simp [sg]
    rw [Int.neg_mul, Int.add_mul, Int.one_mul, Int.mul_comm (q : Int)]; omega
theorem down_odd {neg : Bool} {n gap : Nat} (hn : n % 2 = 1) (hg : 0 < gap) : sg neg n / ((2 ^ gap : Nat) : Int) = sg neg (rq neg n gap 0) := by
  rw [floor_odd hn hg]; unfold rq upR; simp
theorem up_odd {neg : Bool} {n gap : Nat} (hn : n % 2 = 1) (hg : 0 < gap) : (sg neg n / ((2 ^ gap : Nat) : Int) + if sg neg n % ((2 ^ gap : Nat) : Int) ≠ 0 then 1 else 0) = sg neg (rq neg n gap 1) := by
  have h := odd_mod hn hg
  have hlt := Nat.mod_lt n (show 2 ^ gap > 0 from Nat.pow_pos (by omega))
  rw [floor_odd hn hg, mod_odd hn hg]
  unfold rq upR
  generalize n / 2 ^ gap = q
  generalize n % 2 ^ gap = r at *
  generalize 2 ^ gap = S at *
  cases neg
  · simp [sg, h]
  · have : ¬ (S : Int) - (r : Int) = 0 := by omega
    simp [sg, this]; omega
theorem near_odd {neg : Bool} {n gap : Nat} (hn : n % 2 = 1) (hg : 0 < gap) : (sg neg n / ((2 ^ gap : Nat) : Int) + if nearUp (sg neg n) (2 ^ gap) = true then 1 else 0) = sg neg (rq neg n gap 2) := by
  have h0 := odd_mod hn hg
  have hS : 0 < 2 ^ gap := Nat.pow_pos (by omega)
  have hlt := Nat.mod_lt n hS
  have hd := Nat.mod_add_div n (2 ^ gap)
  obtain ⟨g, rfl⟩ : ∃ g, gap = g + 1 := ⟨gap - 1, by omega⟩
  have htz := tz_odd hn
  unfold nearUp
  rw [floor_odd hn hg, mod_odd hn hg, sg_abs]
  unfold rq upR
  rw [if_pos rfl, Nat.add_sub_cancel, htz]
  have hS2 : 2 ^ (g + 1) = 2 * 2 ^ g := by rw [Nat.pow_succ]; omega
  have hH : 0 < 2 ^ g := Nat.pow_pos (by omega)
  have hbit : n / 2 ^ g % 2 = n % 2 ^ (g + 1) / 2 ^ g := by
    rw [hS2, Nat.mul_comm 2, Nat.mod_mul, Nat.add_comm, Nat.mul_comm (2 ^ g), Nat.add_comm, Nat.add_mul_div_right _ _ hH, Nat.div_eq_of_lt (Nat.mod_lt _ hH), Nat.zero_add]
  rw [hbit]
  have hrodd : n % 2 ^ (g + 1) % 2 = 1 := by
    rw [hS2, Nat.mul_assoc] at hd
    rw [hS2]; omega
  have hb1 : n % 2 ^ (g + 1) / 2 ^ g = 1 ↔ 2 ^ g ≤ n % 2 ^ (g + 1) := by
    constructor
    · intro h
      rcases Nat.lt_or_ge (n % 2 ^ (g + 1)) (2 ^ g) with h1 | h1
      · rw [Nat.div_eq_of_lt h1] at h; omega
      · exact h1
    · intro h
      refine Nat.div_eq_of_lt_le (by omega) (by omega)
  have hpar : g = 0 ∨ 2 ^ g % 2 = 0 := by
    rcases Nat.eq_zero_or_pos g with h | h
    · exact .inl h
    · right
      obtain ⟨k, rfl⟩ : ∃ k, g = k + 1 := ⟨g - 1, by omega⟩
      rw [Nat.pow_succ]; omega
  have h1 : g = 0 → 2 ^ g = 1 := fun h => by rw [h, Nat.pow_zero]
  clear hd
  generalize n % 2 ^ (g + 1) = r at *
  generalize n / 2 ^ (g + 1) = q at *
  generalize 2 ^ (g + 1) = S at *
  have hd1 : decide (r / 2 ^ g = 1) = decide (2 ^ g ≤ r) := by rw [Bool.eq_iff_iff]; simp [hb1]
  rw [hd1]
  clear hd1 hb1 hbit
  generalize 2 ^ g = H at *
  subst hS2
  cases neg
  · simp only [Bool.false_eq_true, if_false, Int.natAbs_natCast, Nat.add_zero]
    have : (decide (2 * H < 2 * r ∨ 2 * r = 2 * H ∧ q % 2 = 1)) = (decide (H ≤ r) && (decide (0 < g) || decide (q % 2 = 1))) := by
      rw [Bool.eq_iff_iff]
      simp only [decide_eq_true_eq, Bool.and_eq_true, Bool.or_eq_true]
      omega
    rw [this]
    simp only [sg, Bool.false_eq_true, if_false]
    split <;> omega
  · simp only [if_true]
    have ea : ((2 * H : Nat) : Int).natAbs = 2 * H := by omega
    have : (decide (2 * H < 2 * (((2 * H : Nat) : Int) - (r : Int)).natAbs ∨ 2 * (((2 * H : Nat) : Int) - (r : Int)).natAbs = 2 * H ∧ (q + 1) % 2 = 1)) = !(decide (H ≤ r) && (decide (0 < g) || decide (q % 2 = 1))) := by
      rw [Bool.eq_iff_iff]
      simp only [decide_eq_true_eq, Bool.not_eq_true', Bool.and_eq_false_iff, Bool.or_eq_false_iff, decide_eq_false_iff_not]
      omega
    rw [this]
    simp only [sg, if_true]
    cases (decide (H ≤ r) && (decide (0 < g) || decide (q % 2 = 1))) <;> simp <;> omega

end Dy
end Go.Proofs.YthhbjhdnaopcnaaDoor
namespace Go.Proofs.YthhbjhdnaopcnaaDoor
open Go Go.RowKit Eng Sp Dg L2
set_option linter.unusedVariables false
set_option linter.unusedSimpArgs false
set_option maxRecDepth 100000
namespace Dy
open _root_.Go.Proofs.YthhbjhdnaopcnaaDoor.Nat (OwnNil Num Num.bl OwnNil.mono OwnNil.ext OwnNil.rd OwnNil.ahead digs_len_bl num_of Yes)
open _root_.Go.Proofs.YthhbjhdnaopcnaaDoor.Ref (RN RN.nil RN.ext RN.ahead Lent Lent.ahead Lent.ext Lent.whole len_mono len32 Bk)
open Sb

theorem of_spec {w : World} {neg : Bool} {s : Slc} {e : Int} {l : List Nat} (h : Rd .u64 w s (nn l)) (hl : l.length * 8 ≤ 140737488351232) (ol : ok B64 l) :
    Calls pr surdlaw08_of_id #[.agg (c3 neg s e)] w fun en w' => Ahead w w' ∧ ∃ s', en = .returned (.tuple #[.agg (c3 (if wi e then nD neg (val B64 l) else false) s' (if wi e then eD (val B64 l) e else 0)), .bool (decide (wi e))]) ∧ RN w' s' (if wi e then od (val B64 l) else 0) := by
  refine surdlaw08_of_v2 neg s e w _ fun w1 x1 a1 => Calls.mono Fits_spec ?_
  rintro en w2 ⟨rfl, rfl⟩
  refine ⟨_, rfl, Ahead.refl _, br_intro (fun hw => ?_) (fun hw => ?_)⟩
  · have hw' : ¬ wi e := by simpa using hw
    rw [if_neg hw', if_neg hw', if_neg hw', decide_eq_false hw']
    exact fun w3 x3 a3 => ⟨_, rfl, RN.nil⟩
  · have hw' : wi e := by simpa using hw
    rw [if_pos hw', if_pos hw', if_pos hw', decide_eq_true hw']
    intro w4 x4 a4
    refine Calls.mono (zOf_spec (h.ahead a4) hl ol) ?_
    rintro en w5 ⟨h5, s1, rfl, r1⟩
    have hx := len32 ol
    refine ⟨_, _, rfl, h5, Calls.mono (dOf_spec r1 (by omega) (by unfold wi at hw'; omega)) ?_⟩
    rintro en w6 ⟨h6, s2, rfl, r2⟩
    exact ⟨_, _, _, rfl, h6, fun w7 x7 a7 => ⟨s2, rfl, r2.ext x7⟩⟩
theorem mode_spec {w : World} {m : Int} : Calls pr surdlaw08_mode_id #[.int .i64 m] w fun e w' => w' = w ∧ e = .returned (.bool (decide (okM m))) := by
  refine surdlaw08_mode_vc m w _ (br_intro (fun h => ⟨rfl, ?_⟩) (fun h => ⟨rfl, ?_⟩))
  · have h1 : 0 ≤ m := by simpa using h
    congr 2
    simp [okM, h1]
  · have h1 : ¬ 0 ≤ m := by simpa using h
    congr 2
    simp [okM, h1]

/-- A program's answer (c, b4 s4 x3) beside the document's (f, b s5 x5): what 'alike' asks. -/
structure Beside (bs : Nat) (w' : World) (c f : Int) (b4 : Bool) (s4 : Slc) (x3 : Int) (b : Bool) (s5 : Slc) (x5 : Int) (N : Nat) (E : Int) (neg : Bool) : Prop where
  r : RN w' s5 N
  len : (digs B32 N).length ≤ 2 ^ 46
  code : c = if f = 0 then tK N E else f
  wn : f = 0 → b = neg
  we : f = 0 → x5 = E
  pn : b4 = if c = 0 then neg else false
  pe : x3 = if c = 0 then E else 0
  o : OwnNil bs w' s4 (if c = 0 then digs B64 N else [])
  len64 : bl N ≤ 67108864 → (digs B64 N).length ≤ 2 ^ 44
theorem Beside.ext {bs : Nat} {w w' : World} {c f : Int} {b4 : Bool} {s4 : Slc} {x3 : Int} {b : Bool} {s5 : Slc} {x5 : Int} {N : Nat} {E : Int} {neg : Bool} (h : Beside bs w c f b4 s4 x3 b s5 x5 N E neg) (x : Ext w w') : Beside bs w' c f b4 s4 x3 b s5 x5 N E neg :=
  ⟨h.r.ext x, h.len, h.code, h.wn, h.we, h.pn, h.pe, h.o.ext x, h.len64⟩

end Dy
end Go.Proofs.YthhbjhdnaopcnaaDoor
