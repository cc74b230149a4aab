/- Verification conditions of some of the program's functions, printed by a program of this session. No condition. -/
import Derived.Test.YthhbjhdnaopcnaaDoorProg
import Derived.Test.YthhbjhdnaopcnaaDoorEng
namespace Go.Proofs.YthhbjhdnaopcnaaDoor
open Go Go.RowKit Eng
set_option linter.unusedVariables false

set_option maxRecDepth 100000 in
/-- surd/surdref06.Shift: function 53. -/
theorem surdref06_Shift_vc (a0_a_0 : Bool) (a0_a_1 : Slc) (a1_n : Int) (w : World) (R : Ending → World → Prop)
    
    (h : newC w #[Value.bool a0_a_0, a0_a_1.v] 44 fun ad1 w1 =>
    newC w1 #[Value.bool false, (⟨none, 0, 0⟩ : Slc).v] 44 fun ad2 w2 =>
    br (decide (a1_n ≥ 0))
    (ldB ad1 w2.drew fun b1 =>
      ldS (ad1.add 1) w2.drew fun s1 =>
      Calls Tryd.prog 54 #[s1.v, Value.int .i64 a1_n] w2.drew fun e1 w3 =>
      ∃ s2 : Slc, e1 = .returned s2.v ∧
      (Ahead w2.drew w3 ∧
        (Calls Tryd.prog 66 #[Value.bool b1, s2.v] w3 fun e2 w4 =>
          ∃ b2 : Bool, ∃ s3 : Slc, e2 = .returned (Value.agg #[Value.bool b2, s3.v]) ∧
          (Ahead w3 w4 ∧
            (stC ad2 (Value.bool b2) w4 fun w5 =>
              stC (ad2.add 1) s3.v w5 fun w6 =>
              ldB ad2 w6 fun b3 =>
              ldS (ad2.add 1) w6 fun s4 =>
              R (.returned (Value.agg #[Value.bool b3, s4.v])) w6)))))
    (ldS (ad1.add 1) w2 fun s5 =>
      Calls Tryd.prog 34 #[s5.v] w2 fun e3 w7 =>
      ∃ x1 : Int, e3 = .returned (Value.int .i64 x1) ∧
      (br (decide (a1_n < (IntKind.i64.wrap (0 - x1))))
        (ldB ad1 w7 fun b4 =>
          br b4
          (Calls Tryd.prog 77 #[Value.int .i64 (-1)] w7 fun e4 w8 =>
            ∃ b5 : Bool, ∃ s6 : Slc, e4 = .returned (Value.agg #[Value.bool b5, s6.v]) ∧
            (stC ad2 (Value.bool b5) w8 fun w9 =>
              stC (ad2.add 1) s6.v w9 fun w10 =>
              ldB ad2 w10 fun b6 =>
              ldS (ad2.add 1) w10 fun s7 =>
              R (.returned (Value.agg #[Value.bool b6, s7.v])) w10))
          (stC ad2 (Value.bool false) w7 fun w11 =>
            stC (ad2.add 1) ((⟨none, 0, 0⟩ : Slc).v) w11 fun w12 =>
            ldB ad2 w12 fun b7 =>
            ldS (ad2.add 1) w12 fun s8 =>
            R (.returned (Value.agg #[Value.bool b7, s8.v])) w12))
        (∃ V1 : Nat → Nat → Prop, Out (V1 0) ad1 (ldB ad1 w7.drew fun b8 =>
            ldS (ad1.add 1) w7.drew fun s9 =>
            (Calls Tryd.prog 52 #[Value.int .i64 1] w7.drew fun e5 w13 =>
              ∃ s10 : Slc, e5 = .returned s10.v ∧
              (Bar (V1 0) w7.drew w13 ∧
                ((Calls Tryd.prog 54 #[s10.v, Value.int .i64 (IntKind.i64.wrap (0 - a1_n))] w13 fun e6 w14 =>
                    ∃ s11 : Slc, e6 = .returned s11.v ∧
                    (Bar (V1 0) w13 w14 ∧
                      ((Calls Tryd.prog 66 #[Value.bool false, s11.v] w14 fun e7 w15 =>
                          ∃ b9 : Bool, ∃ s12 : Slc, e7 = .returned (Value.agg #[Value.bool b9, s12.v]) ∧
                          (Bar (V1 0) w14 w15 ∧
                            ((Calls Tryd.prog 81 #[Value.agg #[Value.bool b8, s9.v], Value.agg #[Value.bool b9, s12.v]] w15 fun e8 w16 =>
                                ∃ b10 : Bool, ∃ s13 : Slc, ∃ b11 : Bool, ∃ s14 : Slc, e8 = .returned (Value.tuple #[Value.agg #[Value.bool b10, s13.v], Value.agg #[Value.bool b11, s14.v]]) ∧
                                ((newC w16 #[Value.bool false, (⟨none, 0, 0⟩ : Slc).v] 44 fun ad3 w17 =>
                                    Bar (V1 0) w16 w17 ∧
                                    (newC w17 #[Value.bool false, (⟨none, 0, 0⟩ : Slc).v] 44 fun ad4 w18 =>
                                      Bar (V1 0) w17 w18 ∧
                                      (stC ad3 (Value.bool b10) w18 fun w19 =>
                                        stC (ad3.add 1) s13.v w19 fun w20 =>
                                        stC ad4 (Value.bool b11) w20 fun w21 =>
                                        stC (ad4.add 1) s14.v w21 fun w22 =>
                                        ldB ad3 w22 fun b12 =>
                                        ldS (ad3.add 1) w22 fun s15 =>
                                        stC ad2 (Value.bool b12) w22 fun w23 =>
                                        stC (ad2.add 1) s15.v w23 fun w24 =>
                                        ldB ad2 w24 fun b13 =>
                                        ldS (ad2.add 1) w24 fun s16 =>
                                        R (.returned (Value.agg #[Value.bool b13, s16.v])) w24))) ∧
                                  (newC w16 #[Value.bool false, (⟨none, 0, 0⟩ : Slc).v] 44 fun ad5 w25 =>
                                    Bar (V1 0) w16 w25 ∧
                                    (newC w25 #[Value.bool false, (⟨none, 0, 0⟩ : Slc).v] 44 fun ad6 w26 =>
                                      Bar (V1 0) w25 w26 ∧
                                      (stC ad6 (Value.bool b10) w26 fun w27 =>
                                        stC (ad6.add 1) s13.v w27 fun w28 =>
                                        stC ad5 (Value.bool b11) w28 fun w29 =>
                                        stC (ad5.add 1) s14.v w29 fun w30 =>
                                        ldB ad6 w30 fun b14 =>
                                        ldS (ad6.add 1) w30 fun s17 =>
                                        stC ad2 (Value.bool b14) w30 fun w31 =>
                                        stC (ad2.add 1) s17.v w31 fun w32 =>
                                        ldB ad2 w32 fun b15 =>
                                        ldS (ad2.add 1) w32 fun s18 =>
                                        R (.returned (Value.agg #[Value.bool b15, s18.v])) w32))))) ∧
                              ((newC w15 #[Value.bool false, (⟨none, 0, 0⟩ : Slc).v] 44 fun ad7 w33 =>
                                  Bar (V1 0) w15 w33 ∧
                                  ((Calls Tryd.prog 81 #[Value.agg #[Value.bool b8, s9.v], Value.agg #[Value.bool b9, s12.v]] w33 fun e9 w34 =>
                                      ∃ b16 : Bool, ∃ s19 : Slc, ∃ b17 : Bool, ∃ s20 : Slc, e9 = .returned (Value.tuple #[Value.agg #[Value.bool b16, s19.v], Value.agg #[Value.bool b17, s20.v]]) ∧
                                      (newC w34 #[Value.bool false, (⟨none, 0, 0⟩ : Slc).v] 44 fun ad8 w35 =>
                                        Bar (V1 0) w34 w35 ∧
                                        (stC ad7 (Value.bool b16) w35 fun w36 =>
                                          stC (ad7.add 1) s19.v w36 fun w37 =>
                                          stC ad8 (Value.bool b17) w37 fun w38 =>
                                          stC (ad8.add 1) s20.v w38 fun w39 =>
                                          ldB ad7 w39 fun b18 =>
                                          ldS (ad7.add 1) w39 fun s21 =>
                                          stC ad2 (Value.bool b18) w39 fun w40 =>
                                          stC (ad2.add 1) s21.v w40 fun w41 =>
                                          ldB ad2 w41 fun b19 =>
                                          ldS (ad2.add 1) w41 fun s22 =>
                                          R (.returned (Value.agg #[Value.bool b19, s22.v])) w41))) ∧
                                    (newC w33 #[Value.bool false, (⟨none, 0, 0⟩ : Slc).v] 44 fun ad9 w42 =>
                                      Bar (V1 0) w33 w42 ∧
                                      (Calls Tryd.prog 81 #[Value.agg #[Value.bool b8, s9.v], Value.agg #[Value.bool b9, s12.v]] w42 fun e10 w43 =>
                                        ∃ b20 : Bool, ∃ s23 : Slc, ∃ b21 : Bool, ∃ s24 : Slc, e10 = .returned (Value.tuple #[Value.agg #[Value.bool b20, s23.v], Value.agg #[Value.bool b21, s24.v]]) ∧
                                        (stC ad7 (Value.bool b20) w43 fun w44 =>
                                          stC (ad7.add 1) s23.v w44 fun w45 =>
                                          stC ad9 (Value.bool b21) w45 fun w46 =>
                                          stC (ad9.add 1) s24.v w46 fun w47 =>
                                          ldB ad7 w47 fun b22 =>
                                          ldS (ad7.add 1) w47 fun s25 =>
                                          stC ad2 (Value.bool b22) w47 fun w48 =>
                                          stC (ad2.add 1) s25.v w48 fun w49 =>
                                          ldB ad2 w49 fun b23 =>
                                          ldS (ad2.add 1) w49 fun s26 =>
                                          R (.returned (Value.agg #[Value.bool b23, s26.v])) w49))))) ∧
                                (newC w15 #[Value.bool false, (⟨none, 0, 0⟩ : Slc).v] 44 fun ad10 w50 =>
                                  Bar (V1 0) w15 w50 ∧
                                  ((Calls Tryd.prog 81 #[Value.agg #[Value.bool b8, s9.v], Value.agg #[Value.bool b9, s12.v]] w50 fun e11 w51 =>
                                      ∃ b24 : Bool, ∃ s27 : Slc, ∃ b25 : Bool, ∃ s28 : Slc, e11 = .returned (Value.tuple #[Value.agg #[Value.bool b24, s27.v], Value.agg #[Value.bool b25, s28.v]]) ∧
                                      (newC w51 #[Value.bool false, (⟨none, 0, 0⟩ : Slc).v] 44 fun ad11 w52 =>
                                        Bar (V1 0) w51 w52 ∧
                                        (stC ad11 (Value.bool b24) w52 fun w53 =>
                                          stC (ad11.add 1) s27.v w53 fun w54 =>
                                          stC ad10 (Value.bool b25) w54 fun w55 =>
                                          stC (ad10.add 1) s28.v w55 fun w56 =>
                                          ldB ad11 w56 fun b26 =>
                                          ldS (ad11.add 1) w56 fun s29 =>
                                          stC ad2 (Value.bool b26) w56 fun w57 =>
                                          stC (ad2.add 1) s29.v w57 fun w58 =>
                                          ldB ad2 w58 fun b27 =>
                                          ldS (ad2.add 1) w58 fun s30 =>
                                          R (.returned (Value.agg #[Value.bool b27, s30.v])) w58))) ∧
                                    (newC w50 #[Value.bool false, (⟨none, 0, 0⟩ : Slc).v] 44 fun ad12 w59 =>
                                      Bar (V1 0) w50 w59 ∧
                                      (Calls Tryd.prog 81 #[Value.agg #[Value.bool b8, s9.v], Value.agg #[Value.bool b9, s12.v]] w59 fun e12 w60 =>
                                        ∃ b28 : Bool, ∃ s31 : Slc, ∃ b29 : Bool, ∃ s32 : Slc, e12 = .returned (Value.tuple #[Value.agg #[Value.bool b28, s31.v], Value.agg #[Value.bool b29, s32.v]]) ∧
                                        (stC ad12 (Value.bool b28) w60 fun w61 =>
                                          stC (ad12.add 1) s31.v w61 fun w62 =>
                                          stC ad10 (Value.bool b29) w62 fun w63 =>
                                          stC (ad10.add 1) s32.v w63 fun w64 =>
                                          ldB ad12 w64 fun b30 =>
                                          ldS (ad12.add 1) w64 fun s33 =>
                                          stC ad2 (Value.bool b30) w64 fun w65 =>
                                          stC (ad2.add 1) s33.v w65 fun w66 =>
                                          ldB ad2 w66 fun b31 =>
                                          ldS (ad2.add 1) w66 fun s34 =>
                                          R (.returned (Value.agg #[Value.bool b31, s34.v])) w66))))))))) ∧
                        ((newC w14 #[Value.bool false, (⟨none, 0, 0⟩ : Slc).v] 44 fun ad13 w67 =>
                            Bar (V1 0) w14 w67 ∧
                            ((Calls Tryd.prog 66 #[Value.bool false, s11.v] w67 fun e13 w68 =>
                                ∃ b32 : Bool, ∃ s35 : Slc, e13 = .returned (Value.agg #[Value.bool b32, s35.v]) ∧
                                (Bar (V1 0) w67 w68 ∧
                                  ((Calls Tryd.prog 81 #[Value.agg #[Value.bool b8, s9.v], Value.agg #[Value.bool b32, s35.v]] w68 fun e14 w69 =>
                                      ∃ b33 : Bool, ∃ s36 : Slc, ∃ b34 : Bool, ∃ s37 : Slc, e14 = .returned (Value.tuple #[Value.agg #[Value.bool b33, s36.v], Value.agg #[Value.bool b34, s37.v]]) ∧
                                      (newC w69 #[Value.bool false, (⟨none, 0, 0⟩ : Slc).v] 44 fun ad14 w70 =>
                                        Bar (V1 0) w69 w70 ∧
                                        (stC ad13 (Value.bool b33) w70 fun w71 =>
                                          stC (ad13.add 1) s36.v w71 fun w72 =>
                                          stC ad14 (Value.bool b34) w72 fun w73 =>
                                          stC (ad14.add 1) s37.v w73 fun w74 =>
                                          ldB ad13 w74 fun b35 =>
                                          ldS (ad13.add 1) w74 fun s38 =>
                                          stC ad2 (Value.bool b35) w74 fun w75 =>
                                          stC (ad2.add 1) s38.v w75 fun w76 =>
                                          ldB ad2 w76 fun b36 =>
                                          ldS (ad2.add 1) w76 fun s39 =>
                                          R (.returned (Value.agg #[Value.bool b36, s39.v])) w76))) ∧
                                    (newC w68 #[Value.bool false, (⟨none, 0, 0⟩ : Slc).v] 44 fun ad15 w77 =>
                                      Bar (V1 0) w68 w77 ∧
                                      (Calls Tryd.prog 81 #[Value.agg #[Value.bool b8, s9.v], Value.agg #[Value.bool b32, s35.v]] w77 fun e15 w78 =>
                                        ∃ b37 : Bool, ∃ s40 : Slc, ∃ b38 : Bool, ∃ s41 : Slc, e15 = .returned (Value.tuple #[Value.agg #[Value.bool b37, s40.v], Value.agg #[Value.bool b38, s41.v]]) ∧
                                        (stC ad13 (Value.bool b37) w78 fun w79 =>
                                          stC (ad13.add 1) s40.v w79 fun w80 =>
                                          stC ad15 (Value.bool b38) w80 fun w81 =>
                                          stC (ad15.add 1) s41.v w81 fun w82 =>
                                          ldB ad13 w82 fun b39 =>
                                          ldS (ad13.add 1) w82 fun s42 =>
                                          stC ad2 (Value.bool b39) w82 fun w83 =>
                                          stC (ad2.add 1) s42.v w83 fun w84 =>
                                          ldB ad2 w84 fun b40 =>
                                          ldS (ad2.add 1) w84 fun s43 =>
                                          R (.returned (Value.agg #[Value.bool b40, s43.v])) w84)))))) ∧
                              (newC w67 #[Value.bool false, (⟨none, 0, 0⟩ : Slc).v] 44 fun ad16 w85 =>
                                Bar (V1 0) w67 w85 ∧
                                (Calls Tryd.prog 66 #[Value.bool false, s11.v] w85 fun e16 w86 =>
                                  ∃ b41 : Bool, ∃ s44 : Slc, e16 = .returned (Value.agg #[Value.bool b41, s44.v]) ∧
                                  (Bar (V1 0) w85 w86 ∧
                                    (Calls Tryd.prog 81 #[Value.agg #[Value.bool b8, s9.v], Value.agg #[Value.bool b41, s44.v]] w86 fun e17 w87 =>
                                      ∃ b42 : Bool, ∃ s45 : Slc, ∃ b43 : Bool, ∃ s46 : Slc, e17 = .returned (Value.tuple #[Value.agg #[Value.bool b42, s45.v], Value.agg #[Value.bool b43, s46.v]]) ∧
                                      (stC ad13 (Value.bool b42) w87 fun w88 =>
                                        stC (ad13.add 1) s45.v w88 fun w89 =>
                                        stC ad16 (Value.bool b43) w89 fun w90 =>
                                        stC (ad16.add 1) s46.v w90 fun w91 =>
                                        ldB ad13 w91 fun b44 =>
                                        ldS (ad13.add 1) w91 fun s47 =>
                                        stC ad2 (Value.bool b44) w91 fun w92 =>
                                        stC (ad2.add 1) s47.v w92 fun w93 =>
                                        ldB ad2 w93 fun b45 =>
                                        ldS (ad2.add 1) w93 fun s48 =>
                                        R (.returned (Value.agg #[Value.bool b45, s48.v])) w93))))))) ∧
                          (newC w14 #[Value.bool false, (⟨none, 0, 0⟩ : Slc).v] 44 fun ad17 w94 =>
                            Bar (V1 0) w14 w94 ∧
                            ((Calls Tryd.prog 66 #[Value.bool false, s11.v] w94 fun e18 w95 =>
                                ∃ b46 : Bool, ∃ s49 : Slc, e18 = .returned (Value.agg #[Value.bool b46, s49.v]) ∧
                                (Bar (V1 0) w94 w95 ∧
                                  ((Calls Tryd.prog 81 #[Value.agg #[Value.bool b8, s9.v], Value.agg #[Value.bool b46, s49.v]] w95 fun e19 w96 =>
                                      ∃ b47 : Bool, ∃ s50 : Slc, ∃ b48 : Bool, ∃ s51 : Slc, e19 = .returned (Value.tuple #[Value.agg #[Value.bool b47, s50.v], Value.agg #[Value.bool b48, s51.v]]) ∧
                                      (newC w96 #[Value.bool false, (⟨none, 0, 0⟩ : Slc).v] 44 fun ad18 w97 =>
                                        Bar (V1 0) w96 w97 ∧
                                        (stC ad18 (Value.bool b47) w97 fun w98 =>
                                          stC (ad18.add 1) s50.v w98 fun w99 =>
                                          stC ad17 (Value.bool b48) w99 fun w100 =>
                                          stC (ad17.add 1) s51.v w100 fun w101 =>
                                          ldB ad18 w101 fun b49 =>
                                          ldS (ad18.add 1) w101 fun s52 =>
                                          stC ad2 (Value.bool b49) w101 fun w102 =>
                                          stC (ad2.add 1) s52.v w102 fun w103 =>
                                          ldB ad2 w103 fun b50 =>
                                          ldS (ad2.add 1) w103 fun s53 =>
                                          R (.returned (Value.agg #[Value.bool b50, s53.v])) w103))) ∧
                                    (newC w95 #[Value.bool false, (⟨none, 0, 0⟩ : Slc).v] 44 fun ad19 w104 =>
                                      Bar (V1 0) w95 w104 ∧
                                      (Calls Tryd.prog 81 #[Value.agg #[Value.bool b8, s9.v], Value.agg #[Value.bool b46, s49.v]] w104 fun e20 w105 =>
                                        ∃ b51 : Bool, ∃ s54 : Slc, ∃ b52 : Bool, ∃ s55 : Slc, e20 = .returned (Value.tuple #[Value.agg #[Value.bool b51, s54.v], Value.agg #[Value.bool b52, s55.v]]) ∧
                                        (stC ad19 (Value.bool b51) w105 fun w106 =>
                                          stC (ad19.add 1) s54.v w106 fun w107 =>
                                          stC ad17 (Value.bool b52) w107 fun w108 =>
                                          stC (ad17.add 1) s55.v w108 fun w109 =>
                                          ldB ad19 w109 fun b53 =>
                                          ldS (ad19.add 1) w109 fun s56 =>
                                          stC ad2 (Value.bool b53) w109 fun w110 =>
                                          stC (ad2.add 1) s56.v w110 fun w111 =>
                                          ldB ad2 w111 fun b54 =>
                                          ldS (ad2.add 1) w111 fun s57 =>
                                          R (.returned (Value.agg #[Value.bool b54, s57.v])) w111)))))) ∧
                              (newC w94 #[Value.bool false, (⟨none, 0, 0⟩ : Slc).v] 44 fun ad20 w112 =>
                                Bar (V1 0) w94 w112 ∧
                                (Calls Tryd.prog 66 #[Value.bool false, s11.v] w112 fun e21 w113 =>
                                  ∃ b55 : Bool, ∃ s58 : Slc, e21 = .returned (Value.agg #[Value.bool b55, s58.v]) ∧
                                  (Bar (V1 0) w112 w113 ∧
                                    (Calls Tryd.prog 81 #[Value.agg #[Value.bool b8, s9.v], Value.agg #[Value.bool b55, s58.v]] w113 fun e22 w114 =>
                                      ∃ b56 : Bool, ∃ s59 : Slc, ∃ b57 : Bool, ∃ s60 : Slc, e22 = .returned (Value.tuple #[Value.agg #[Value.bool b56, s59.v], Value.agg #[Value.bool b57, s60.v]]) ∧
                                      (stC ad20 (Value.bool b56) w114 fun w115 =>
                                        stC (ad20.add 1) s59.v w115 fun w116 =>
                                        stC ad17 (Value.bool b57) w116 fun w117 =>
                                        stC (ad17.add 1) s60.v w117 fun w118 =>
                                        ldB ad20 w118 fun b58 =>
                                        ldS (ad20.add 1) w118 fun s61 =>
                                        stC ad2 (Value.bool b58) w118 fun w119 =>
                                        stC (ad2.add 1) s61.v w119 fun w120 =>
                                        ldB ad2 w120 fun b59 =>
                                        ldS (ad2.add 1) w120 fun s62 =>
                                        R (.returned (Value.agg #[Value.bool b59, s62.v])) w120))))))))))) ∧
                  ((newC w13 #[Value.bool false, (⟨none, 0, 0⟩ : Slc).v] 44 fun ad21 w121 =>
                      Bar (V1 0) w13 w121 ∧
                      ((Calls Tryd.prog 54 #[s10.v, Value.int .i64 (IntKind.i64.wrap (0 - a1_n))] w121 fun e23 w122 =>
                          ∃ s63 : Slc, e23 = .returned s63.v ∧
                          (Bar (V1 0) w121 w122 ∧
                            ((Calls Tryd.prog 66 #[Value.bool false, s63.v] w122 fun e24 w123 =>
                                ∃ b60 : Bool, ∃ s64 : Slc, e24 = .returned (Value.agg #[Value.bool b60, s64.v]) ∧
                                (Bar (V1 0) w122 w123 ∧
                                  ((Calls Tryd.prog 81 #[Value.agg #[Value.bool b8, s9.v], Value.agg #[Value.bool b60, s64.v]] w123 fun e25 w124 =>
                                      ∃ b61 : Bool, ∃ s65 : Slc, ∃ b62 : Bool, ∃ s66 : Slc, e25 = .returned (Value.tuple #[Value.agg #[Value.bool b61, s65.v], Value.agg #[Value.bool b62, s66.v]]) ∧
                                      (newC w124 #[Value.bool false, (⟨none, 0, 0⟩ : Slc).v] 44 fun ad22 w125 =>
                                        Bar (V1 0) w124 w125 ∧
                                        (stC ad21 (Value.bool b61) w125 fun w126 =>
                                          stC (ad21.add 1) s65.v w126 fun w127 =>
                                          stC ad22 (Value.bool b62) w127 fun w128 =>
                                          stC (ad22.add 1) s66.v w128 fun w129 =>
                                          ldB ad21 w129 fun b63 =>
                                          ldS (ad21.add 1) w129 fun s67 =>
                                          stC ad2 (Value.bool b63) w129 fun w130 =>
                                          stC (ad2.add 1) s67.v w130 fun w131 =>
                                          ldB ad2 w131 fun b64 =>
                                          ldS (ad2.add 1) w131 fun s68 =>
                                          R (.returned (Value.agg #[Value.bool b64, s68.v])) w131))) ∧
                                    (newC w123 #[Value.bool false, (⟨none, 0, 0⟩ : Slc).v] 44 fun ad23 w132 =>
                                      Bar (V1 0) w123 w132 ∧
                                      (Calls Tryd.prog 81 #[Value.agg #[Value.bool b8, s9.v], Value.agg #[Value.bool b60, s64.v]] w132 fun e26 w133 =>
                                        ∃ b65 : Bool, ∃ s69 : Slc, ∃ b66 : Bool, ∃ s70 : Slc, e26 = .returned (Value.tuple #[Value.agg #[Value.bool b65, s69.v], Value.agg #[Value.bool b66, s70.v]]) ∧
                                        (stC ad21 (Value.bool b65) w133 fun w134 =>
                                          stC (ad21.add 1) s69.v w134 fun w135 =>
                                          stC ad23 (Value.bool b66) w135 fun w136 =>
                                          stC (ad23.add 1) s70.v w136 fun w137 =>
                                          ldB ad21 w137 fun b67 =>
                                          ldS (ad21.add 1) w137 fun s71 =>
                                          stC ad2 (Value.bool b67) w137 fun w138 =>
                                          stC (ad2.add 1) s71.v w138 fun w139 =>
                                          ldB ad2 w139 fun b68 =>
                                          ldS (ad2.add 1) w139 fun s72 =>
                                          R (.returned (Value.agg #[Value.bool b68, s72.v])) w139)))))) ∧
                              (newC w122 #[Value.bool false, (⟨none, 0, 0⟩ : Slc).v] 44 fun ad24 w140 =>
                                Bar (V1 0) w122 w140 ∧
                                (Calls Tryd.prog 66 #[Value.bool false, s63.v] w140 fun e27 w141 =>
                                  ∃ b69 : Bool, ∃ s73 : Slc, e27 = .returned (Value.agg #[Value.bool b69, s73.v]) ∧
                                  (Bar (V1 0) w140 w141 ∧
                                    (Calls Tryd.prog 81 #[Value.agg #[Value.bool b8, s9.v], Value.agg #[Value.bool b69, s73.v]] w141 fun e28 w142 =>
                                      ∃ b70 : Bool, ∃ s74 : Slc, ∃ b71 : Bool, ∃ s75 : Slc, e28 = .returned (Value.tuple #[Value.agg #[Value.bool b70, s74.v], Value.agg #[Value.bool b71, s75.v]]) ∧
                                      (stC ad21 (Value.bool b70) w142 fun w143 =>
                                        stC (ad21.add 1) s74.v w143 fun w144 =>
                                        stC ad24 (Value.bool b71) w144 fun w145 =>
                                        stC (ad24.add 1) s75.v w145 fun w146 =>
                                        ldB ad21 w146 fun b72 =>
                                        ldS (ad21.add 1) w146 fun s76 =>
                                        stC ad2 (Value.bool b72) w146 fun w147 =>
                                        stC (ad2.add 1) s76.v w147 fun w148 =>
                                        ldB ad2 w148 fun b73 =>
                                        ldS (ad2.add 1) w148 fun s77 =>
                                        R (.returned (Value.agg #[Value.bool b73, s77.v])) w148)))))))) ∧
                        (newC w121 #[Value.bool false, (⟨none, 0, 0⟩ : Slc).v] 44 fun ad25 w149 =>
                          Bar (V1 0) w121 w149 ∧
                          (Calls Tryd.prog 54 #[s10.v, Value.int .i64 (IntKind.i64.wrap (0 - a1_n))] w149 fun e29 w150 =>
                            ∃ s78 : Slc, e29 = .returned s78.v ∧
                            (Bar (V1 0) w149 w150 ∧
                              (Calls Tryd.prog 66 #[Value.bool false, s78.v] w150 fun e30 w151 =>
                                ∃ b74 : Bool, ∃ s79 : Slc, e30 = .returned (Value.agg #[Value.bool b74, s79.v]) ∧
                                (Bar (V1 0) w150 w151 ∧
                                  (Calls Tryd.prog 81 #[Value.agg #[Value.bool b8, s9.v], Value.agg #[Value.bool b74, s79.v]] w151 fun e31 w152 =>
                                    ∃ b75 : Bool, ∃ s80 : Slc, ∃ b76 : Bool, ∃ s81 : Slc, e31 = .returned (Value.tuple #[Value.agg #[Value.bool b75, s80.v], Value.agg #[Value.bool b76, s81.v]]) ∧
                                    (stC ad21 (Value.bool b75) w152 fun w153 =>
                                      stC (ad21.add 1) s80.v w153 fun w154 =>
                                      stC ad25 (Value.bool b76) w154 fun w155 =>
                                      stC (ad25.add 1) s81.v w155 fun w156 =>
                                      ldB ad21 w156 fun b77 =>
                                      ldS (ad21.add 1) w156 fun s82 =>
                                      stC ad2 (Value.bool b77) w156 fun w157 =>
                                      stC (ad2.add 1) s82.v w157 fun w158 =>
                                      ldB ad2 w158 fun b78 =>
                                      ldS (ad2.add 1) w158 fun s83 =>
                                      R (.returned (Value.agg #[Value.bool b78, s83.v])) w158))))))))) ∧
                    (newC w13 #[Value.bool false, (⟨none, 0, 0⟩ : Slc).v] 44 fun ad26 w159 =>
                      Bar (V1 0) w13 w159 ∧
                      ((Calls Tryd.prog 54 #[s10.v, Value.int .i64 (IntKind.i64.wrap (0 - a1_n))] w159 fun e32 w160 =>
                          ∃ s84 : Slc, e32 = .returned s84.v ∧
                          (Bar (V1 0) w159 w160 ∧
                            ((Calls Tryd.prog 66 #[Value.bool false, s84.v] w160 fun e33 w161 =>
                                ∃ b79 : Bool, ∃ s85 : Slc, e33 = .returned (Value.agg #[Value.bool b79, s85.v]) ∧
                                (Bar (V1 0) w160 w161 ∧
                                  ((Calls Tryd.prog 81 #[Value.agg #[Value.bool b8, s9.v], Value.agg #[Value.bool b79, s85.v]] w161 fun e34 w162 =>
                                      ∃ b80 : Bool, ∃ s86 : Slc, ∃ b81 : Bool, ∃ s87 : Slc, e34 = .returned (Value.tuple #[Value.agg #[Value.bool b80, s86.v], Value.agg #[Value.bool b81, s87.v]]) ∧
                                      (newC w162 #[Value.bool false, (⟨none, 0, 0⟩ : Slc).v] 44 fun ad27 w163 =>
                                        Bar (V1 0) w162 w163 ∧
                                        (stC ad27 (Value.bool b80) w163 fun w164 =>
                                          stC (ad27.add 1) s86.v w164 fun w165 =>
                                          stC ad26 (Value.bool b81) w165 fun w166 =>
                                          stC (ad26.add 1) s87.v w166 fun w167 =>
                                          ldB ad27 w167 fun b82 =>
                                          ldS (ad27.add 1) w167 fun s88 =>
                                          stC ad2 (Value.bool b82) w167 fun w168 =>
                                          stC (ad2.add 1) s88.v w168 fun w169 =>
                                          ldB ad2 w169 fun b83 =>
                                          ldS (ad2.add 1) w169 fun s89 =>
                                          R (.returned (Value.agg #[Value.bool b83, s89.v])) w169))) ∧
                                    (newC w161 #[Value.bool false, (⟨none, 0, 0⟩ : Slc).v] 44 fun ad28 w170 =>
                                      Bar (V1 0) w161 w170 ∧
                                      (Calls Tryd.prog 81 #[Value.agg #[Value.bool b8, s9.v], Value.agg #[Value.bool b79, s85.v]] w170 fun e35 w171 =>
                                        ∃ b84 : Bool, ∃ s90 : Slc, ∃ b85 : Bool, ∃ s91 : Slc, e35 = .returned (Value.tuple #[Value.agg #[Value.bool b84, s90.v], Value.agg #[Value.bool b85, s91.v]]) ∧
                                        (stC ad28 (Value.bool b84) w171 fun w172 =>
                                          stC (ad28.add 1) s90.v w172 fun w173 =>
                                          stC ad26 (Value.bool b85) w173 fun w174 =>
                                          stC (ad26.add 1) s91.v w174 fun w175 =>
                                          ldB ad28 w175 fun b86 =>
                                          ldS (ad28.add 1) w175 fun s92 =>
                                          stC ad2 (Value.bool b86) w175 fun w176 =>
                                          stC (ad2.add 1) s92.v w176 fun w177 =>
                                          ldB ad2 w177 fun b87 =>
                                          ldS (ad2.add 1) w177 fun s93 =>
                                          R (.returned (Value.agg #[Value.bool b87, s93.v])) w177)))))) ∧
                              (newC w160 #[Value.bool false, (⟨none, 0, 0⟩ : Slc).v] 44 fun ad29 w178 =>
                                Bar (V1 0) w160 w178 ∧
                                (Calls Tryd.prog 66 #[Value.bool false, s84.v] w178 fun e36 w179 =>
                                  ∃ b88 : Bool, ∃ s94 : Slc, e36 = .returned (Value.agg #[Value.bool b88, s94.v]) ∧
                                  (Bar (V1 0) w178 w179 ∧
                                    (Calls Tryd.prog 81 #[Value.agg #[Value.bool b8, s9.v], Value.agg #[Value.bool b88, s94.v]] w179 fun e37 w180 =>
                                      ∃ b89 : Bool, ∃ s95 : Slc, ∃ b90 : Bool, ∃ s96 : Slc, e37 = .returned (Value.tuple #[Value.agg #[Value.bool b89, s95.v], Value.agg #[Value.bool b90, s96.v]]) ∧
                                      (stC ad29 (Value.bool b89) w180 fun w181 =>
                                        stC (ad29.add 1) s95.v w181 fun w182 =>
                                        stC ad26 (Value.bool b90) w182 fun w183 =>
                                        stC (ad26.add 1) s96.v w183 fun w184 =>
                                        ldB ad29 w184 fun b91 =>
                                        ldS (ad29.add 1) w184 fun s97 =>
                                        stC ad2 (Value.bool b91) w184 fun w185 =>
                                        stC (ad2.add 1) s97.v w185 fun w186 =>
                                        ldB ad2 w186 fun b92 =>
                                        ldS (ad2.add 1) w186 fun s98 =>
                                        R (.returned (Value.agg #[Value.bool b92, s98.v])) w186)))))))) ∧
                        (newC w159 #[Value.bool false, (⟨none, 0, 0⟩ : Slc).v] 44 fun ad30 w187 =>
                          Bar (V1 0) w159 w187 ∧
                          (Calls Tryd.prog 54 #[s10.v, Value.int .i64 (IntKind.i64.wrap (0 - a1_n))] w187 fun e38 w188 =>
                            ∃ s99 : Slc, e38 = .returned s99.v ∧
                            (Bar (V1 0) w187 w188 ∧
                              (Calls Tryd.prog 66 #[Value.bool false, s99.v] w188 fun e39 w189 =>
                                ∃ b93 : Bool, ∃ s100 : Slc, e39 = .returned (Value.agg #[Value.bool b93, s100.v]) ∧
                                (Bar (V1 0) w188 w189 ∧
                                  (Calls Tryd.prog 81 #[Value.agg #[Value.bool b8, s9.v], Value.agg #[Value.bool b93, s100.v]] w189 fun e40 w190 =>
                                    ∃ b94 : Bool, ∃ s101 : Slc, ∃ b95 : Bool, ∃ s102 : Slc, e40 = .returned (Value.tuple #[Value.agg #[Value.bool b94, s101.v], Value.agg #[Value.bool b95, s102.v]]) ∧
                                    (stC ad30 (Value.bool b94) w190 fun w191 =>
                                      stC (ad30.add 1) s101.v w191 fun w192 =>
                                      stC ad26 (Value.bool b95) w192 fun w193 =>
                                      stC (ad26.add 1) s102.v w193 fun w194 =>
                                      ldB ad30 w194 fun b96 =>
                                      ldS (ad30.add 1) w194 fun s103 =>
                                      stC ad2 (Value.bool b96) w194 fun w195 =>
                                      stC (ad2.add 1) s103.v w195 fun w196 =>
                                      ldB ad2 w196 fun b97 =>
                                      ldS (ad2.add 1) w196 fun s104 =>
                                      R (.returned (Value.agg #[Value.bool b97, s104.v])) w196))))))))))))) ∧
            ((newC w7.drew #[Value.bool false, (⟨none, 0, 0⟩ : Slc).v] 44 fun ad31 w197 =>
                Bar (V1 0) w7.drew w197 ∧
                ((Calls Tryd.prog 52 #[Value.int .i64 1] w197 fun e41 w198 =>
                    ∃ s105 : Slc, e41 = .returned s105.v ∧
                    (Bar (V1 0) w197 w198 ∧
                      ((Calls Tryd.prog 54 #[s105.v, Value.int .i64 (IntKind.i64.wrap (0 - a1_n))] w198 fun e42 w199 =>
                          ∃ s106 : Slc, e42 = .returned s106.v ∧
                          (Bar (V1 0) w198 w199 ∧
                            ((Calls Tryd.prog 66 #[Value.bool false, s106.v] w199 fun e43 w200 =>
                                ∃ b98 : Bool, ∃ s107 : Slc, e43 = .returned (Value.agg #[Value.bool b98, s107.v]) ∧
                                (Bar (V1 0) w199 w200 ∧
                                  ((Calls Tryd.prog 81 #[Value.agg #[Value.bool b8, s9.v], Value.agg #[Value.bool b98, s107.v]] w200 fun e44 w201 =>
                                      ∃ b99 : Bool, ∃ s108 : Slc, ∃ b100 : Bool, ∃ s109 : Slc, e44 = .returned (Value.tuple #[Value.agg #[Value.bool b99, s108.v], Value.agg #[Value.bool b100, s109.v]]) ∧
                                      (newC w201 #[Value.bool false, (⟨none, 0, 0⟩ : Slc).v] 44 fun ad32 w202 =>
                                        Bar (V1 0) w201 w202 ∧
                                        (stC ad31 (Value.bool b99) w202 fun w203 =>
                                          stC (ad31.add 1) s108.v w203 fun w204 =>
                                          stC ad32 (Value.bool b100) w204 fun w205 =>
                                          stC (ad32.add 1) s109.v w205 fun w206 =>
                                          ldB ad31 w206 fun b101 =>
                                          ldS (ad31.add 1) w206 fun s110 =>
                                          stC ad2 (Value.bool b101) w206 fun w207 =>
                                          stC (ad2.add 1) s110.v w207 fun w208 =>
                                          ldB ad2 w208 fun b102 =>
                                          ldS (ad2.add 1) w208 fun s111 =>
                                          R (.returned (Value.agg #[Value.bool b102, s111.v])) w208))) ∧
                                    (newC w200 #[Value.bool false, (⟨none, 0, 0⟩ : Slc).v] 44 fun ad33 w209 =>
                                      Bar (V1 0) w200 w209 ∧
                                      (Calls Tryd.prog 81 #[Value.agg #[Value.bool b8, s9.v], Value.agg #[Value.bool b98, s107.v]] w209 fun e45 w210 =>
                                        ∃ b103 : Bool, ∃ s112 : Slc, ∃ b104 : Bool, ∃ s113 : Slc, e45 = .returned (Value.tuple #[Value.agg #[Value.bool b103, s112.v], Value.agg #[Value.bool b104, s113.v]]) ∧
                                        (stC ad31 (Value.bool b103) w210 fun w211 =>
                                          stC (ad31.add 1) s112.v w211 fun w212 =>
                                          stC ad33 (Value.bool b104) w212 fun w213 =>
                                          stC (ad33.add 1) s113.v w213 fun w214 =>
                                          ldB ad31 w214 fun b105 =>
                                          ldS (ad31.add 1) w214 fun s114 =>
                                          stC ad2 (Value.bool b105) w214 fun w215 =>
                                          stC (ad2.add 1) s114.v w215 fun w216 =>
                                          ldB ad2 w216 fun b106 =>
                                          ldS (ad2.add 1) w216 fun s115 =>
                                          R (.returned (Value.agg #[Value.bool b106, s115.v])) w216)))))) ∧
                              (newC w199 #[Value.bool false, (⟨none, 0, 0⟩ : Slc).v] 44 fun ad34 w217 =>
                                Bar (V1 0) w199 w217 ∧
                                (Calls Tryd.prog 66 #[Value.bool false, s106.v] w217 fun e46 w218 =>
                                  ∃ b107 : Bool, ∃ s116 : Slc, e46 = .returned (Value.agg #[Value.bool b107, s116.v]) ∧
                                  (Bar (V1 0) w217 w218 ∧
                                    (Calls Tryd.prog 81 #[Value.agg #[Value.bool b8, s9.v], Value.agg #[Value.bool b107, s116.v]] w218 fun e47 w219 =>
                                      ∃ b108 : Bool, ∃ s117 : Slc, ∃ b109 : Bool, ∃ s118 : Slc, e47 = .returned (Value.tuple #[Value.agg #[Value.bool b108, s117.v], Value.agg #[Value.bool b109, s118.v]]) ∧
                                      (stC ad31 (Value.bool b108) w219 fun w220 =>
                                        stC (ad31.add 1) s117.v w220 fun w221 =>
                                        stC ad34 (Value.bool b109) w221 fun w222 =>
                                        stC (ad34.add 1) s118.v w222 fun w223 =>
                                        ldB ad31 w223 fun b110 =>
                                        ldS (ad31.add 1) w223 fun s119 =>
                                        stC ad2 (Value.bool b110) w223 fun w224 =>
                                        stC (ad2.add 1) s119.v w224 fun w225 =>
                                        ldB ad2 w225 fun b111 =>
                                        ldS (ad2.add 1) w225 fun s120 =>
                                        R (.returned (Value.agg #[Value.bool b111, s120.v])) w225)))))))) ∧
                        (newC w198 #[Value.bool false, (⟨none, 0, 0⟩ : Slc).v] 44 fun ad35 w226 =>
                          Bar (V1 0) w198 w226 ∧
                          (Calls Tryd.prog 54 #[s105.v, Value.int .i64 (IntKind.i64.wrap (0 - a1_n))] w226 fun e48 w227 =>
                            ∃ s121 : Slc, e48 = .returned s121.v ∧
                            (Bar (V1 0) w226 w227 ∧
                              (Calls Tryd.prog 66 #[Value.bool false, s121.v] w227 fun e49 w228 =>
                                ∃ b112 : Bool, ∃ s122 : Slc, e49 = .returned (Value.agg #[Value.bool b112, s122.v]) ∧
                                (Bar (V1 0) w227 w228 ∧
                                  (Calls Tryd.prog 81 #[Value.agg #[Value.bool b8, s9.v], Value.agg #[Value.bool b112, s122.v]] w228 fun e50 w229 =>
                                    ∃ b113 : Bool, ∃ s123 : Slc, ∃ b114 : Bool, ∃ s124 : Slc, e50 = .returned (Value.tuple #[Value.agg #[Value.bool b113, s123.v], Value.agg #[Value.bool b114, s124.v]]) ∧
                                    (stC ad31 (Value.bool b113) w229 fun w230 =>
                                      stC (ad31.add 1) s123.v w230 fun w231 =>
                                      stC ad35 (Value.bool b114) w231 fun w232 =>
                                      stC (ad35.add 1) s124.v w232 fun w233 =>
                                      ldB ad31 w233 fun b115 =>
                                      ldS (ad31.add 1) w233 fun s125 =>
                                      stC ad2 (Value.bool b115) w233 fun w234 =>
                                      stC (ad2.add 1) s125.v w234 fun w235 =>
                                      ldB ad2 w235 fun b116 =>
                                      ldS (ad2.add 1) w235 fun s126 =>
                                      R (.returned (Value.agg #[Value.bool b116, s126.v])) w235)))))))))) ∧
                  (newC w197 #[Value.bool false, (⟨none, 0, 0⟩ : Slc).v] 44 fun ad36 w236 =>
                    Bar (V1 0) w197 w236 ∧
                    (Calls Tryd.prog 52 #[Value.int .i64 1] w236 fun e51 w237 =>
                      ∃ s127 : Slc, e51 = .returned s127.v ∧
                      (Bar (V1 0) w236 w237 ∧
                        (Calls Tryd.prog 54 #[s127.v, Value.int .i64 (IntKind.i64.wrap (0 - a1_n))] w237 fun e52 w238 =>
                          ∃ s128 : Slc, e52 = .returned s128.v ∧
                          (Bar (V1 0) w237 w238 ∧
                            (Calls Tryd.prog 66 #[Value.bool false, s128.v] w238 fun e53 w239 =>
                              ∃ b117 : Bool, ∃ s129 : Slc, e53 = .returned (Value.agg #[Value.bool b117, s129.v]) ∧
                              (Bar (V1 0) w238 w239 ∧
                                (Calls Tryd.prog 81 #[Value.agg #[Value.bool b8, s9.v], Value.agg #[Value.bool b117, s129.v]] w239 fun e54 w240 =>
                                  ∃ b118 : Bool, ∃ s130 : Slc, ∃ b119 : Bool, ∃ s131 : Slc, e54 = .returned (Value.tuple #[Value.agg #[Value.bool b118, s130.v], Value.agg #[Value.bool b119, s131.v]]) ∧
                                  (stC ad31 (Value.bool b118) w240 fun w241 =>
                                    stC (ad31.add 1) s130.v w241 fun w242 =>
                                    stC ad36 (Value.bool b119) w242 fun w243 =>
                                    stC (ad36.add 1) s131.v w243 fun w244 =>
                                    ldB ad31 w244 fun b120 =>
                                    ldS (ad31.add 1) w244 fun s132 =>
                                    stC ad2 (Value.bool b120) w244 fun w245 =>
                                    stC (ad2.add 1) s132.v w245 fun w246 =>
                                    ldB ad2 w246 fun b121 =>
                                    ldS (ad2.add 1) w246 fun s133 =>
                                    R (.returned (Value.agg #[Value.bool b121, s133.v])) w246))))))))))) ∧
              (newC w7.drew #[Value.bool false, (⟨none, 0, 0⟩ : Slc).v] 44 fun ad37 w247 =>
                Bar (V1 0) w7.drew w247 ∧
                ((Calls Tryd.prog 52 #[Value.int .i64 1] w247 fun e55 w248 =>
                    ∃ s134 : Slc, e55 = .returned s134.v ∧
                    (Bar (V1 0) w247 w248 ∧
                      ((Calls Tryd.prog 54 #[s134.v, Value.int .i64 (IntKind.i64.wrap (0 - a1_n))] w248 fun e56 w249 =>
                          ∃ s135 : Slc, e56 = .returned s135.v ∧
                          (Bar (V1 0) w248 w249 ∧
                            ((Calls Tryd.prog 66 #[Value.bool false, s135.v] w249 fun e57 w250 =>
                                ∃ b122 : Bool, ∃ s136 : Slc, e57 = .returned (Value.agg #[Value.bool b122, s136.v]) ∧
                                (Bar (V1 0) w249 w250 ∧
                                  ((Calls Tryd.prog 81 #[Value.agg #[Value.bool b8, s9.v], Value.agg #[Value.bool b122, s136.v]] w250 fun e58 w251 =>
                                      ∃ b123 : Bool, ∃ s137 : Slc, ∃ b124 : Bool, ∃ s138 : Slc, e58 = .returned (Value.tuple #[Value.agg #[Value.bool b123, s137.v], Value.agg #[Value.bool b124, s138.v]]) ∧
                                      (newC w251 #[Value.bool false, (⟨none, 0, 0⟩ : Slc).v] 44 fun ad38 w252 =>
                                        Bar (V1 0) w251 w252 ∧
                                        (stC ad38 (Value.bool b123) w252 fun w253 =>
                                          stC (ad38.add 1) s137.v w253 fun w254 =>
                                          stC ad37 (Value.bool b124) w254 fun w255 =>
                                          stC (ad37.add 1) s138.v w255 fun w256 =>
                                          ldB ad38 w256 fun b125 =>
                                          ldS (ad38.add 1) w256 fun s139 =>
                                          stC ad2 (Value.bool b125) w256 fun w257 =>
                                          stC (ad2.add 1) s139.v w257 fun w258 =>
                                          ldB ad2 w258 fun b126 =>
                                          ldS (ad2.add 1) w258 fun s140 =>
                                          R (.returned (Value.agg #[Value.bool b126, s140.v])) w258))) ∧
                                    (newC w250 #[Value.bool false, (⟨none, 0, 0⟩ : Slc).v] 44 fun ad39 w259 =>
                                      Bar (V1 0) w250 w259 ∧
                                      (Calls Tryd.prog 81 #[Value.agg #[Value.bool b8, s9.v], Value.agg #[Value.bool b122, s136.v]] w259 fun e59 w260 =>
                                        ∃ b127 : Bool, ∃ s141 : Slc, ∃ b128 : Bool, ∃ s142 : Slc, e59 = .returned (Value.tuple #[Value.agg #[Value.bool b127, s141.v], Value.agg #[Value.bool b128, s142.v]]) ∧
                                        (stC ad39 (Value.bool b127) w260 fun w261 =>
                                          stC (ad39.add 1) s141.v w261 fun w262 =>
                                          stC ad37 (Value.bool b128) w262 fun w263 =>
                                          stC (ad37.add 1) s142.v w263 fun w264 =>
                                          ldB ad39 w264 fun b129 =>
                                          ldS (ad39.add 1) w264 fun s143 =>
                                          stC ad2 (Value.bool b129) w264 fun w265 =>
                                          stC (ad2.add 1) s143.v w265 fun w266 =>
                                          ldB ad2 w266 fun b130 =>
                                          ldS (ad2.add 1) w266 fun s144 =>
                                          R (.returned (Value.agg #[Value.bool b130, s144.v])) w266)))))) ∧
                              (newC w249 #[Value.bool false, (⟨none, 0, 0⟩ : Slc).v] 44 fun ad40 w267 =>
                                Bar (V1 0) w249 w267 ∧
                                (Calls Tryd.prog 66 #[Value.bool false, s135.v] w267 fun e60 w268 =>
                                  ∃ b131 : Bool, ∃ s145 : Slc, e60 = .returned (Value.agg #[Value.bool b131, s145.v]) ∧
                                  (Bar (V1 0) w267 w268 ∧
                                    (Calls Tryd.prog 81 #[Value.agg #[Value.bool b8, s9.v], Value.agg #[Value.bool b131, s145.v]] w268 fun e61 w269 =>
                                      ∃ b132 : Bool, ∃ s146 : Slc, ∃ b133 : Bool, ∃ s147 : Slc, e61 = .returned (Value.tuple #[Value.agg #[Value.bool b132, s146.v], Value.agg #[Value.bool b133, s147.v]]) ∧
                                      (stC ad40 (Value.bool b132) w269 fun w270 =>
                                        stC (ad40.add 1) s146.v w270 fun w271 =>
                                        stC ad37 (Value.bool b133) w271 fun w272 =>
                                        stC (ad37.add 1) s147.v w272 fun w273 =>
                                        ldB ad40 w273 fun b134 =>
                                        ldS (ad40.add 1) w273 fun s148 =>
                                        stC ad2 (Value.bool b134) w273 fun w274 =>
                                        stC (ad2.add 1) s148.v w274 fun w275 =>
                                        ldB ad2 w275 fun b135 =>
                                        ldS (ad2.add 1) w275 fun s149 =>
                                        R (.returned (Value.agg #[Value.bool b135, s149.v])) w275)))))))) ∧
                        (newC w248 #[Value.bool false, (⟨none, 0, 0⟩ : Slc).v] 44 fun ad41 w276 =>
                          Bar (V1 0) w248 w276 ∧
                          (Calls Tryd.prog 54 #[s134.v, Value.int .i64 (IntKind.i64.wrap (0 - a1_n))] w276 fun e62 w277 =>
                            ∃ s150 : Slc, e62 = .returned s150.v ∧
                            (Bar (V1 0) w276 w277 ∧
                              (Calls Tryd.prog 66 #[Value.bool false, s150.v] w277 fun e63 w278 =>
                                ∃ b136 : Bool, ∃ s151 : Slc, e63 = .returned (Value.agg #[Value.bool b136, s151.v]) ∧
                                (Bar (V1 0) w277 w278 ∧
                                  (Calls Tryd.prog 81 #[Value.agg #[Value.bool b8, s9.v], Value.agg #[Value.bool b136, s151.v]] w278 fun e64 w279 =>
                                    ∃ b137 : Bool, ∃ s152 : Slc, ∃ b138 : Bool, ∃ s153 : Slc, e64 = .returned (Value.tuple #[Value.agg #[Value.bool b137, s152.v], Value.agg #[Value.bool b138, s153.v]]) ∧
                                    (stC ad41 (Value.bool b137) w279 fun w280 =>
                                      stC (ad41.add 1) s152.v w280 fun w281 =>
                                      stC ad37 (Value.bool b138) w281 fun w282 =>
                                      stC (ad37.add 1) s153.v w282 fun w283 =>
                                      ldB ad41 w283 fun b139 =>
                                      ldS (ad41.add 1) w283 fun s154 =>
                                      stC ad2 (Value.bool b139) w283 fun w284 =>
                                      stC (ad2.add 1) s154.v w284 fun w285 =>
                                      ldB ad2 w285 fun b140 =>
                                      ldS (ad2.add 1) w285 fun s155 =>
                                      R (.returned (Value.agg #[Value.bool b140, s155.v])) w285)))))))))) ∧
                  (newC w247 #[Value.bool false, (⟨none, 0, 0⟩ : Slc).v] 44 fun ad42 w286 =>
                    Bar (V1 0) w247 w286 ∧
                    (Calls Tryd.prog 52 #[Value.int .i64 1] w286 fun e65 w287 =>
                      ∃ s156 : Slc, e65 = .returned s156.v ∧
                      (Bar (V1 0) w286 w287 ∧
                        (Calls Tryd.prog 54 #[s156.v, Value.int .i64 (IntKind.i64.wrap (0 - a1_n))] w287 fun e66 w288 =>
                          ∃ s157 : Slc, e66 = .returned s157.v ∧
                          (Bar (V1 0) w287 w288 ∧
                            (Calls Tryd.prog 66 #[Value.bool false, s157.v] w288 fun e67 w289 =>
                              ∃ b141 : Bool, ∃ s158 : Slc, e67 = .returned (Value.agg #[Value.bool b141, s158.v]) ∧
                              (Bar (V1 0) w288 w289 ∧
                                (Calls Tryd.prog 81 #[Value.agg #[Value.bool b8, s9.v], Value.agg #[Value.bool b141, s158.v]] w289 fun e68 w290 =>
                                  ∃ b142 : Bool, ∃ s159 : Slc, ∃ b143 : Bool, ∃ s160 : Slc, e68 = .returned (Value.tuple #[Value.agg #[Value.bool b142, s159.v], Value.agg #[Value.bool b143, s160.v]]) ∧
                                  (stC ad42 (Value.bool b142) w290 fun w291 =>
                                    stC (ad42.add 1) s159.v w291 fun w292 =>
                                    stC ad37 (Value.bool b143) w292 fun w293 =>
                                    stC (ad37.add 1) s160.v w293 fun w294 =>
                                    ldB ad42 w294 fun b144 =>
                                    ldS (ad42.add 1) w294 fun s161 =>
                                    stC ad2 (Value.bool b144) w294 fun w295 =>
                                    stC (ad2.add 1) s161.v w295 fun w296 =>
                                    ldB ad2 w296 fun b145 =>
                                    ldS (ad2.add 1) w296 fun s162 =>
                                    R (.returned (Value.agg #[Value.bool b145, s162.v])) w296))))))))))))))))) :
    Calls Tryd.prog 53 #[Value.agg #[Value.bool a0_a_0, a0_a_1.v], Value.int .i64 a1_n] w R := by
  refine calls_of_vc (marks [2000007] (fun _ => none)) (by kernel_rfl) Tryd.func53 rfl ?_ ?_
  · refine kcast h ?_; kernel_rfl
  · exact (obl_seq rfl (obl_reg (obl_seq rfl (obl_seq rfl (obl_reg (obl_cond (obl_seq rfl (obl_held (by kernel_rfl) (by kernel_rfl) (by kernel_rfl) (obl_ret (obl_skip (obl_seq rfl (obl_seq rfl (obl_reg (obl_cond (obl_seq rfl (obl_seq rfl (obl_reg (obl_cond (obl_seq rfl (obl_reg (obl_ret (obl_skip (obl_seq rfl (obl_reg (obl_ret (obl_skip (obl_seq rfl (obl_store _ rfl (by kernel_rfl) (obl_seq rfl (obl_reg (obl_ret trivial)))))))))))))))))))))))))))))))

set_option maxRecDepth 100000 in
/-- surd/surdref06.Ceil: function 82. -/
theorem surdref06_Ceil_vc (a0_a_0 : Bool) (a0_a_1 : Slc) (a1_b_0 : Bool) (a1_b_1 : Slc) (w : World) (R : Ending → World → Prop)
    
    (h : newC w #[Value.bool a0_a_0, a0_a_1.v] 44 fun ad1 w1 =>
    newC w1 #[Value.bool a1_b_0, a1_b_1.v] 44 fun ad2 w2 =>
    newC w2 #[Value.bool false, (⟨none, 0, 0⟩ : Slc).v] 44 fun ad3 w3 =>
    newC w3 #[Value.bool false, (⟨none, 0, 0⟩ : Slc).v] 44 fun ad4 w4 =>
    ldB ad1 w4 fun b1 =>
    ldS (ad1.add 1) w4 fun s1 =>
    ldB ad2 w4 fun b2 =>
    ldS (ad2.add 1) w4 fun s2 =>
    Calls Tryd.prog 81 #[Value.agg #[Value.bool b1, s1.v], Value.agg #[Value.bool b2, s2.v]] w4 fun e1 w5 =>
    ∃ b3 : Bool, ∃ s3 : Slc, ∃ b4 : Bool, ∃ s4 : Slc, e1 = .returned (Value.tuple #[Value.agg #[Value.bool b3, s3.v], Value.agg #[Value.bool b4, s4.v]]) ∧
    (newC w5 #[Value.bool false, (⟨none, 0, 0⟩ : Slc).v] 44 fun ad5 w6 =>
      newC w6 #[Value.bool false, (⟨none, 0, 0⟩ : Slc).v] 44 fun ad6 w7 =>
      stC ad5 (Value.bool b3) w7 fun w8 =>
      stC (ad5.add 1) s3.v w8 fun w9 =>
      stC ad6 (Value.bool b4) w9 fun w10 =>
      stC (ad6.add 1) s4.v w10 fun w11 =>
      ldB ad6 w11 fun b5 =>
      ldS (ad6.add 1) w11 fun s5 =>
      Calls Tryd.prog 28 #[Value.agg #[Value.bool b5, s5.v]] w11 fun e2 w12 =>
      ∃ x1 : Int, e2 = .returned (Value.int .i64 x1) ∧
      (br (x1 == 0)
        (∃ V1 : Nat → Nat → Prop, Out (V1 0) ad5 (ldB ad5 w12.drew fun b6 =>
            ldS (ad5.add 1) w12.drew fun s6 =>
            Out (V1 1) ad6 (ldB ad6 w12.drew fun b7 =>
              ldS (ad6.add 1) w12.drew fun s7 =>
              stC ad3 (Value.bool b6) w12.drew fun w13 =>
              stC (ad3.add 1) s6.v w13 fun w14 =>
              Bar (V1 1) w12.drew w14 ∧
              (stC ad4 (Value.bool b7) w14 fun w15 =>
                stC (ad4.add 1) s7.v w15 fun w16 =>
                ldB ad3 w16 fun b8 =>
                ldS (ad3.add 1) w16 fun s8 =>
                ldB ad4 w16 fun b9 =>
                ldS (ad4.add 1) w16 fun s9 =>
                R (.returned (Value.tuple #[Value.agg #[Value.bool b8, s8.v], Value.agg #[Value.bool b9, s9.v]])) w16))))
        (ldB ad5 w12.drew fun b10 =>
          ldS (ad5.add 1) w12.drew fun s10 =>
          Calls Tryd.prog 77 #[Value.int .i64 1] w12.drew fun e3 w17 =>
          ∃ b11 : Bool, ∃ s11 : Slc, e3 = .returned (Value.agg #[Value.bool b11, s11.v]) ∧
          (Ahead w12.drew w17 ∧
            (Calls Tryd.prog 91 #[Value.agg #[Value.bool b10, s10.v], Value.agg #[Value.bool b11, s11.v]] w17 fun e4 w18 =>
              ∃ b12 : Bool, ∃ s12 : Slc, e4 = .returned (Value.agg #[Value.bool b12, s12.v]) ∧
              (Ahead w17 w18 ∧
                (stC ad5 (Value.bool b12) w18 fun w19 =>
                  stC (ad5.add 1) s12.v w19 fun w20 =>
                  ∃ V2 : Nat → Nat → Prop, Out (V2 0) ad5 (ldB ad5 w20.drew fun b13 =>
                    ldS (ad5.add 1) w20.drew fun s13 =>
                    Out (V2 1) ad1 (ldB ad1 w20.drew fun b14 =>
                      ldS (ad1.add 1) w20.drew fun s14 =>
                      Out (V2 2) ad5 (ldB ad5 w20.drew fun b15 =>
                        ldS (ad5.add 1) w20.drew fun s15 =>
                        Out (V2 3) ad2 (ldB ad2 w20.drew fun b16 =>
                          ldS (ad2.add 1) w20.drew fun s16 =>
                          Calls Tryd.prog 105 #[Value.agg #[Value.bool b15, s15.v], Value.agg #[Value.bool b16, s16.v]] w20.drew fun e5 w21 =>
                          ∃ b17 : Bool, ∃ s17 : Slc, e5 = .returned (Value.agg #[Value.bool b17, s17.v]) ∧
                          (Bar (V2 0) w20.drew w21 ∧
                            (Bar (V2 1) w20.drew w21 ∧
                              (Calls Tryd.prog 104 #[Value.agg #[Value.bool b14, s14.v], Value.agg #[Value.bool b17, s17.v]] w21 fun e6 w22 =>
                                ∃ b18 : Bool, ∃ s18 : Slc, e6 = .returned (Value.agg #[Value.bool b18, s18.v]) ∧
                                (Bar (V2 0) w21 w22 ∧
                                  (stC ad3 (Value.bool b13) w22 fun w23 =>
                                    stC (ad3.add 1) s13.v w23 fun w24 =>
                                    stC ad4 (Value.bool b18) w24 fun w25 =>
                                    stC (ad4.add 1) s18.v w25 fun w26 =>
                                    ldB ad3 w26 fun b19 =>
                                    ldS (ad3.add 1) w26 fun s19 =>
                                    ldB ad4 w26 fun b20 =>
                                    ldS (ad4.add 1) w26 fun s20 =>
                                    R (.returned (Value.tuple #[Value.agg #[Value.bool b19, s19.v], Value.agg #[Value.bool b20, s20.v]])) w26))))))))))))))))) :
    Calls Tryd.prog 82 #[Value.agg #[Value.bool a0_a_0, a0_a_1.v], Value.agg #[Value.bool a1_b_0, a1_b_1.v]] w R := by
  refine calls_of_vc (marks [2000003, 2000005] (fun _ => none)) (by kernel_rfl) Tryd.func82 rfl ?_ ?_
  · refine kcast h ?_; kernel_rfl
  · exact (obl_seq rfl (obl_reg (obl_seq rfl (obl_reg (obl_seq rfl (obl_seq rfl (obl_reg (obl_cond (obl_seq rfl (obl_store _ rfl (by kernel_rfl) (obl_ret (obl_skip (obl_seq rfl (obl_held (by kernel_rfl) (by kernel_rfl) (by kernel_rfl) (obl_seq rfl (obl_store _ rfl (by kernel_rfl) (obl_ret trivial)))))))))))))))))

set_option maxRecDepth 100000 in
/-- surd/dyadic.two: function 86. -/
theorem dyadic_two_vc (a0_a_0 : Bool) (a0_a_1 : Slc) (a0_a_2 : Int) (a1_b_0 : Bool) (a1_b_1 : Slc) (a1_b_2 : Int) (w : World) (R : Ending → World → Prop)
    
    (h : newC w #[Value.bool a0_a_0, a0_a_1.v, Value.int .i64 a0_a_2] 33 fun ad1 w1 =>
    newC w1 #[Value.bool a1_b_0, a1_b_1.v, Value.int .i64 a1_b_2] 33 fun ad2 w2 =>
    newC w2 #[Value.bool false, (⟨none, 0, 0⟩ : Slc).v, Value.int .i64 0] 98 fun ad3 w3 =>
    newC w3 #[Value.bool false, (⟨none, 0, 0⟩ : Slc).v, Value.int .i64 0] 98 fun ad4 w4 =>
    ldB ad1 w4 fun b1 =>
    ldS (ad1.add 1) w4 fun s1 =>
    ldI .i64 (ad1.add 2) w4 fun x1 =>
    Calls Tryd.prog 62 #[Value.agg #[Value.bool b1, s1.v, Value.int .i64 x1]] w4 fun e1 w5 =>
    ∃ b2 : Bool, ∃ s2 : Slc, ∃ x2 : Int, ∃ x3 : Int, e1 = .returned (Value.tuple #[Value.agg #[Value.bool b2, s2.v, Value.int .i64 x2], Value.int .i64 x3]) ∧
    (newC w5 #[Value.bool false, (⟨none, 0, 0⟩ : Slc).v, Value.int .i64 0] 98 fun ad5 w6 =>
      stC ad5 (Value.bool b2) w6 fun w7 =>
      stC (ad5.add 1) s2.v w7 fun w8 =>
      stC (ad5.add 2) (Value.int .i64 x2) w8 fun w9 =>
      br (x3 != 0)
      (∃ V1 : Nat → Nat → Prop, Out (V1 0) ad5 (ldB ad5 w9.drew fun b3 =>
          ldS (ad5.add 1) w9.drew fun s3 =>
          ldI .i64 (ad5.add 2) w9.drew fun x4 =>
          Out (V1 1) ad5 (ldB ad5 w9.drew fun b4 =>
            ldS (ad5.add 1) w9.drew fun s4 =>
            ldI .i64 (ad5.add 2) w9.drew fun x5 =>
            stC ad3 (Value.bool b3) w9.drew fun w10 =>
            stC (ad3.add 1) s3.v w10 fun w11 =>
            stC (ad3.add 2) (Value.int .i64 x4) w11 fun w12 =>
            Bar (V1 1) w9.drew w12 ∧
            (stC ad4 (Value.bool b4) w12 fun w13 =>
              stC (ad4.add 1) s4.v w13 fun w14 =>
              stC (ad4.add 2) (Value.int .i64 x5) w14 fun w15 =>
              ldB ad3 w15 fun b5 =>
              ldS (ad3.add 1) w15 fun s5 =>
              ldI .i64 (ad3.add 2) w15 fun x6 =>
              ldB ad4 w15 fun b6 =>
              ldS (ad4.add 1) w15 fun s6 =>
              ldI .i64 (ad4.add 2) w15 fun x7 =>
              R (.returned (Value.tuple #[Value.agg #[Value.bool b5, s5.v, Value.int .i64 x6], Value.agg #[Value.bool b6, s6.v, Value.int .i64 x7], Value.int .i64 x3])) w15))))
      (ldB ad2 w9 fun b7 =>
        ldS (ad2.add 1) w9 fun s7 =>
        ldI .i64 (ad2.add 2) w9 fun x8 =>
        Calls Tryd.prog 62 #[Value.agg #[Value.bool b7, s7.v, Value.int .i64 x8]] w9 fun e2 w16 =>
        ∃ b8 : Bool, ∃ s8 : Slc, ∃ x9 : Int, ∃ x10 : Int, e2 = .returned (Value.tuple #[Value.agg #[Value.bool b8, s8.v, Value.int .i64 x9], Value.int .i64 x10]) ∧
        (newC w16 #[Value.bool false, (⟨none, 0, 0⟩ : Slc).v, Value.int .i64 0] 98 fun ad6 w17 =>
          stC ad6 (Value.bool b8) w17 fun w18 =>
          stC (ad6.add 1) s8.v w18 fun w19 =>
          stC (ad6.add 2) (Value.int .i64 x9) w19 fun w20 =>
          ∃ V2 : Nat → Nat → Prop, Out (V2 0) ad5 (ldB ad5 w20.drew fun b9 =>
            ldS (ad5.add 1) w20.drew fun s9 =>
            ldI .i64 (ad5.add 2) w20.drew fun x11 =>
            Out (V2 1) ad6 (ldB ad6 w20.drew fun b10 =>
              ldS (ad6.add 1) w20.drew fun s10 =>
              ldI .i64 (ad6.add 2) w20.drew fun x12 =>
              stC ad3 (Value.bool b9) w20.drew fun w21 =>
              stC (ad3.add 1) s9.v w21 fun w22 =>
              stC (ad3.add 2) (Value.int .i64 x11) w22 fun w23 =>
              Bar (V2 1) w20.drew w23 ∧
              (stC ad4 (Value.bool b10) w23 fun w24 =>
                stC (ad4.add 1) s10.v w24 fun w25 =>
                stC (ad4.add 2) (Value.int .i64 x12) w25 fun w26 =>
                ldB ad3 w26 fun b11 =>
                ldS (ad3.add 1) w26 fun s11 =>
                ldI .i64 (ad3.add 2) w26 fun x13 =>
                ldB ad4 w26 fun b12 =>
                ldS (ad4.add 1) w26 fun s12 =>
                ldI .i64 (ad4.add 2) w26 fun x14 =>
                R (.returned (Value.tuple #[Value.agg #[Value.bool b11, s11.v, Value.int .i64 x13], Value.agg #[Value.bool b12, s12.v, Value.int .i64 x14], Value.int .i64 x10])) w26))))))) :
    Calls Tryd.prog 86 #[Value.agg #[Value.bool a0_a_0, a0_a_1.v, Value.int .i64 a0_a_2], Value.agg #[Value.bool a1_b_0, a1_b_1.v, Value.int .i64 a1_b_2]] w R := by
  refine calls_of_vc (marks [2000003, 2000005] (fun _ => none)) (by kernel_rfl) Tryd.func86 rfl ?_ ?_
  · refine kcast h ?_; kernel_rfl
  · exact (obl_seq rfl (obl_reg (obl_seq rfl (obl_reg (obl_seq rfl (obl_seq rfl (obl_reg (obl_cond (obl_seq rfl (obl_store _ rfl (by kernel_rfl) (obl_ret (obl_skip (obl_seq rfl (obl_reg (obl_seq rfl (obl_store _ rfl (by kernel_rfl) (obl_ret trivial)))))))))))))))))

set_option maxRecDepth 100000 in
/-- surd/dyadic.pick: function 88. -/
theorem dyadic_pick_vc (a0_a_0 : Bool) (a0_a_1 : Slc) (a0_a_2 : Int) (a1_b_0 : Bool) (a1_b_1 : Slc) (a1_b_2 : Int) (a2_sign : Int) (w : World) (R : Ending → World → Prop)
    
    (h : newC w #[Value.bool a0_a_0, a0_a_1.v, Value.int .i64 a0_a_2] 33 fun ad1 w1 =>
    newC w1 #[Value.bool a1_b_0, a1_b_1.v, Value.int .i64 a1_b_2] 33 fun ad2 w2 =>
    newC w2 #[Value.bool false, (⟨none, 0, 0⟩ : Slc).v, Value.int .i64 0] 33 fun ad3 w3 =>
    ldB ad1 w3 fun b1 =>
    ldS (ad1.add 1) w3 fun s1 =>
    ldI .i64 (ad1.add 2) w3 fun x1 =>
    ldB ad2 w3 fun b2 =>
    ldS (ad2.add 1) w3 fun s2 =>
    ldI .i64 (ad2.add 2) w3 fun x2 =>
    Calls Tryd.prog 86 #[Value.agg #[Value.bool b1, s1.v, Value.int .i64 x1], Value.agg #[Value.bool b2, s2.v, Value.int .i64 x2]] w3 fun e1 w4 =>
    ∃ b3 : Bool, ∃ s3 : Slc, ∃ x3 : Int, ∃ b4 : Bool, ∃ s4 : Slc, ∃ x4 : Int, ∃ x5 : Int, e1 = .returned (Value.tuple #[Value.agg #[Value.bool b3, s3.v, Value.int .i64 x3], Value.agg #[Value.bool b4, s4.v, Value.int .i64 x4], Value.int .i64 x5]) ∧
    (newC w4 #[Value.bool false, (⟨none, 0, 0⟩ : Slc).v, Value.int .i64 0] 98 fun ad4 w5 =>
      newC w5 #[Value.bool false, (⟨none, 0, 0⟩ : Slc).v, Value.int .i64 0] 98 fun ad5 w6 =>
      stC ad4 (Value.bool b3) w6 fun w7 =>
      stC (ad4.add 1) s3.v w7 fun w8 =>
      stC (ad4.add 2) (Value.int .i64 x3) w8 fun w9 =>
      stC ad5 (Value.bool b4) w9 fun w10 =>
      stC (ad5.add 1) s4.v w10 fun w11 =>
      stC (ad5.add 2) (Value.int .i64 x4) w11 fun w12 =>
      br (x5 != 0)
      (stC ad3 (Value.bool false) w12 fun w13 =>
        stC (ad3.add 1) ((⟨none, 0, 0⟩ : Slc).v) w13 fun w14 =>
        stC (ad3.add 2) (Value.int .i64 0) w14 fun w15 =>
        ldB ad3 w15 fun b5 =>
        ldS (ad3.add 1) w15 fun s5 =>
        ldI .i64 (ad3.add 2) w15 fun x6 =>
        R (.returned (Value.tuple #[Value.agg #[Value.bool b5, s5.v, Value.int .i64 x6], Value.int .i64 x5])) w15)
      (ldB ad4 w12 fun b6 =>
        ldS (ad4.add 1) w12 fun s6 =>
        ldI .i64 (ad4.add 2) w12 fun x7 =>
        ldB ad5 w12 fun b7 =>
        ldS (ad5.add 1) w12 fun s7 =>
        ldI .i64 (ad5.add 2) w12 fun x8 =>
        Calls Tryd.prog 87 #[Value.agg #[Value.bool b6, s6.v, Value.int .i64 x7], Value.agg #[Value.bool b7, s7.v, Value.int .i64 x8]] w12 fun e2 w16 =>
        ∃ x9 : Int, e2 = .returned (Value.int .i64 x9) ∧
        (br (decide ((IntKind.i64.wrap (x9 * a2_sign)) < 0))
          (ldB ad5 w16 fun b8 =>
            ldS (ad5.add 1) w16 fun s8 =>
            ldI .i64 (ad5.add 2) w16 fun x10 =>
            stC ad4 (Value.bool b8) w16 fun w17 =>
            stC (ad4.add 1) s8.v w17 fun w18 =>
            stC (ad4.add 2) (Value.int .i64 x10) w18 fun w19 =>
            ldB ad4 w19 fun b9 =>
            ldS (ad4.add 1) w19 fun s9 =>
            ldI .i64 (ad4.add 2) w19 fun x11 =>
            Calls Tryd.prog 64 #[Value.agg #[Value.bool b9, s9.v], Value.int .i64 x11] w19 fun e3 w20 =>
            ∃ b10 : Bool, ∃ s10 : Slc, ∃ x12 : Int, ∃ x13 : Int, e3 = .returned (Value.tuple #[Value.agg #[Value.bool b10, s10.v, Value.int .i64 x12], Value.int .i64 x13]) ∧
            (stC ad3 (Value.bool b10) w20 fun w21 =>
              stC (ad3.add 1) s10.v w21 fun w22 =>
              stC (ad3.add 2) (Value.int .i64 x12) w22 fun w23 =>
              ldB ad3 w23 fun b11 =>
              ldS (ad3.add 1) w23 fun s11 =>
              ldI .i64 (ad3.add 2) w23 fun x14 =>
              R (.returned (Value.tuple #[Value.agg #[Value.bool b11, s11.v, Value.int .i64 x14], Value.int .i64 x13])) w23))
          (ldB ad4 w16 fun b12 =>
            ldS (ad4.add 1) w16 fun s12 =>
            ldI .i64 (ad4.add 2) w16 fun x15 =>
            Calls Tryd.prog 64 #[Value.agg #[Value.bool b12, s12.v], Value.int .i64 x15] w16 fun e4 w24 =>
            ∃ b13 : Bool, ∃ s13 : Slc, ∃ x16 : Int, ∃ x17 : Int, e4 = .returned (Value.tuple #[Value.agg #[Value.bool b13, s13.v, Value.int .i64 x16], Value.int .i64 x17]) ∧
            (stC ad3 (Value.bool b13) w24 fun w25 =>
              stC (ad3.add 1) s13.v w25 fun w26 =>
              stC (ad3.add 2) (Value.int .i64 x16) w26 fun w27 =>
              ldB ad3 w27 fun b14 =>
              ldS (ad3.add 1) w27 fun s14 =>
              ldI .i64 (ad3.add 2) w27 fun x18 =>
              R (.returned (Value.tuple #[Value.agg #[Value.bool b14, s14.v, Value.int .i64 x18], Value.int .i64 x17])) w27)))))) :
    Calls Tryd.prog 88 #[Value.agg #[Value.bool a0_a_0, a0_a_1.v, Value.int .i64 a0_a_2], Value.agg #[Value.bool a1_b_0, a1_b_1.v, Value.int .i64 a1_b_2], Value.int .i64 a2_sign] w R := by
  refine calls_of_vc (fun _ => none) (by kernel_rfl) Tryd.func88 rfl ?_ ?_
  · refine kcast h ?_; kernel_rfl
  · exact (obl_seq rfl (obl_reg (obl_seq rfl (obl_reg (obl_seq rfl (obl_seq rfl (obl_reg (obl_cond (obl_seq rfl (obl_reg (obl_ret (obl_skip (obl_seq rfl (obl_seq rfl (obl_reg (obl_cond (obl_reg (obl_skip (obl_seq rfl (obl_reg (obl_ret trivial)))))))))))))))))))))

def dyadic_sum_cut (K4 : Addr → Addr → Addr → World → Prop) (K8 : Addr → Addr → Addr → World → Prop) (K11 : Addr → Addr → Addr → Int → World → Prop) (K12 : Addr → Addr → Addr → Addr → Int → World → Prop) : Nat → Option ((Act → World → Prop) × (Act → World → Nat))
  | 3000004 => some (fun a_ w_ => atSz a_ 97 (atA a_ 2 fun t2 => atA a_ 3 fun t3 => atA a_ 4 fun t4 => K4 t2 t3 t4 w_), fun _ _ => 0)
  | 3000008 => some (fun a_ w_ => atSz a_ 97 (atA a_ 2 fun t2 => atA a_ 3 fun t3 => atA a_ 4 fun t4 => K8 t2 t3 t4 w_), fun _ _ => 0)
  | 3000011 => some (fun a_ w_ => atSz a_ 97 (atA a_ 2 fun t2 => atA a_ 3 fun t3 => atA a_ 4 fun t4 => atI .i64 a_ 6 fun t6 => K11 t2 t3 t4 t6 w_), fun _ _ => 0)
  | 3000012 => some (fun a_ w_ => atSz a_ 97 (atA a_ 2 fun t2 => atA a_ 3 fun t3 => atA a_ 4 fun t4 => atA a_ 7 fun t7 => atI .i64 a_ 8 fun t8 => K12 t2 t3 t4 t7 t8 w_), fun _ _ => 0)
  | _ => none

set_option maxRecDepth 100000 in
/-- surd/dyadic.sum: function 89. -/
theorem dyadic_sum_vc (a0_0 : Bool) (a0_1 : Slc) (a0_2 : Int) (a1_0 : Bool) (a1_1 : Slc) (a1_2 : Int) (w : World) (R : Ending → World → Prop)
    (K4 : Addr → Addr → Addr → World → Prop) (K8 : Addr → Addr → Addr → World → Prop) (K11 : Addr → Addr → Addr → Int → World → Prop) (K12 : Addr → Addr → Addr → Addr → Int → World → Prop)
    (h : newC w #[Value.bool a0_0, a0_1.v, Value.int .i64 a0_2] 98 fun ad1 w1 =>
    newC w1 #[Value.bool a1_0, a1_1.v, Value.int .i64 a1_2] 98 fun ad2 w2 =>
    newC w2 #[Value.bool false, (⟨none, 0, 0⟩ : Slc).v, Value.int .i64 0] 33 fun ad3 w3 =>
    ldB ad1 w3 fun b1 =>
    ldS (ad1.add 1) w3 fun s1 =>
    Calls Tryd.prog 71 #[Value.agg #[Value.bool b1, s1.v]] w3 fun e1 w4 =>
    ∃ x1 : Int, e1 = .returned (Value.int .i64 x1) ∧
    (br (x1 == 0)
      (ldB ad2 w4 fun b2 =>
        ldS (ad2.add 1) w4 fun s2 =>
        ldI .i64 (ad2.add 2) w4 fun x2 =>
        ldB ad1 w4 fun b3 =>
        ldS (ad1.add 1) w4 fun s3 =>
        ldI .i64 (ad1.add 2) w4 fun x3 =>
        stC ad1 (Value.bool b2) w4 fun w5 =>
        stC (ad1.add 1) s2.v w5 fun w6 =>
        stC (ad1.add 2) (Value.int .i64 x2) w6 fun w7 =>
        stC ad2 (Value.bool b3) w7 fun w8 =>
        stC (ad2.add 1) s3.v w8 fun w9 =>
        stC (ad2.add 2) (Value.int .i64 x3) w9 fun w10 =>
        K4 ad1 ad2 ad3 w10)
      (K4 ad1 ad2 ad3 w4)))
    (h3000004 : ∀ (t2 : Addr) (t3 : Addr) (t4 : Addr) (w_ : World), K4 t2 t3 t4 w_ → 
    ldB t3 w_ fun b4 =>
    ldS (t3.add 1) w_ fun s4 =>
    Calls Tryd.prog 71 #[Value.agg #[Value.bool b4, s4.v]] w_ fun e2 w11 =>
    ∃ x4 : Int, e2 = .returned (Value.int .i64 x4) ∧
    (br (x4 == 0)
      (ldB t2 w11 fun b5 =>
        ldS (t2.add 1) w11 fun s5 =>
        ldI .i64 (t2.add 2) w11 fun x5 =>
        Calls Tryd.prog 64 #[Value.agg #[Value.bool b5, s5.v], Value.int .i64 x5] w11 fun e3 w12 =>
        ∃ b6 : Bool, ∃ s6 : Slc, ∃ x6 : Int, ∃ x7 : Int, e3 = .returned (Value.tuple #[Value.agg #[Value.bool b6, s6.v, Value.int .i64 x6], Value.int .i64 x7]) ∧
        (stC t4 (Value.bool b6) w12 fun w13 =>
          stC (t4.add 1) s6.v w13 fun w14 =>
          stC (t4.add 2) (Value.int .i64 x6) w14 fun w15 =>
          ldB t4 w15 fun b7 =>
          ldS (t4.add 1) w15 fun s7 =>
          ldI .i64 (t4.add 2) w15 fun x8 =>
          R (.returned (Value.tuple #[Value.agg #[Value.bool b7, s7.v, Value.int .i64 x8], Value.int .i64 x7])) w15))
      (ldI .i64 (t2.add 2) w11 fun x9 =>
        ldI .i64 (t3.add 2) w11 fun x10 =>
        br (decide (x9 < x10))
        (ldB t3 w11 fun b8 =>
          ldS (t3.add 1) w11 fun s8 =>
          ldI .i64 (t3.add 2) w11 fun x11 =>
          ldB t2 w11 fun b9 =>
          ldS (t2.add 1) w11 fun s9 =>
          ldI .i64 (t2.add 2) w11 fun x12 =>
          stC t2 (Value.bool b8) w11 fun w16 =>
          stC (t2.add 1) s8.v w16 fun w17 =>
          stC (t2.add 2) (Value.int .i64 x11) w17 fun w18 =>
          stC t3 (Value.bool b9) w18 fun w19 =>
          stC (t3.add 1) s9.v w19 fun w20 =>
          stC (t3.add 2) (Value.int .i64 x12) w20 fun w21 =>
          K8 t2 t3 t4 w21)
        (K8 t2 t3 t4 w11))))
    (h3000008 : ∀ (t2 : Addr) (t3 : Addr) (t4 : Addr) (w_ : World), K8 t2 t3 t4 w_ → 
    ldI .i64 (t2.add 2) w_ fun x13 =>
    ldI .i64 (t3.add 2) w_ fun x14 =>
    br (decide ((IntKind.i64.wrap (x13 - x14)) > 0))
    (ldB t2 w_.drew fun b10 =>
      ldS (t2.add 1) w_.drew fun s10 =>
      ldI .i64 (t2.add 2) w_.drew fun x15 =>
      ldB t3 w_.drew fun b11 =>
      ldS (t3.add 1) w_.drew fun s11 =>
      ldI .i64 (t3.add 2) w_.drew fun x16 =>
      ldI .i64 (t3.add 2) w_.drew fun x17 =>
      Calls Tryd.prog 72 #[Value.agg #[Value.bool b10, s10.v, Value.int .i64 x15]] w_.drew fun e4 w22 =>
      ∃ x18 : Int, e4 = .returned (Value.int .i64 x18) ∧
      (Ahead w_.drew w22 ∧
        (Calls Tryd.prog 72 #[Value.agg #[Value.bool b11, s11.v, Value.int .i64 x16]] w22 fun e5 w23 =>
          ∃ x19 : Int, e5 = .returned (Value.int .i64 x19) ∧
          (Ahead w22 w23 ∧
            (br (decide ((IntKind.i64.wrap ((maxI x18 (IntKind.i64.wrap (x19 + 1))) - x17)) > 67108866))
              (stC t4 (Value.bool false) w23 fun w24 =>
                stC (t4.add 1) ((⟨none, 0, 0⟩ : Slc).v) w24 fun w25 =>
                stC (t4.add 2) (Value.int .i64 0) w25 fun w26 =>
                ldB t4 w26 fun b12 =>
                ldS (t4.add 1) w26 fun s12 =>
                ldI .i64 (t4.add 2) w26 fun x20 =>
                R (.returned (Value.tuple #[Value.agg #[Value.bool b12, s12.v, Value.int .i64 x20], Value.int .i64 3])) w26)
              (K11 t2 t3 t4 (IntKind.i64.wrap (x13 - x14)) w23))))))
    (K11 t2 t3 t4 (IntKind.i64.wrap (x13 - x14)) w_.drew))
    (h3000011 : ∀ (t2 : Addr) (t3 : Addr) (t4 : Addr) (t6 : Int) (w_ : World), K11 t2 t3 t4 t6 w_ → 
    ∃ V1 : Nat → Nat → Prop, Out (V1 3) t2 (ldB t2 w_.drew fun b13 =>
      Out (V1 7) (t2.add 1) (ldS (t2.add 1) w_.drew fun s13 =>
        (Calls Tryd.prog 107 #[s13.v, Value.int .i64 t6] w_.drew fun e6 w27 =>
          ∃ s14 : Slc, e6 = .returned s14.v ∧
          (Bar (V1 3) w_.drew w27 ∧
            ((Calls Tryd.prog 85 #[Value.bool b13, s14.v] w27 fun e7 w28 =>
                ∃ b14 : Bool, ∃ s15 : Slc, ∃ x21 : Int, e7 = .returned (Value.tuple #[Value.agg #[Value.bool b14, s15.v], Value.int .i64 x21]) ∧
                (newC w28 #[Value.bool false, (⟨none, 0, 0⟩ : Slc).v] 31 fun ad4 w29 =>
                  Bar (V1 3) w28 w29 ∧
                  (Bar (V1 7) w28 w29 ∧
                    (stC ad4 (Value.bool b14) w29 fun w30 =>
                      stC (ad4.add 1) s15.v w30 fun w31 =>
                      K12 t2 t3 t4 ad4 x21 w31)))) ∧
              (newC w27 #[Value.bool false, (⟨none, 0, 0⟩ : Slc).v] 31 fun ad6 w48 =>
                Bar (V1 3) w27 w48 ∧
                (Bar (V1 7) w27 w48 ∧
                  (Calls Tryd.prog 85 #[Value.bool b13, s14.v] w48 fun e12 w49 =>
                    ∃ b29 : Bool, ∃ s30 : Slc, ∃ x37 : Int, e12 = .returned (Value.tuple #[Value.agg #[Value.bool b29, s30.v], Value.int .i64 x37]) ∧
                    (stC ad6 (Value.bool b29) w49 fun w50 =>
                      stC (ad6.add 1) s30.v w50 fun w51 =>
                      K12 t2 t3 t4 ad6 x37 w51))))))) ∧
        (newC w_.drew #[Value.bool false, (⟨none, 0, 0⟩ : Slc).v] 31 fun ad7 w52 =>
          Bar (V1 3) w_.drew w52 ∧
          (Bar (V1 7) w_.drew w52 ∧
            (Calls Tryd.prog 107 #[s13.v, Value.int .i64 t6] w52 fun e13 w53 =>
              ∃ s31 : Slc, e13 = .returned s31.v ∧
              (Bar (V1 3) w52 w53 ∧
                (Calls Tryd.prog 85 #[Value.bool b13, s31.v] w53 fun e14 w54 =>
                  ∃ b30 : Bool, ∃ s32 : Slc, ∃ x38 : Int, e14 = .returned (Value.tuple #[Value.agg #[Value.bool b30, s32.v], Value.int .i64 x38]) ∧
                  (stC ad7 (Value.bool b30) w54 fun w55 =>
                    stC (ad7.add 1) s32.v w55 fun w56 =>
                    K12 t2 t3 t4 ad7 x38 w56)))))))))
    (h3000012 : ∀ (t2 : Addr) (t3 : Addr) (t4 : Addr) (t7 : Addr) (t8 : Int) (w_ : World), K12 t2 t3 t4 t7 t8 w_ → 
    br (t8 != 0)
    (ldB t2 w_ fun b15 =>
      ldS (t2.add 1) w_ fun s16 =>
      ldI .i64 (t2.add 2) w_ fun x22 =>
      ldB t3 w_ fun b16 =>
      ldS (t3.add 1) w_ fun s17 =>
      ldI .i64 (t3.add 2) w_ fun x23 =>
      Calls Tryd.prog 114 #[Value.agg #[Value.bool b15, s16.v, Value.int .i64 x22], Value.agg #[Value.bool b16, s17.v, Value.int .i64 x23]] w_ fun e8 w32 =>
      ∃ b17 : Bool, ∃ s18 : Slc, ∃ x24 : Int, ∃ x25 : Int, e8 = .returned (Value.tuple #[Value.agg #[Value.bool b17, s18.v, Value.int .i64 x24], Value.int .i64 x25]) ∧
      (stC t4 (Value.bool b17) w32 fun w33 =>
        stC (t4.add 1) s18.v w33 fun w34 =>
        stC (t4.add 2) (Value.int .i64 x24) w34 fun w35 =>
        ldB t4 w35 fun b18 =>
        ldS (t4.add 1) w35 fun s19 =>
        ldI .i64 (t4.add 2) w35 fun x26 =>
        R (.returned (Value.tuple #[Value.agg #[Value.bool b18, s19.v, Value.int .i64 x26], Value.int .i64 x25])) w35))
    (ldB t7 w_ fun b19 =>
      ldS (t7.add 1) w_ fun s20 =>
      ldB t3 w_ fun b20 =>
      ldS (t3.add 1) w_ fun s21 =>
      Calls Tryd.prog 115 #[Value.agg #[Value.bool b19, s20.v], Value.agg #[Value.bool b20, s21.v]] w_ fun e9 w36 =>
      ∃ b21 : Bool, ∃ s22 : Slc, ∃ x27 : Int, e9 = .returned (Value.tuple #[Value.agg #[Value.bool b21, s22.v], Value.int .i64 x27]) ∧
      (newC w36 #[Value.bool false, (⟨none, 0, 0⟩ : Slc).v] 31 fun ad5 w37 =>
        stC ad5 (Value.bool b21) w37 fun w38 =>
        stC (ad5.add 1) s22.v w38 fun w39 =>
        br (x27 != 0)
        (ldB t2 w39 fun b22 =>
          ldS (t2.add 1) w39 fun s23 =>
          ldI .i64 (t2.add 2) w39 fun x28 =>
          ldB t3 w39 fun b23 =>
          ldS (t3.add 1) w39 fun s24 =>
          ldI .i64 (t3.add 2) w39 fun x29 =>
          Calls Tryd.prog 114 #[Value.agg #[Value.bool b22, s23.v, Value.int .i64 x28], Value.agg #[Value.bool b23, s24.v, Value.int .i64 x29]] w39 fun e10 w40 =>
          ∃ b24 : Bool, ∃ s25 : Slc, ∃ x30 : Int, ∃ x31 : Int, e10 = .returned (Value.tuple #[Value.agg #[Value.bool b24, s25.v, Value.int .i64 x30], Value.int .i64 x31]) ∧
          (stC t4 (Value.bool b24) w40 fun w41 =>
            stC (t4.add 1) s25.v w41 fun w42 =>
            stC (t4.add 2) (Value.int .i64 x30) w42 fun w43 =>
            ldB t4 w43 fun b25 =>
            ldS (t4.add 1) w43 fun s26 =>
            ldI .i64 (t4.add 2) w43 fun x32 =>
            R (.returned (Value.tuple #[Value.agg #[Value.bool b25, s26.v, Value.int .i64 x32], Value.int .i64 x31])) w43))
        (ldB ad5 w39 fun b26 =>
          ldS (ad5.add 1) w39 fun s27 =>
          ldI .i64 (t3.add 2) w39 fun x33 =>
          Calls Tryd.prog 64 #[Value.agg #[Value.bool b26, s27.v], Value.int .i64 x33] w39 fun e11 w44 =>
          ∃ b27 : Bool, ∃ s28 : Slc, ∃ x34 : Int, ∃ x35 : Int, e11 = .returned (Value.tuple #[Value.agg #[Value.bool b27, s28.v, Value.int .i64 x34], Value.int .i64 x35]) ∧
          (stC t4 (Value.bool b27) w44 fun w45 =>
            stC (t4.add 1) s28.v w45 fun w46 =>
            stC (t4.add 2) (Value.int .i64 x34) w46 fun w47 =>
            ldB t4 w47 fun b28 =>
            ldS (t4.add 1) w47 fun s29 =>
            ldI .i64 (t4.add 2) w47 fun x36 =>
            R (.returned (Value.tuple #[Value.agg #[Value.bool b28, s29.v, Value.int .i64 x36], Value.int .i64 x35])) w47))))) :
    Calls Tryd.prog 89 #[Value.agg #[Value.bool a0_0, a0_1.v, Value.int .i64 a0_2], Value.agg #[Value.bool a1_0, a1_1.v, Value.int .i64 a1_2]] w R := by
  refine calls_of_vc (marks [2000010] (dyadic_sum_cut K4 K8 K11 K12)) (by kernel_rfl) Tryd.func89 rfl ?_ ?_
  · refine kcast h ?_; kernel_rfl
  · exact (obl_seq rfl (obl_reg (obl_join _ rfl (obl_seq rfl (obl_reg (obl_cond (obl_reg (obl_skip trivial))))) (fun a_ w_ hL_ => (by
    obtain ⟨hz_, hd_, hL_⟩ := atSz_out hL_
    obtain ⟨t2, h2_, hL_⟩ := atA_out hL_
    obtain ⟨t3, h3_, hL_⟩ := atA_out hL_
    obtain ⟨t4, h4_, hL_⟩ := atA_out hL_
    obtain ⟨g3000004, rfl⟩ : ∃ g, a_ = Fr 97 [(2, Value.pointer (some t2)), (3, Value.pointer (some t3)), (4, Value.pointer (some t4))] g := ⟨_, fr_of hz_ hd_ [(2, Value.pointer (some t2)), (3, Value.pointer (some t3)), (4, Value.pointer (some t4))] (sel_cons h2_ (sel_cons h3_ (sel_cons h4_ sel_nil)))⟩
    clear hz_ hd_ h2_ h3_ h4_
    have hJ3000004_ := hL_
    refine ⟨(marks [2000010] (dyadic_sum_cut K4 K8 K11 K12)), kcast (h3000004 t2 t3 t4 w_ hJ3000004_) ?_, ?_⟩
    · kernel_rfl
    · exact (obl_seq rfl (obl_seq rfl (obl_reg (obl_cond (obl_seq rfl (obl_reg (obl_ret (obl_skip (obl_join _ rfl (obl_seq rfl (obl_reg (obl_cond (obl_reg (obl_skip trivial))))) (fun a_ w_ hL_ => (by
      obtain ⟨hz_, hd_, hL_⟩ := atSz_out hL_
      obtain ⟨t2, h2_, hL_⟩ := atA_out hL_
      obtain ⟨t3, h3_, hL_⟩ := atA_out hL_
      obtain ⟨t4, h4_, hL_⟩ := atA_out hL_
      obtain ⟨g3000008, rfl⟩ : ∃ g, a_ = Fr 97 [(2, Value.pointer (some t2)), (3, Value.pointer (some t3)), (4, Value.pointer (some t4))] g := ⟨_, fr_of hz_ hd_ [(2, Value.pointer (some t2)), (3, Value.pointer (some t3)), (4, Value.pointer (some t4))] (sel_cons h2_ (sel_cons h3_ (sel_cons h4_ sel_nil)))⟩
      clear hz_ hd_ h2_ h3_ h4_
      have hJ3000008_ := hL_
      refine ⟨(marks [2000010] (dyadic_sum_cut K4 K8 K11 K12)), kcast (h3000008 t2 t3 t4 w_ hJ3000008_) ?_, ?_⟩
      · kernel_rfl
      · exact (obl_seq rfl (obl_reg (obl_join _ rfl (obl_seq rfl (obl_held (by kernel_rfl) (by kernel_rfl) (by kernel_rfl) (obl_cond (obl_seq rfl (obl_reg (obl_ret (obl_skip trivial))))))) (fun a_ w_ hL_ => (by
        obtain ⟨hz_, hd_, hL_⟩ := atSz_out hL_
        obtain ⟨t2, h2_, hL_⟩ := atA_out hL_
        obtain ⟨t3, h3_, hL_⟩ := atA_out hL_
        obtain ⟨t4, h4_, hL_⟩ := atA_out hL_
        obtain ⟨t6, h6_, hL_⟩ := atI_out hL_
        obtain ⟨g3000011, rfl⟩ : ∃ g, a_ = Fr 97 [(2, Value.pointer (some t2)), (3, Value.pointer (some t3)), (4, Value.pointer (some t4)), (6, Value.int .i64 t6)] g := ⟨_, fr_of hz_ hd_ [(2, Value.pointer (some t2)), (3, Value.pointer (some t3)), (4, Value.pointer (some t4)), (6, Value.int .i64 t6)] (sel_cons h2_ (sel_cons h3_ (sel_cons h4_ (sel_cons h6_ sel_nil))))⟩
        clear hz_ hd_ h2_ h3_ h4_ h6_
        have hJ3000011_ := hL_
        refine ⟨(marks [2000010] (dyadic_sum_cut K4 K8 K11 K12)), kcast (h3000011 t2 t3 t4 t6 w_ hJ3000011_) ?_, ?_⟩
        · kernel_rfl
        · exact (obl_join _ rfl (obl_store _ rfl (by kernel_rfl) trivial) (fun a_ w_ hL_ => (by
          obtain ⟨hz_, hd_, hL_⟩ := atSz_out hL_
          obtain ⟨t2, h2_, hL_⟩ := atA_out hL_
          obtain ⟨t3, h3_, hL_⟩ := atA_out hL_
          obtain ⟨t4, h4_, hL_⟩ := atA_out hL_
          obtain ⟨t7, h7_, hL_⟩ := atA_out hL_
          obtain ⟨t8, h8_, hL_⟩ := atI_out hL_
          obtain ⟨g3000012, rfl⟩ : ∃ g, a_ = Fr 97 [(2, Value.pointer (some t2)), (3, Value.pointer (some t3)), (4, Value.pointer (some t4)), (7, Value.pointer (some t7)), (8, Value.int .i64 t8)] g := ⟨_, fr_of hz_ hd_ [(2, Value.pointer (some t2)), (3, Value.pointer (some t3)), (4, Value.pointer (some t4)), (7, Value.pointer (some t7)), (8, Value.int .i64 t8)] (sel_cons h2_ (sel_cons h3_ (sel_cons h4_ (sel_cons h7_ (sel_cons h8_ sel_nil)))))⟩
          clear hz_ hd_ h2_ h3_ h4_ h7_ h8_
          have hJ3000012_ := hL_
          refine ⟨(marks [2000010] (dyadic_sum_cut K4 K8 K11 K12)), kcast (h3000012 t2 t3 t4 t7 t8 w_ hJ3000012_) ?_, ?_⟩
          · kernel_rfl
          · exact (obl_seq rfl (obl_seq rfl (obl_reg (obl_cond (obl_seq rfl (obl_reg (obl_ret (obl_skip (obl_seq rfl (obl_reg (obl_seq rfl (obl_seq rfl (obl_reg (obl_cond (obl_seq rfl (obl_reg (obl_ret (obl_skip (obl_seq rfl (obl_reg (obl_ret trivial)))))))))))))))))))))))))))))))))))))))))))))

set_option maxRecDepth 100000 in
/-- surd/whole.Shift: function 92. -/
theorem whole_Shift_vc (a0_0 : Bool) (a0_1 : Slc) (a1 : Int) (w : World) (R : Ending → World → Prop)
    
    (h : newC w #[Value.bool a0_0, a0_1.v] 31 fun ad1 w1 =>
    newC w1 #[Value.bool false, (⟨none, 0, 0⟩ : Slc).v] 31 fun ad2 w2 =>
    ldB ad1 w2 fun b1 =>
    ldS (ad1.add 1) w2 fun s1 =>
    Calls Tryd.prog 118 #[Value.agg #[Value.bool b1, s1.v]] w2 fun e1 w3 =>
    ∃ b2 : Bool, ∃ s2 : Slc, e1 = .returned (Value.agg #[Value.bool b2, s2.v]) ∧
    (stC ad1 (Value.bool b2) w3 fun w4 =>
      stC (ad1.add 1) s2.v w4 fun w5 =>
      ldS (ad1.add 1) w5 fun s3 =>
      br ((s3.n : Int) == 0)
      (stC ad2 (Value.bool false) w5 fun w6 =>
        stC (ad2.add 1) ((⟨none, 0, 0⟩ : Slc).v) w6 fun w7 =>
        ldB ad2 w7 fun b3 =>
        ldS (ad2.add 1) w7 fun s4 =>
        R (.returned (Value.tuple #[Value.agg #[Value.bool b3, s4.v], Value.int .i64 0])) w7)
      (br (decide (a1 ≥ 0))
        (br (decide (a1 > 67108864))
          (stC ad2 (Value.bool false) w5 fun w8 =>
            stC (ad2.add 1) ((⟨none, 0, 0⟩ : Slc).v) w8 fun w9 =>
            ldB ad2 w9 fun b4 =>
            ldS (ad2.add 1) w9 fun s5 =>
            R (.returned (Value.tuple #[Value.agg #[Value.bool b4, s5.v], Value.int .i64 3])) w9)
          (ldS (ad1.add 1) w5 fun s6 =>
            Calls Tryd.prog 119 #[s6.v, Value.int .i64 a1] w5 fun e2 w10 =>
            ∃ s7 : Slc, ∃ x1 : Int, e2 = .returned (Value.tuple #[s7.v, Value.int .i64 x1]) ∧
            (ldB ad1 w10 fun b5 =>
              Calls Tryd.prog 120 #[Value.bool b5, s7.v, Value.int .i64 x1] w10 fun e3 w11 =>
              ∃ b6 : Bool, ∃ s8 : Slc, ∃ x2 : Int, e3 = .returned (Value.tuple #[Value.agg #[Value.bool b6, s8.v], Value.int .i64 x2]) ∧
              (stC ad2 (Value.bool b6) w11 fun w12 =>
                stC (ad2.add 1) s8.v w12 fun w13 =>
                ldB ad2 w13 fun b7 =>
                ldS (ad2.add 1) w13 fun s9 =>
                R (.returned (Value.tuple #[Value.agg #[Value.bool b7, s9.v], Value.int .i64 x2])) w13))))
        (ldB ad1 w5 fun b8 =>
          br b8
          (ldS (ad1.add 1) w5 fun s10 =>
            Calls Tryd.prog 110 #[s10.v] w5 fun e4 w14 =>
            ∃ x3 : Int, e4 = .returned (Value.int .i64 x3) ∧
            (ldS (ad1.add 1) w14 fun s11 =>
              Calls Tryd.prog 121 #[s11.v, Value.int .i64 (IntKind.i64.wrap (0 - (maxI a1 (-1099511627776))))] w14 fun e5 w15 =>
              ∃ s12 : Slc, ∃ x4 : Int, e5 = .returned (Value.tuple #[s12.v, Value.int .i64 x4]) ∧
              (br (x4 == 0)
                (br (decide (x3 < (IntKind.i64.wrap (0 - (maxI a1 (-1099511627776))))))
                  (Calls Tryd.prog 101 #[Value.int .u64 1] w15 fun e6 w16 =>
                    ∃ s13 : Slc, e6 = .returned s13.v ∧
                    (Calls Tryd.prog 122 #[s12.v, s13.v] w16 fun e7 w17 =>
                      ∃ s14 : Slc, ∃ x5 : Int, e7 = .returned (Value.tuple #[s14.v, Value.int .i64 x5]) ∧
                      (ldB ad1 w17 fun b9 =>
                        Calls Tryd.prog 120 #[Value.bool b9, s14.v, Value.int .i64 x5] w17 fun e8 w18 =>
                        ∃ b10 : Bool, ∃ s15 : Slc, ∃ x6 : Int, e8 = .returned (Value.tuple #[Value.agg #[Value.bool b10, s15.v], Value.int .i64 x6]) ∧
                        (stC ad2 (Value.bool b10) w18 fun w19 =>
                          stC (ad2.add 1) s15.v w19 fun w20 =>
                          ldB ad2 w20 fun b11 =>
                          ldS (ad2.add 1) w20 fun s16 =>
                          R (.returned (Value.tuple #[Value.agg #[Value.bool b11, s16.v], Value.int .i64 x6])) w20))))
                  (ldB ad1 w15 fun b12 =>
                    Calls Tryd.prog 120 #[Value.bool b12, s12.v, Value.int .i64 x4] w15 fun e9 w21 =>
                    ∃ b13 : Bool, ∃ s17 : Slc, ∃ x7 : Int, e9 = .returned (Value.tuple #[Value.agg #[Value.bool b13, s17.v], Value.int .i64 x7]) ∧
                    (stC ad2 (Value.bool b13) w21 fun w22 =>
                      stC (ad2.add 1) s17.v w22 fun w23 =>
                      ldB ad2 w23 fun b14 =>
                      ldS (ad2.add 1) w23 fun s18 =>
                      R (.returned (Value.tuple #[Value.agg #[Value.bool b14, s18.v], Value.int .i64 x7])) w23)))
                (ldB ad1 w15 fun b15 =>
                  Calls Tryd.prog 120 #[Value.bool b15, s12.v, Value.int .i64 x4] w15 fun e10 w24 =>
                  ∃ b16 : Bool, ∃ s19 : Slc, ∃ x8 : Int, e10 = .returned (Value.tuple #[Value.agg #[Value.bool b16, s19.v], Value.int .i64 x8]) ∧
                  (stC ad2 (Value.bool b16) w24 fun w25 =>
                    stC (ad2.add 1) s19.v w25 fun w26 =>
                    ldB ad2 w26 fun b17 =>
                    ldS (ad2.add 1) w26 fun s20 =>
                    R (.returned (Value.tuple #[Value.agg #[Value.bool b17, s20.v], Value.int .i64 x8])) w26)))))
          (ldS (ad1.add 1) w5 fun s21 =>
            Calls Tryd.prog 121 #[s21.v, Value.int .i64 (IntKind.i64.wrap (0 - (maxI a1 (-1099511627776))))] w5 fun e11 w27 =>
            ∃ s22 : Slc, ∃ x9 : Int, e11 = .returned (Value.tuple #[s22.v, Value.int .i64 x9]) ∧
            (br (x9 == 0)
              (ldB ad1 w27 fun b18 =>
                Calls Tryd.prog 120 #[Value.bool b18, s22.v, Value.int .i64 x9] w27 fun e12 w28 =>
                ∃ b19 : Bool, ∃ s23 : Slc, ∃ x10 : Int, e12 = .returned (Value.tuple #[Value.agg #[Value.bool b19, s23.v], Value.int .i64 x10]) ∧
                (stC ad2 (Value.bool b19) w28 fun w29 =>
                  stC (ad2.add 1) s23.v w29 fun w30 =>
                  ldB ad2 w30 fun b20 =>
                  ldS (ad2.add 1) w30 fun s24 =>
                  R (.returned (Value.tuple #[Value.agg #[Value.bool b20, s24.v], Value.int .i64 x10])) w30))
              (ldB ad1 w27 fun b21 =>
                Calls Tryd.prog 120 #[Value.bool b21, s22.v, Value.int .i64 x9] w27 fun e13 w31 =>
                ∃ b22 : Bool, ∃ s25 : Slc, ∃ x11 : Int, e13 = .returned (Value.tuple #[Value.agg #[Value.bool b22, s25.v], Value.int .i64 x11]) ∧
                (stC ad2 (Value.bool b22) w31 fun w32 =>
                  stC (ad2.add 1) s25.v w32 fun w33 =>
                  ldB ad2 w33 fun b23 =>
                  ldS (ad2.add 1) w33 fun s26 =>
                  R (.returned (Value.tuple #[Value.agg #[Value.bool b23, s26.v], Value.int .i64 x11])) w33)))))))) :
    Calls Tryd.prog 92 #[Value.agg #[Value.bool a0_0, a0_1.v], Value.int .i64 a1] w R := by
  refine calls_of_vc (fun _ => none) (by kernel_rfl) Tryd.func92 rfl ?_ ?_
  · refine kcast h ?_; kernel_rfl
  · exact (obl_seq rfl (obl_reg (obl_seq rfl (obl_reg (obl_seq rfl (obl_seq rfl (obl_reg (obl_cond (obl_seq rfl (obl_reg (obl_ret (obl_skip (obl_seq rfl (obl_seq rfl (obl_reg (obl_cond (obl_seq rfl (obl_seq rfl (obl_reg (obl_cond (obl_seq rfl (obl_reg (obl_ret (obl_skip (obl_seq rfl (obl_reg (obl_seq rfl (obl_reg (obl_ret (obl_skip (obl_seq rfl (obl_reg (obl_seq rfl (obl_reg (obl_seq rfl (obl_reg (obl_seq rfl (obl_seq rfl (obl_reg (obl_cond (obl_reg (obl_skip (obl_seq rfl (obl_reg (obl_ret trivial)))))))))))))))))))))))))))))))))))))))))))))

set_option maxRecDepth 100000 in
/-- surd/whole.fits: function 112. -/
theorem whole_fits_vc (a0_a_0 : Bool) (a0_a_1 : Slc) (w : World) (R : Ending → World → Prop)
    
    (h : newC w #[Value.bool a0_a_0, a0_a_1.v] 31 fun ad1 w1 =>
    newC w1 #[Value.bool false, (⟨none, 0, 0⟩ : Slc).v] 31 fun ad2 w2 =>
    ldS (ad1.add 1) w2 fun s1 =>
    Calls Tryd.prog 102 #[s1.v] w2 fun e1 w3 =>
    ∃ x1 : Int, e1 = .returned (Value.int .i64 x1) ∧
    (br (decide (x1 > 67108864))
      (stC ad2 (Value.bool false) w3 fun w4 =>
        stC (ad2.add 1) ((⟨none, 0, 0⟩ : Slc).v) w4 fun w5 =>
        ldB ad2 w5 fun b1 =>
        ldS (ad2.add 1) w5 fun s2 =>
        R (.returned (Value.tuple #[Value.agg #[Value.bool b1, s2.v], Value.int .i64 3])) w5)
      (ldB ad1 w3 fun b2 =>
        ldS (ad1.add 1) w3 fun s3 =>
        Calls Tryd.prog 118 #[Value.agg #[Value.bool b2, s3.v]] w3 fun e2 w6 =>
        ∃ b3 : Bool, ∃ s4 : Slc, e2 = .returned (Value.agg #[Value.bool b3, s4.v]) ∧
        (stC ad2 (Value.bool b3) w6 fun w7 =>
          stC (ad2.add 1) s4.v w7 fun w8 =>
          ldB ad2 w8 fun b4 =>
          ldS (ad2.add 1) w8 fun s5 =>
          R (.returned (Value.tuple #[Value.agg #[Value.bool b4, s5.v], Value.int .i64 0])) w8)))) :
    Calls Tryd.prog 112 #[Value.agg #[Value.bool a0_a_0, a0_a_1.v]] w R := by
  refine calls_of_vc (fun _ => none) (by kernel_rfl) Tryd.func112 rfl ?_ ?_
  · refine kcast h ?_; kernel_rfl
  · exact (obl_seq rfl (obl_reg (obl_seq rfl (obl_seq rfl (obl_reg (obl_cond (obl_seq rfl (obl_reg (obl_ret (obl_skip (obl_seq rfl (obl_reg (obl_ret trivial)))))))))))))

set_option maxRecDepth 100000 in
/-- surd/whole.norm: function 118. -/
theorem whole_norm_vc (a0_a_0 : Bool) (a0_a_1 : Slc) (w : World) (R : Ending → World → Prop)
    
    (h : newC w #[Value.bool a0_a_0, a0_a_1.v] 31 fun ad1 w1 =>
    newC w1 #[Value.bool false, (⟨none, 0, 0⟩ : Slc).v] 31 fun ad2 w2 =>
    ldS (ad1.add 1) w2 fun s1 =>
    Calls Tryd.prog 126 #[s1.v] w2 fun e1 w3 =>
    ∃ s2 : Slc, e1 = .returned s2.v ∧
    (ldB ad1 w3 fun b1 =>
      br b1
      (stC ad2 (Value.bool (decide ((s2.n : Int) > 0))) w3 fun w4 =>
        stC (ad2.add 1) s2.v w4 fun w5 =>
        ldB ad2 w5 fun b2 =>
        ldS (ad2.add 1) w5 fun s3 =>
        R (.returned (Value.agg #[Value.bool b2, s3.v])) w5)
      (stC ad2 (Value.bool false) w3 fun w6 =>
        stC (ad2.add 1) s2.v w6 fun w7 =>
        ldB ad2 w7 fun b3 =>
        ldS (ad2.add 1) w7 fun s4 =>
        R (.returned (Value.agg #[Value.bool b3, s4.v])) w7))) :
    Calls Tryd.prog 118 #[Value.agg #[Value.bool a0_a_0, a0_a_1.v]] w R := by
  refine calls_of_vc (fun _ => none) (by kernel_rfl) Tryd.func118 rfl ?_ ?_
  · refine kcast h ?_; kernel_rfl
  · exact (obl_seq rfl (obl_reg (obl_seq rfl (obl_reg (obl_seq rfl (obl_reg (obl_ret trivial)))))))

set_option maxRecDepth 100000 in
/-- surd/whole.result: function 120. -/
theorem whole_result_vc (a0_neg : Bool) (a1_n : Slc) (a2_e : Int) (w : World) (R : Ending → World → Prop)
    
    (h : newC w #[Value.bool false, (⟨none, 0, 0⟩ : Slc).v] 31 fun ad1 w1 =>
    br (a2_e != 0)
    (stC ad1 (Value.bool false) w1 fun w2 =>
      stC (ad1.add 1) ((⟨none, 0, 0⟩ : Slc).v) w2 fun w3 =>
      ldB ad1 w3 fun b1 =>
      ldS (ad1.add 1) w3 fun s1 =>
      R (.returned (Value.tuple #[Value.agg #[Value.bool b1, s1.v], Value.int .i64 a2_e])) w3)
    (Calls Tryd.prog 112 #[Value.agg #[Value.bool a0_neg, a1_n.v]] w1 fun e1 w4 =>
      ∃ b2 : Bool, ∃ s2 : Slc, ∃ x1 : Int, e1 = .returned (Value.tuple #[Value.agg #[Value.bool b2, s2.v], Value.int .i64 x1]) ∧
      (stC ad1 (Value.bool b2) w4 fun w5 =>
        stC (ad1.add 1) s2.v w5 fun w6 =>
        ldB ad1 w6 fun b3 =>
        ldS (ad1.add 1) w6 fun s3 =>
        R (.returned (Value.tuple #[Value.agg #[Value.bool b3, s3.v], Value.int .i64 x1])) w6))) :
    Calls Tryd.prog 120 #[Value.bool a0_neg, a1_n.v, Value.int .i64 a2_e] w R := by
  refine calls_of_vc (fun _ => none) (by kernel_rfl) Tryd.func120 rfl ?_ ?_
  · refine kcast h ?_; kernel_rfl
  · exact (obl_seq rfl (obl_reg (obl_seq rfl (obl_seq rfl (obl_reg (obl_cond (obl_seq rfl (obl_reg (obl_ret (obl_skip (obl_seq rfl (obl_reg (obl_ret trivial)))))))))))))

end Go.Proofs.YthhbjhdnaopcnaaDoor
