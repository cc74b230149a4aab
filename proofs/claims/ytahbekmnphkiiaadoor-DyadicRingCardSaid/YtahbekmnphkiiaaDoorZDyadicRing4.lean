/- What the law leans on, part 4. No condition. -/
import Derived.Test.YtahbekmnphkiiaaDoorZDyadicRing3
namespace Go.Proofs.YtahbekmnphkiiaaDoor
open Go Go.RowKit Eng
set_option linter.unusedVariables false

def surdlaw08_DyadicRing_cut (K3 : Addr → Addr → Addr → World → Prop) : Nat → Option ((Act → World → Prop) × (Act → World → Nat))
  | 3000003 => some (fun a_ w_ => atSz a_ 197 (atA a_ 7 fun t7 => atA a_ 8 fun t8 => atA a_ 9 fun t9 => K3 t7 t8 t9 w_), fun _ _ => 0)
  | _ => none

set_option maxRecDepth 100000 in
/-- surd/surdlaw08.DyadicRing: function 4. -/
theorem surdlaw08_DyadicRing_vc (a0_0 : Bool) (a0_1 : Slc) (a0_2 : Int) (a1_0 : Bool) (a1_1 : Slc) (a1_2 : Int) (a2_0 : Bool) (a2_1 : Slc) (a2_2 : Int) (w : World) (R : Ending → World → Prop)
    (K3 : Addr → Addr → Addr → World → Prop)
    (h : newC w #[Value.bool a0_0, a0_1.v, Value.int .i64 a0_2] 24 fun ad1 w1 =>
    newC w1 #[Value.bool a1_0, a1_1.v, Value.int .i64 a1_2] 24 fun ad2 w2 =>
    newC w2 #[Value.bool a2_0, a2_1.v, Value.int .i64 a2_2] 24 fun ad3 w3 =>
    ∃ V1 : Nat → Nat → Prop, Out (V1 0) ad1 (ldB ad1 w3.drew fun b1 =>
     ldS (ad1.add 1) w3.drew fun s1 =>
     ldI .i64 (ad1.add 2) w3.drew fun x1 =>
     Out (V1 2) ad2 (ldB ad2 w3.drew fun b2 =>
      ldS (ad2.add 1) w3.drew fun s2 =>
      ldI .i64 (ad2.add 2) w3.drew fun x2 =>
      Out (V1 4) ad3 (ldB ad3 w3.drew fun b3 =>
       ldS (ad3.add 1) w3.drew fun s3 =>
       ldI .i64 (ad3.add 2) w3.drew fun x3 =>
       (Calls Tryd.prog 12 #[Value.agg #[Value.bool b1, s1.v, Value.int .i64 x1]] w3.drew fun e1 w4 =>
        ∃ b4 : Bool, ∃ s4 : Slc, ∃ x4 : Int, e1 = .returned (Value.agg #[Value.bool b4, s4.v, Value.int .i64 x4]) ∧
        (Bar (V1 2) w3.drew w4 ∧
         (Bar (V1 4) w3.drew w4 ∧
          ((Calls Tryd.prog 12 #[Value.agg #[Value.bool b2, s2.v, Value.int .i64 x2]] w4 fun e2 w5 =>
            ∃ b5 : Bool, ∃ s5 : Slc, ∃ x5 : Int, e2 = .returned (Value.agg #[Value.bool b5, s5.v, Value.int .i64 x5]) ∧
            (Bar (V1 4) w4 w5 ∧
             ((Calls Tryd.prog 12 #[Value.agg #[Value.bool b3, s3.v, Value.int .i64 x3]] w5 fun e3 w6 =>
               ∃ b6 : Bool, ∃ s6 : Slc, ∃ x6 : Int, e3 = .returned (Value.agg #[Value.bool b6, s6.v, Value.int .i64 x6]) ∧
               ((newC w6 #[Value.bool false, (⟨none, 0, 0⟩ : Slc).v, Value.int .i64 0] 39 fun ad4 w7 =>
                 Bar (V1 0) w6 w7 ∧
                 (Bar (V1 2) w6 w7 ∧
                  (Bar (V1 4) w6 w7 ∧
                   ((newC w7 #[Value.bool false, (⟨none, 0, 0⟩ : Slc).v, Value.int .i64 0] 39 fun ad5 w8 =>
                     Bar (V1 0) w7 w8 ∧
                     (Bar (V1 2) w7 w8 ∧
                      (Bar (V1 4) w7 w8 ∧
                       (newC w8 #[Value.bool false, (⟨none, 0, 0⟩ : Slc).v, Value.int .i64 0] 39 fun ad6 w9 =>
                        Bar (V1 0) w8 w9 ∧
                        (Bar (V1 2) w8 w9 ∧
                         (Bar (V1 4) w8 w9 ∧
                          (stC ad4 (Value.bool b4) w9 fun w10 =>
                           stC (ad4.add 1) s4.v w10 fun w11 =>
                           stC (ad4.add 2) (Value.int .i64 x4) w11 fun w12 =>
                           stC ad5 (Value.bool b5) w12 fun w13 =>
                           stC (ad5.add 1) s5.v w13 fun w14 =>
                           stC (ad5.add 2) (Value.int .i64 x5) w14 fun w15 =>
                           stC ad6 (Value.bool b6) w15 fun w16 =>
                           stC (ad6.add 1) s6.v w16 fun w17 =>
                           stC (ad6.add 2) (Value.int .i64 x6) w17 fun w18 =>
                           K3 ad4 ad5 ad6 w18))))))) ∧
                    (newC w7 #[Value.bool false, (⟨none, 0, 0⟩ : Slc).v, Value.int .i64 0] 39 fun ad22 w101 =>
                     Bar (V1 0) w7 w101 ∧
                     (Bar (V1 2) w7 w101 ∧
                      (Bar (V1 4) w7 w101 ∧
                       (newC w101 #[Value.bool false, (⟨none, 0, 0⟩ : Slc).v, Value.int .i64 0] 39 fun ad23 w102 =>
                        Bar (V1 0) w101 w102 ∧
                        (Bar (V1 2) w101 w102 ∧
                         (Bar (V1 4) w101 w102 ∧
                          (stC ad4 (Value.bool b4) w102 fun w103 =>
                           stC (ad4.add 1) s4.v w103 fun w104 =>
                           stC (ad4.add 2) (Value.int .i64 x4) w104 fun w105 =>
                           stC ad23 (Value.bool b5) w105 fun w106 =>
                           stC (ad23.add 1) s5.v w106 fun w107 =>
                           stC (ad23.add 2) (Value.int .i64 x5) w107 fun w108 =>
                           stC ad22 (Value.bool b6) w108 fun w109 =>
                           stC (ad22.add 1) s6.v w109 fun w110 =>
                           stC (ad22.add 2) (Value.int .i64 x6) w110 fun w111 =>
                           K3 ad4 ad23 ad22 w111))))))))))) ∧
                ((newC w6 #[Value.bool false, (⟨none, 0, 0⟩ : Slc).v, Value.int .i64 0] 39 fun ad24 w112 =>
                  Bar (V1 0) w6 w112 ∧
                  (Bar (V1 2) w6 w112 ∧
                   (Bar (V1 4) w6 w112 ∧
                    ((newC w112 #[Value.bool false, (⟨none, 0, 0⟩ : Slc).v, Value.int .i64 0] 39 fun ad25 w113 =>
                      Bar (V1 0) w112 w113 ∧
                      (Bar (V1 2) w112 w113 ∧
                       (Bar (V1 4) w112 w113 ∧
                        (newC w113 #[Value.bool false, (⟨none, 0, 0⟩ : Slc).v, Value.int .i64 0] 39 fun ad26 w114 =>
                         Bar (V1 0) w113 w114 ∧
                         (Bar (V1 2) w113 w114 ∧
                          (Bar (V1 4) w113 w114 ∧
                           (stC ad25 (Value.bool b4) w114 fun w115 =>
                            stC (ad25.add 1) s4.v w115 fun w116 =>
                            stC (ad25.add 2) (Value.int .i64 x4) w116 fun w117 =>
                            stC ad24 (Value.bool b5) w117 fun w118 =>
                            stC (ad24.add 1) s5.v w118 fun w119 =>
                            stC (ad24.add 2) (Value.int .i64 x5) w119 fun w120 =>
                            stC ad26 (Value.bool b6) w120 fun w121 =>
                            stC (ad26.add 1) s6.v w121 fun w122 =>
                            stC (ad26.add 2) (Value.int .i64 x6) w122 fun w123 =>
                            K3 ad25 ad24 ad26 w123))))))) ∧
                     (newC w112 #[Value.bool false, (⟨none, 0, 0⟩ : Slc).v, Value.int .i64 0] 39 fun ad27 w124 =>
                      Bar (V1 0) w112 w124 ∧
                      (Bar (V1 2) w112 w124 ∧
                       (Bar (V1 4) w112 w124 ∧
                        (newC w124 #[Value.bool false, (⟨none, 0, 0⟩ : Slc).v, Value.int .i64 0] 39 fun ad28 w125 =>
                         Bar (V1 0) w124 w125 ∧
                         (Bar (V1 2) w124 w125 ∧
                          (Bar (V1 4) w124 w125 ∧
                           (stC ad28 (Value.bool b4) w125 fun w126 =>
                            stC (ad28.add 1) s4.v w126 fun w127 =>
                            stC (ad28.add 2) (Value.int .i64 x4) w127 fun w128 =>
                            stC ad24 (Value.bool b5) w128 fun w129 =>
                            stC (ad24.add 1) s5.v w129 fun w130 =>
                            stC (ad24.add 2) (Value.int .i64 x5) w130 fun w131 =>
                            stC ad27 (Value.bool b6) w131 fun w132 =>
                            stC (ad27.add 1) s6.v w132 fun w133 =>
                            stC (ad27.add 2) (Value.int .i64 x6) w133 fun w134 =>
                            K3 ad28 ad24 ad27 w134))))))))))) ∧
                 (newC w6 #[Value.bool false, (⟨none, 0, 0⟩ : Slc).v, Value.int .i64 0] 39 fun ad29 w135 =>
                  Bar (V1 0) w6 w135 ∧
                  (Bar (V1 2) w6 w135 ∧
                   (Bar (V1 4) w6 w135 ∧
                    ((newC w135 #[Value.bool false, (⟨none, 0, 0⟩ : Slc).v, Value.int .i64 0] 39 fun ad30 w136 =>
                      Bar (V1 0) w135 w136 ∧
                      (Bar (V1 2) w135 w136 ∧
                       (Bar (V1 4) w135 w136 ∧
                        (newC w136 #[Value.bool false, (⟨none, 0, 0⟩ : Slc).v, Value.int .i64 0] 39 fun ad31 w137 =>
                         Bar (V1 0) w136 w137 ∧
                         (Bar (V1 2) w136 w137 ∧
                          (Bar (V1 4) w136 w137 ∧
                           (stC ad30 (Value.bool b4) w137 fun w138 =>
                            stC (ad30.add 1) s4.v w138 fun w139 =>
                            stC (ad30.add 2) (Value.int .i64 x4) w139 fun w140 =>
                            stC ad31 (Value.bool b5) w140 fun w141 =>
                            stC (ad31.add 1) s5.v w141 fun w142 =>
                            stC (ad31.add 2) (Value.int .i64 x5) w142 fun w143 =>
                            stC ad29 (Value.bool b6) w143 fun w144 =>
                            stC (ad29.add 1) s6.v w144 fun w145 =>
                            stC (ad29.add 2) (Value.int .i64 x6) w145 fun w146 =>
                            K3 ad30 ad31 ad29 w146))))))) ∧
                     (newC w135 #[Value.bool false, (⟨none, 0, 0⟩ : Slc).v, Value.int .i64 0] 39 fun ad32 w147 =>
                      Bar (V1 0) w135 w147 ∧
                      (Bar (V1 2) w135 w147 ∧
                       (Bar (V1 4) w135 w147 ∧
                        (newC w147 #[Value.bool false, (⟨none, 0, 0⟩ : Slc).v, Value.int .i64 0] 39 fun ad33 w148 =>
                         Bar (V1 0) w147 w148 ∧
                         (Bar (V1 2) w147 w148 ∧
                          (Bar (V1 4) w147 w148 ∧
                           (stC ad33 (Value.bool b4) w148 fun w149 =>
                            stC (ad33.add 1) s4.v w149 fun w150 =>
                            stC (ad33.add 2) (Value.int .i64 x4) w150 fun w151 =>
                            stC ad32 (Value.bool b5) w151 fun w152 =>
                            stC (ad32.add 1) s5.v w152 fun w153 =>
                            stC (ad32.add 2) (Value.int .i64 x5) w153 fun w154 =>
                            stC ad29 (Value.bool b6) w154 fun w155 =>
                            stC (ad29.add 1) s6.v w155 fun w156 =>
                            stC (ad29.add 2) (Value.int .i64 x6) w156 fun w157 =>
                            K3 ad33 ad32 ad29 w157)))))))))))))) ∧
              ((newC w5 #[Value.bool false, (⟨none, 0, 0⟩ : Slc).v, Value.int .i64 0] 39 fun ad34 w158 =>
                Bar (V1 0) w5 w158 ∧
                (Bar (V1 2) w5 w158 ∧
                 (Bar (V1 4) w5 w158 ∧
                  ((Calls Tryd.prog 12 #[Value.agg #[Value.bool b3, s3.v, Value.int .i64 x3]] w158 fun e32 w159 =>
                    ∃ b75 : Bool, ∃ s63 : Slc, ∃ x80 : Int, e32 = .returned (Value.agg #[Value.bool b75, s63.v, Value.int .i64 x80]) ∧
                    ((newC w159 #[Value.bool false, (⟨none, 0, 0⟩ : Slc).v, Value.int .i64 0] 39 fun ad35 w160 =>
                      Bar (V1 0) w159 w160 ∧
                      (Bar (V1 2) w159 w160 ∧
                       (Bar (V1 4) w159 w160 ∧
                        (newC w160 #[Value.bool false, (⟨none, 0, 0⟩ : Slc).v, Value.int .i64 0] 39 fun ad36 w161 =>
                         Bar (V1 0) w160 w161 ∧
                         (Bar (V1 2) w160 w161 ∧
                          (Bar (V1 4) w160 w161 ∧
                           (stC ad34 (Value.bool b4) w161 fun w162 =>
                            stC (ad34.add 1) s4.v w162 fun w163 =>
                            stC (ad34.add 2) (Value.int .i64 x4) w163 fun w164 =>
                            stC ad35 (Value.bool b5) w164 fun w165 =>
                            stC (ad35.add 1) s5.v w165 fun w166 =>
                            stC (ad35.add 2) (Value.int .i64 x5) w166 fun w167 =>
                            stC ad36 (Value.bool b75) w167 fun w168 =>
                            stC (ad36.add 1) s63.v w168 fun w169 =>
                            stC (ad36.add 2) (Value.int .i64 x80) w169 fun w170 =>
                            K3 ad34 ad35 ad36 w170))))))) ∧
                     (newC w159 #[Value.bool false, (⟨none, 0, 0⟩ : Slc).v, Value.int .i64 0] 39 fun ad37 w171 =>
                      Bar (V1 0) w159 w171 ∧
                      (Bar (V1 2) w159 w171 ∧
                       (Bar (V1 4) w159 w171 ∧
                        (newC w171 #[Value.bool false, (⟨none, 0, 0⟩ : Slc).v, Value.int .i64 0] 39 fun ad38 w172 =>
                         Bar (V1 0) w171 w172 ∧
                         (Bar (V1 2) w171 w172 ∧
                          (Bar (V1 4) w171 w172 ∧
                           (stC ad34 (Value.bool b4) w172 fun w173 =>
                            stC (ad34.add 1) s4.v w173 fun w174 =>
                            stC (ad34.add 2) (Value.int .i64 x4) w174 fun w175 =>
                            stC ad38 (Value.bool b5) w175 fun w176 =>
                            stC (ad38.add 1) s5.v w176 fun w177 =>
                            stC (ad38.add 2) (Value.int .i64 x5) w177 fun w178 =>
                            stC ad37 (Value.bool b75) w178 fun w179 =>
                            stC (ad37.add 1) s63.v w179 fun w180 =>
                            stC (ad37.add 2) (Value.int .i64 x80) w180 fun w181 =>
                            K3 ad34 ad38 ad37 w181))))))))) ∧
                   ((newC w158 #[Value.bool false, (⟨none, 0, 0⟩ : Slc).v, Value.int .i64 0] 39 fun ad39 w182 =>
                     Bar (V1 0) w158 w182 ∧
                     (Bar (V1 2) w158 w182 ∧
                      (Bar (V1 4) w158 w182 ∧
                       ((Calls Tryd.prog 12 #[Value.agg #[Value.bool b3, s3.v, Value.int .i64 x3]] w182 fun e33 w183 =>
                         ∃ b76 : Bool, ∃ s64 : Slc, ∃ x81 : Int, e33 = .returned (Value.agg #[Value.bool b76, s64.v, Value.int .i64 x81]) ∧
                         (newC w183 #[Value.bool false, (⟨none, 0, 0⟩ : Slc).v, Value.int .i64 0] 39 fun ad40 w184 =>
                          Bar (V1 0) w183 w184 ∧
                          (Bar (V1 2) w183 w184 ∧
                           (Bar (V1 4) w183 w184 ∧
                            (stC ad34 (Value.bool b4) w184 fun w185 =>
                             stC (ad34.add 1) s4.v w185 fun w186 =>
                             stC (ad34.add 2) (Value.int .i64 x4) w186 fun w187 =>
                             stC ad39 (Value.bool b5) w187 fun w188 =>
                             stC (ad39.add 1) s5.v w188 fun w189 =>
                             stC (ad39.add 2) (Value.int .i64 x5) w189 fun w190 =>
                             stC ad40 (Value.bool b76) w190 fun w191 =>
                             stC (ad40.add 1) s64.v w191 fun w192 =>
                             stC (ad40.add 2) (Value.int .i64 x81) w192 fun w193 =>
                             K3 ad34 ad39 ad40 w193))))) ∧
                        (newC w182 #[Value.bool false, (⟨none, 0, 0⟩ : Slc).v, Value.int .i64 0] 39 fun ad41 w194 =>
                         Bar (V1 0) w182 w194 ∧
                         (Bar (V1 2) w182 w194 ∧
                          (Bar (V1 4) w182 w194 ∧
                           (Calls Tryd.prog 12 #[Value.agg #[Value.bool b3, s3.v, Value.int .i64 x3]] w194 fun e34 w195 =>
                            ∃ b77 : Bool, ∃ s65 : Slc, ∃ x82 : Int, e34 = .returned (Value.agg #[Value.bool b77, s65.v, Value.int .i64 x82]) ∧
                            (stC ad34 (Value.bool b4) w195 fun w196 =>
                             stC (ad34.add 1) s4.v w196 fun w197 =>
                             stC (ad34.add 2) (Value.int .i64 x4) w197 fun w198 =>
                             stC ad39 (Value.bool b5) w198 fun w199 =>
                             stC (ad39.add 1) s5.v w199 fun w200 =>
                             stC (ad39.add 2) (Value.int .i64 x5) w200 fun w201 =>
                             stC ad41 (Value.bool b77) w201 fun w202 =>
                             stC (ad41.add 1) s65.v w202 fun w203 =>
                             stC (ad41.add 2) (Value.int .i64 x82) w203 fun w204 =>
                             K3 ad34 ad39 ad41 w204))))))))) ∧
                    (newC w158 #[Value.bool false, (⟨none, 0, 0⟩ : Slc).v, Value.int .i64 0] 39 fun ad42 w205 =>
                     Bar (V1 0) w158 w205 ∧
                     (Bar (V1 2) w158 w205 ∧
                      (Bar (V1 4) w158 w205 ∧
                       ((Calls Tryd.prog 12 #[Value.agg #[Value.bool b3, s3.v, Value.int .i64 x3]] w205 fun e35 w206 =>
                         ∃ b78 : Bool, ∃ s66 : Slc, ∃ x83 : Int, e35 = .returned (Value.agg #[Value.bool b78, s66.v, Value.int .i64 x83]) ∧
                         (newC w206 #[Value.bool false, (⟨none, 0, 0⟩ : Slc).v, Value.int .i64 0] 39 fun ad43 w207 =>
                          Bar (V1 0) w206 w207 ∧
                          (Bar (V1 2) w206 w207 ∧
                           (Bar (V1 4) w206 w207 ∧
                            (stC ad34 (Value.bool b4) w207 fun w208 =>
                             stC (ad34.add 1) s4.v w208 fun w209 =>
                             stC (ad34.add 2) (Value.int .i64 x4) w209 fun w210 =>
                             stC ad43 (Value.bool b5) w210 fun w211 =>
                             stC (ad43.add 1) s5.v w211 fun w212 =>
                             stC (ad43.add 2) (Value.int .i64 x5) w212 fun w213 =>
                             stC ad42 (Value.bool b78) w213 fun w214 =>
                             stC (ad42.add 1) s66.v w214 fun w215 =>
                             stC (ad42.add 2) (Value.int .i64 x83) w215 fun w216 =>
                             K3 ad34 ad43 ad42 w216))))) ∧
                        (newC w205 #[Value.bool false, (⟨none, 0, 0⟩ : Slc).v, Value.int .i64 0] 39 fun ad44 w217 =>
                         Bar (V1 0) w205 w217 ∧
                         (Bar (V1 2) w205 w217 ∧
                          (Bar (V1 4) w205 w217 ∧
                           (Calls Tryd.prog 12 #[Value.agg #[Value.bool b3, s3.v, Value.int .i64 x3]] w217 fun e36 w218 =>
                            ∃ b79 : Bool, ∃ s67 : Slc, ∃ x84 : Int, e36 = .returned (Value.agg #[Value.bool b79, s67.v, Value.int .i64 x84]) ∧
                            (stC ad34 (Value.bool b4) w218 fun w219 =>
                             stC (ad34.add 1) s4.v w219 fun w220 =>
                             stC (ad34.add 2) (Value.int .i64 x4) w220 fun w221 =>
                             stC ad44 (Value.bool b5) w221 fun w222 =>
                             stC (ad44.add 1) s5.v w222 fun w223 =>
                             stC (ad44.add 2) (Value.int .i64 x5) w223 fun w224 =>
                             stC ad42 (Value.bool b79) w224 fun w225 =>
                             stC (ad42.add 1) s67.v w225 fun w226 =>
                             stC (ad42.add 2) (Value.int .i64 x84) w226 fun w227 =>
                             K3 ad34 ad44 ad42 w227)))))))))))))) ∧
               ((newC w5 #[Value.bool false, (⟨none, 0, 0⟩ : Slc).v, Value.int .i64 0] 39 fun ad45 w228 =>
                 Bar (V1 0) w5 w228 ∧
                 (Bar (V1 2) w5 w228 ∧
                  (Bar (V1 4) w5 w228 ∧
                   ((Calls Tryd.prog 12 #[Value.agg #[Value.bool b3, s3.v, Value.int .i64 x3]] w228 fun e37 w229 =>
                     ∃ b80 : Bool, ∃ s68 : Slc, ∃ x85 : Int, e37 = .returned (Value.agg #[Value.bool b80, s68.v, Value.int .i64 x85]) ∧
                     ((newC w229 #[Value.bool false, (⟨none, 0, 0⟩ : Slc).v, Value.int .i64 0] 39 fun ad46 w230 =>
                       Bar (V1 0) w229 w230 ∧
                       (Bar (V1 2) w229 w230 ∧
                        (Bar (V1 4) w229 w230 ∧
                         (newC w230 #[Value.bool false, (⟨none, 0, 0⟩ : Slc).v, Value.int .i64 0] 39 fun ad47 w231 =>
                          Bar (V1 0) w230 w231 ∧
                          (Bar (V1 2) w230 w231 ∧
                           (Bar (V1 4) w230 w231 ∧
                            (stC ad46 (Value.bool b4) w231 fun w232 =>
                             stC (ad46.add 1) s4.v w232 fun w233 =>
                             stC (ad46.add 2) (Value.int .i64 x4) w233 fun w234 =>
                             stC ad45 (Value.bool b5) w234 fun w235 =>
                             stC (ad45.add 1) s5.v w235 fun w236 =>
                             stC (ad45.add 2) (Value.int .i64 x5) w236 fun w237 =>
                             stC ad47 (Value.bool b80) w237 fun w238 =>
                             stC (ad47.add 1) s68.v w238 fun w239 =>
                             stC (ad47.add 2) (Value.int .i64 x85) w239 fun w240 =>
                             K3 ad46 ad45 ad47 w240))))))) ∧
                      (newC w229 #[Value.bool false, (⟨none, 0, 0⟩ : Slc).v, Value.int .i64 0] 39 fun ad48 w241 =>
                       Bar (V1 0) w229 w241 ∧
                       (Bar (V1 2) w229 w241 ∧
                        (Bar (V1 4) w229 w241 ∧
                         (newC w241 #[Value.bool false, (⟨none, 0, 0⟩ : Slc).v, Value.int .i64 0] 39 fun ad49 w242 =>
                          Bar (V1 0) w241 w242 ∧
                          (Bar (V1 2) w241 w242 ∧
                           (Bar (V1 4) w241 w242 ∧
                            (stC ad49 (Value.bool b4) w242 fun w243 =>
                             stC (ad49.add 1) s4.v w243 fun w244 =>
                             stC (ad49.add 2) (Value.int .i64 x4) w244 fun w245 =>
                             stC ad45 (Value.bool b5) w245 fun w246 =>
                             stC (ad45.add 1) s5.v w246 fun w247 =>
                             stC (ad45.add 2) (Value.int .i64 x5) w247 fun w248 =>
                             stC ad48 (Value.bool b80) w248 fun w249 =>
                             stC (ad48.add 1) s68.v w249 fun w250 =>
                             stC (ad48.add 2) (Value.int .i64 x85) w250 fun w251 =>
                             K3 ad49 ad45 ad48 w251))))))))) ∧
                    ((newC w228 #[Value.bool false, (⟨none, 0, 0⟩ : Slc).v, Value.int .i64 0] 39 fun ad50 w252 =>
                      Bar (V1 0) w228 w252 ∧
                      (Bar (V1 2) w228 w252 ∧
                       (Bar (V1 4) w228 w252 ∧
                        ((Calls Tryd.prog 12 #[Value.agg #[Value.bool b3, s3.v, Value.int .i64 x3]] w252 fun e38 w253 =>
                          ∃ b81 : Bool, ∃ s69 : Slc, ∃ x86 : Int, e38 = .returned (Value.agg #[Value.bool b81, s69.v, Value.int .i64 x86]) ∧
                          (newC w253 #[Value.bool false, (⟨none, 0, 0⟩ : Slc).v, Value.int .i64 0] 39 fun ad51 w254 =>
                           Bar (V1 0) w253 w254 ∧
                           (Bar (V1 2) w253 w254 ∧
                            (Bar (V1 4) w253 w254 ∧
                             (stC ad50 (Value.bool b4) w254 fun w255 =>
                              stC (ad50.add 1) s4.v w255 fun w256 =>
                              stC (ad50.add 2) (Value.int .i64 x4) w256 fun w257 =>
                              stC ad45 (Value.bool b5) w257 fun w258 =>
                              stC (ad45.add 1) s5.v w258 fun w259 =>
                              stC (ad45.add 2) (Value.int .i64 x5) w259 fun w260 =>
                              stC ad51 (Value.bool b81) w260 fun w261 =>
                              stC (ad51.add 1) s69.v w261 fun w262 =>
                              stC (ad51.add 2) (Value.int .i64 x86) w262 fun w263 =>
                              K3 ad50 ad45 ad51 w263))))) ∧
                         (newC w252 #[Value.bool false, (⟨none, 0, 0⟩ : Slc).v, Value.int .i64 0] 39 fun ad52 w264 =>
                          Bar (V1 0) w252 w264 ∧
                          (Bar (V1 2) w252 w264 ∧
                           (Bar (V1 4) w252 w264 ∧
                            (Calls Tryd.prog 12 #[Value.agg #[Value.bool b3, s3.v, Value.int .i64 x3]] w264 fun e39 w265 =>
                             ∃ b82 : Bool, ∃ s70 : Slc, ∃ x87 : Int, e39 = .returned (Value.agg #[Value.bool b82, s70.v, Value.int .i64 x87]) ∧
                             (stC ad50 (Value.bool b4) w265 fun w266 =>
                              stC (ad50.add 1) s4.v w266 fun w267 =>
                              stC (ad50.add 2) (Value.int .i64 x4) w267 fun w268 =>
                              stC ad45 (Value.bool b5) w268 fun w269 =>
                              stC (ad45.add 1) s5.v w269 fun w270 =>
                              stC (ad45.add 2) (Value.int .i64 x5) w270 fun w271 =>
                              stC ad52 (Value.bool b82) w271 fun w272 =>
                              stC (ad52.add 1) s70.v w272 fun w273 =>
                              stC (ad52.add 2) (Value.int .i64 x87) w273 fun w274 =>
                              K3 ad50 ad45 ad52 w274))))))))) ∧
                     (newC w228 #[Value.bool false, (⟨none, 0, 0⟩ : Slc).v, Value.int .i64 0] 39 fun ad53 w275 =>
                      Bar (V1 0) w228 w275 ∧
                      (Bar (V1 2) w228 w275 ∧
                       (Bar (V1 4) w228 w275 ∧
                        ((Calls Tryd.prog 12 #[Value.agg #[Value.bool b3, s3.v, Value.int .i64 x3]] w275 fun e40 w276 =>
                          ∃ b83 : Bool, ∃ s71 : Slc, ∃ x88 : Int, e40 = .returned (Value.agg #[Value.bool b83, s71.v, Value.int .i64 x88]) ∧
                          (newC w276 #[Value.bool false, (⟨none, 0, 0⟩ : Slc).v, Value.int .i64 0] 39 fun ad54 w277 =>
                           Bar (V1 0) w276 w277 ∧
                           (Bar (V1 2) w276 w277 ∧
                            (Bar (V1 4) w276 w277 ∧
                             (stC ad54 (Value.bool b4) w277 fun w278 =>
                              stC (ad54.add 1) s4.v w278 fun w279 =>
                              stC (ad54.add 2) (Value.int .i64 x4) w279 fun w280 =>
                              stC ad45 (Value.bool b5) w280 fun w281 =>
                              stC (ad45.add 1) s5.v w281 fun w282 =>
                              stC (ad45.add 2) (Value.int .i64 x5) w282 fun w283 =>
                              stC ad53 (Value.bool b83) w283 fun w284 =>
                              stC (ad53.add 1) s71.v w284 fun w285 =>
                              stC (ad53.add 2) (Value.int .i64 x88) w285 fun w286 =>
                              K3 ad54 ad45 ad53 w286))))) ∧
                         (newC w275 #[Value.bool false, (⟨none, 0, 0⟩ : Slc).v, Value.int .i64 0] 39 fun ad55 w287 =>
                          Bar (V1 0) w275 w287 ∧
                          (Bar (V1 2) w275 w287 ∧
                           (Bar (V1 4) w275 w287 ∧
                            (Calls Tryd.prog 12 #[Value.agg #[Value.bool b3, s3.v, Value.int .i64 x3]] w287 fun e41 w288 =>
                             ∃ b84 : Bool, ∃ s72 : Slc, ∃ x89 : Int, e41 = .returned (Value.agg #[Value.bool b84, s72.v, Value.int .i64 x89]) ∧
                             (stC ad55 (Value.bool b4) w288 fun w289 =>
                              stC (ad55.add 1) s4.v w289 fun w290 =>
                              stC (ad55.add 2) (Value.int .i64 x4) w290 fun w291 =>
                              stC ad45 (Value.bool b5) w291 fun w292 =>
                              stC (ad45.add 1) s5.v w292 fun w293 =>
                              stC (ad45.add 2) (Value.int .i64 x5) w293 fun w294 =>
                              stC ad53 (Value.bool b84) w294 fun w295 =>
                              stC (ad53.add 1) s72.v w295 fun w296 =>
                              stC (ad53.add 2) (Value.int .i64 x89) w296 fun w297 =>
                              K3 ad55 ad45 ad53 w297)))))))))))))) ∧
                (newC w5 #[Value.bool false, (⟨none, 0, 0⟩ : Slc).v, Value.int .i64 0] 39 fun ad56 w298 =>
                 Bar (V1 0) w5 w298 ∧
                 (Bar (V1 2) w5 w298 ∧
                  (Bar (V1 4) w5 w298 ∧
                   ((Calls Tryd.prog 12 #[Value.agg #[Value.bool b3, s3.v, Value.int .i64 x3]] w298 fun e42 w299 =>
                     ∃ b85 : Bool, ∃ s73 : Slc, ∃ x90 : Int, e42 = .returned (Value.agg #[Value.bool b85, s73.v, Value.int .i64 x90]) ∧
                     ((newC w299 #[Value.bool false, (⟨none, 0, 0⟩ : Slc).v, Value.int .i64 0] 39 fun ad57 w300 =>
                       Bar (V1 0) w299 w300 ∧
                       (Bar (V1 2) w299 w300 ∧
                        (Bar (V1 4) w299 w300 ∧
                         (newC w300 #[Value.bool false, (⟨none, 0, 0⟩ : Slc).v, Value.int .i64 0] 39 fun ad58 w301 =>
                          Bar (V1 0) w300 w301 ∧
                          (Bar (V1 2) w300 w301 ∧
                           (Bar (V1 4) w300 w301 ∧
                            (stC ad57 (Value.bool b4) w301 fun w302 =>
                             stC (ad57.add 1) s4.v w302 fun w303 =>
                             stC (ad57.add 2) (Value.int .i64 x4) w303 fun w304 =>
                             stC ad58 (Value.bool b5) w304 fun w305 =>
                             stC (ad58.add 1) s5.v w305 fun w306 =>
                             stC (ad58.add 2) (Value.int .i64 x5) w306 fun w307 =>
                             stC ad56 (Value.bool b85) w307 fun w308 =>
                             stC (ad56.add 1) s73.v w308 fun w309 =>
                             stC (ad56.add 2) (Value.int .i64 x90) w309 fun w310 =>
                             K3 ad57 ad58 ad56 w310))))))) ∧
                      (newC w299 #[Value.bool false, (⟨none, 0, 0⟩ : Slc).v, Value.int .i64 0] 39 fun ad59 w311 =>
                       Bar (V1 0) w299 w311 ∧
                       (Bar (V1 2) w299 w311 ∧
                        (Bar (V1 4) w299 w311 ∧
                         (newC w311 #[Value.bool false, (⟨none, 0, 0⟩ : Slc).v, Value.int .i64 0] 39 fun ad60 w312 =>
                          Bar (V1 0) w311 w312 ∧
                          (Bar (V1 2) w311 w312 ∧
                           (Bar (V1 4) w311 w312 ∧
                            (stC ad60 (Value.bool b4) w312 fun w313 =>
                             stC (ad60.add 1) s4.v w313 fun w314 =>
                             stC (ad60.add 2) (Value.int .i64 x4) w314 fun w315 =>
                             stC ad59 (Value.bool b5) w315 fun w316 =>
                             stC (ad59.add 1) s5.v w316 fun w317 =>
                             stC (ad59.add 2) (Value.int .i64 x5) w317 fun w318 =>
                             stC ad56 (Value.bool b85) w318 fun w319 =>
                             stC (ad56.add 1) s73.v w319 fun w320 =>
                             stC (ad56.add 2) (Value.int .i64 x90) w320 fun w321 =>
                             K3 ad60 ad59 ad56 w321))))))))) ∧
                    ((newC w298 #[Value.bool false, (⟨none, 0, 0⟩ : Slc).v, Value.int .i64 0] 39 fun ad61 w322 =>
                      Bar (V1 0) w298 w322 ∧
                      (Bar (V1 2) w298 w322 ∧
                       (Bar (V1 4) w298 w322 ∧
                        ((Calls Tryd.prog 12 #[Value.agg #[Value.bool b3, s3.v, Value.int .i64 x3]] w322 fun e43 w323 =>
                          ∃ b86 : Bool, ∃ s74 : Slc, ∃ x91 : Int, e43 = .returned (Value.agg #[Value.bool b86, s74.v, Value.int .i64 x91]) ∧
                          (newC w323 #[Value.bool false, (⟨none, 0, 0⟩ : Slc).v, Value.int .i64 0] 39 fun ad62 w324 =>
                           Bar (V1 0) w323 w324 ∧
                           (Bar (V1 2) w323 w324 ∧
                            (Bar (V1 4) w323 w324 ∧
                             (stC ad61 (Value.bool b4) w324 fun w325 =>
                              stC (ad61.add 1) s4.v w325 fun w326 =>
                              stC (ad61.add 2) (Value.int .i64 x4) w326 fun w327 =>
                              stC ad62 (Value.bool b5) w327 fun w328 =>
                              stC (ad62.add 1) s5.v w328 fun w329 =>
                              stC (ad62.add 2) (Value.int .i64 x5) w329 fun w330 =>
                              stC ad56 (Value.bool b86) w330 fun w331 =>
                              stC (ad56.add 1) s74.v w331 fun w332 =>
                              stC (ad56.add 2) (Value.int .i64 x91) w332 fun w333 =>
                              K3 ad61 ad62 ad56 w333))))) ∧
                         (newC w322 #[Value.bool false, (⟨none, 0, 0⟩ : Slc).v, Value.int .i64 0] 39 fun ad63 w334 =>
                          Bar (V1 0) w322 w334 ∧
                          (Bar (V1 2) w322 w334 ∧
                           (Bar (V1 4) w322 w334 ∧
                            (Calls Tryd.prog 12 #[Value.agg #[Value.bool b3, s3.v, Value.int .i64 x3]] w334 fun e44 w335 =>
                             ∃ b87 : Bool, ∃ s75 : Slc, ∃ x92 : Int, e44 = .returned (Value.agg #[Value.bool b87, s75.v, Value.int .i64 x92]) ∧
                             (stC ad61 (Value.bool b4) w335 fun w336 =>
                              stC (ad61.add 1) s4.v w336 fun w337 =>
                              stC (ad61.add 2) (Value.int .i64 x4) w337 fun w338 =>
                              stC ad63 (Value.bool b5) w338 fun w339 =>
                              stC (ad63.add 1) s5.v w339 fun w340 =>
                              stC (ad63.add 2) (Value.int .i64 x5) w340 fun w341 =>
                              stC ad56 (Value.bool b87) w341 fun w342 =>
                              stC (ad56.add 1) s75.v w342 fun w343 =>
                              stC (ad56.add 2) (Value.int .i64 x92) w343 fun w344 =>
                              K3 ad61 ad63 ad56 w344))))))))) ∧
                     (newC w298 #[Value.bool false, (⟨none, 0, 0⟩ : Slc).v, Value.int .i64 0] 39 fun ad64 w345 =>
                      Bar (V1 0) w298 w345 ∧
                      (Bar (V1 2) w298 w345 ∧
                       (Bar (V1 4) w298 w345 ∧
                        ((Calls Tryd.prog 12 #[Value.agg #[Value.bool b3, s3.v, Value.int .i64 x3]] w345 fun e45 w346 =>
                          ∃ b88 : Bool, ∃ s76 : Slc, ∃ x93 : Int, e45 = .returned (Value.agg #[Value.bool b88, s76.v, Value.int .i64 x93]) ∧
                          (newC w346 #[Value.bool false, (⟨none, 0, 0⟩ : Slc).v, Value.int .i64 0] 39 fun ad65 w347 =>
                           Bar (V1 0) w346 w347 ∧
                           (Bar (V1 2) w346 w347 ∧
                            (Bar (V1 4) w346 w347 ∧
                             (stC ad65 (Value.bool b4) w347 fun w348 =>
                              stC (ad65.add 1) s4.v w348 fun w349 =>
                              stC (ad65.add 2) (Value.int .i64 x4) w349 fun w350 =>
                              stC ad64 (Value.bool b5) w350 fun w351 =>
                              stC (ad64.add 1) s5.v w351 fun w352 =>
                              stC (ad64.add 2) (Value.int .i64 x5) w352 fun w353 =>
                              stC ad56 (Value.bool b88) w353 fun w354 =>
                              stC (ad56.add 1) s76.v w354 fun w355 =>
                              stC (ad56.add 2) (Value.int .i64 x93) w355 fun w356 =>
                              K3 ad65 ad64 ad56 w356))))) ∧
                         (newC w345 #[Value.bool false, (⟨none, 0, 0⟩ : Slc).v, Value.int .i64 0] 39 fun ad66 w357 =>
                          Bar (V1 0) w345 w357 ∧
                          (Bar (V1 2) w345 w357 ∧
                           (Bar (V1 4) w345 w357 ∧
                            (Calls Tryd.prog 12 #[Value.agg #[Value.bool b3, s3.v, Value.int .i64 x3]] w357 fun e46 w358 =>
                             ∃ b89 : Bool, ∃ s77 : Slc, ∃ x94 : Int, e46 = .returned (Value.agg #[Value.bool b89, s77.v, Value.int .i64 x94]) ∧
                             (stC ad66 (Value.bool b4) w358 fun w359 =>
                              stC (ad66.add 1) s4.v w359 fun w360 =>
                              stC (ad66.add 2) (Value.int .i64 x4) w360 fun w361 =>
                              stC ad64 (Value.bool b5) w361 fun w362 =>
                              stC (ad64.add 1) s5.v w362 fun w363 =>
                              stC (ad64.add 2) (Value.int .i64 x5) w363 fun w364 =>
                              stC ad56 (Value.bool b89) w364 fun w365 =>
                              stC (ad56.add 1) s77.v w365 fun w366 =>
                              stC (ad56.add 2) (Value.int .i64 x94) w366 fun w367 =>
                              K3 ad66 ad64 ad56 w367))))))))))))))))))) ∧
           ((newC w4 #[Value.bool false, (⟨none, 0, 0⟩ : Slc).v, Value.int .i64 0] 39 fun ad67 w368 =>
             Bar (V1 0) w4 w368 ∧
             (Bar (V1 2) w4 w368 ∧
              (Bar (V1 4) w4 w368 ∧
               ((Calls Tryd.prog 12 #[Value.agg #[Value.bool b2, s2.v, Value.int .i64 x2]] w368 fun e47 w369 =>
                 ∃ b90 : Bool, ∃ s78 : Slc, ∃ x95 : Int, e47 = .returned (Value.agg #[Value.bool b90, s78.v, Value.int .i64 x95]) ∧
                 (Bar (V1 4) w368 w369 ∧
                  ((Calls Tryd.prog 12 #[Value.agg #[Value.bool b3, s3.v, Value.int .i64 x3]] w369 fun e48 w370 =>
                    ∃ b91 : Bool, ∃ s79 : Slc, ∃ x96 : Int, e48 = .returned (Value.agg #[Value.bool b91, s79.v, Value.int .i64 x96]) ∧
                    ((newC w370 #[Value.bool false, (⟨none, 0, 0⟩ : Slc).v, Value.int .i64 0] 39 fun ad68 w371 =>
                      Bar (V1 0) w370 w371 ∧
                      (Bar (V1 2) w370 w371 ∧
                       (Bar (V1 4) w370 w371 ∧
                        (newC w371 #[Value.bool false, (⟨none, 0, 0⟩ : Slc).v, Value.int .i64 0] 39 fun ad69 w372 =>
                         Bar (V1 0) w371 w372 ∧
                         (Bar (V1 2) w371 w372 ∧
                          (Bar (V1 4) w371 w372 ∧
                           (stC ad67 (Value.bool b4) w372 fun w373 =>
                            stC (ad67.add 1) s4.v w373 fun w374 =>
                            stC (ad67.add 2) (Value.int .i64 x4) w374 fun w375 =>
                            stC ad68 (Value.bool b90) w375 fun w376 =>
                            stC (ad68.add 1) s78.v w376 fun w377 =>
                            stC (ad68.add 2) (Value.int .i64 x95) w377 fun w378 =>
                            stC ad69 (Value.bool b91) w378 fun w379 =>
                            stC (ad69.add 1) s79.v w379 fun w380 =>
                            stC (ad69.add 2) (Value.int .i64 x96) w380 fun w381 =>
                            K3 ad67 ad68 ad69 w381))))))) ∧
                     (newC w370 #[Value.bool false, (⟨none, 0, 0⟩ : Slc).v, Value.int .i64 0] 39 fun ad70 w382 =>
                      Bar (V1 0) w370 w382 ∧
                      (Bar (V1 2) w370 w382 ∧
                       (Bar (V1 4) w370 w382 ∧
                        (newC w382 #[Value.bool false, (⟨none, 0, 0⟩ : Slc).v, Value.int .i64 0] 39 fun ad71 w383 =>
                         Bar (V1 0) w382 w383 ∧
                         (Bar (V1 2) w382 w383 ∧
                          (Bar (V1 4) w382 w383 ∧
                           (stC ad67 (Value.bool b4) w383 fun w384 =>
                            stC (ad67.add 1) s4.v w384 fun w385 =>
                            stC (ad67.add 2) (Value.int .i64 x4) w385 fun w386 =>
                            stC ad71 (Value.bool b90) w386 fun w387 =>
                            stC (ad71.add 1) s78.v w387 fun w388 =>
                            stC (ad71.add 2) (Value.int .i64 x95) w388 fun w389 =>
                            stC ad70 (Value.bool b91) w389 fun w390 =>
                            stC (ad70.add 1) s79.v w390 fun w391 =>
                            stC (ad70.add 2) (Value.int .i64 x96) w391 fun w392 =>
                            K3 ad67 ad71 ad70 w392))))))))) ∧
                   ((newC w369 #[Value.bool false, (⟨none, 0, 0⟩ : Slc).v, Value.int .i64 0] 39 fun ad72 w393 =>
                     Bar (V1 0) w369 w393 ∧
                     (Bar (V1 2) w369 w393 ∧
                      (Bar (V1 4) w369 w393 ∧
                       ((Calls Tryd.prog 12 #[Value.agg #[Value.bool b3, s3.v, Value.int .i64 x3]] w393 fun e49 w394 =>
                         ∃ b92 : Bool, ∃ s80 : Slc, ∃ x97 : Int, e49 = .returned (Value.agg #[Value.bool b92, s80.v, Value.int .i64 x97]) ∧
                         (newC w394 #[Value.bool false, (⟨none, 0, 0⟩ : Slc).v, Value.int .i64 0] 39 fun ad73 w395 =>
                          Bar (V1 0) w394 w395 ∧
                          (Bar (V1 2) w394 w395 ∧
                           (Bar (V1 4) w394 w395 ∧
                            (stC ad67 (Value.bool b4) w395 fun w396 =>
                             stC (ad67.add 1) s4.v w396 fun w397 =>
                             stC (ad67.add 2) (Value.int .i64 x4) w397 fun w398 =>
                             stC ad72 (Value.bool b90) w398 fun w399 =>
                             stC (ad72.add 1) s78.v w399 fun w400 =>
                             stC (ad72.add 2) (Value.int .i64 x95) w400 fun w401 =>
                             stC ad73 (Value.bool b92) w401 fun w402 =>
                             stC (ad73.add 1) s80.v w402 fun w403 =>
                             stC (ad73.add 2) (Value.int .i64 x97) w403 fun w404 =>
                             K3 ad67 ad72 ad73 w404))))) ∧
                        (newC w393 #[Value.bool false, (⟨none, 0, 0⟩ : Slc).v, Value.int .i64 0] 39 fun ad74 w405 =>
                         Bar (V1 0) w393 w405 ∧
                         (Bar (V1 2) w393 w405 ∧
                          (Bar (V1 4) w393 w405 ∧
                           (Calls Tryd.prog 12 #[Value.agg #[Value.bool b3, s3.v, Value.int .i64 x3]] w405 fun e50 w406 =>
                            ∃ b93 : Bool, ∃ s81 : Slc, ∃ x98 : Int, e50 = .returned (Value.agg #[Value.bool b93, s81.v, Value.int .i64 x98]) ∧
                            (stC ad67 (Value.bool b4) w406 fun w407 =>
                             stC (ad67.add 1) s4.v w407 fun w408 =>
                             stC (ad67.add 2) (Value.int .i64 x4) w408 fun w409 =>
                             stC ad72 (Value.bool b90) w409 fun w410 =>
                             stC (ad72.add 1) s78.v w410 fun w411 =>
                             stC (ad72.add 2) (Value.int .i64 x95) w411 fun w412 =>
                             stC ad74 (Value.bool b93) w412 fun w413 =>
                             stC (ad74.add 1) s81.v w413 fun w414 =>
                             stC (ad74.add 2) (Value.int .i64 x98) w414 fun w415 =>
                             K3 ad67 ad72 ad74 w415))))))))) ∧
                    (newC w369 #[Value.bool false, (⟨none, 0, 0⟩ : Slc).v, Value.int .i64 0] 39 fun ad75 w416 =>
                     Bar (V1 0) w369 w416 ∧
                     (Bar (V1 2) w369 w416 ∧
                      (Bar (V1 4) w369 w416 ∧
                       ((Calls Tryd.prog 12 #[Value.agg #[Value.bool b3, s3.v, Value.int .i64 x3]] w416 fun e51 w417 =>
                         ∃ b94 : Bool, ∃ s82 : Slc, ∃ x99 : Int, e51 = .returned (Value.agg #[Value.bool b94, s82.v, Value.int .i64 x99]) ∧
                         (newC w417 #[Value.bool false, (⟨none, 0, 0⟩ : Slc).v, Value.int .i64 0] 39 fun ad76 w418 =>
                          Bar (V1 0) w417 w418 ∧
                          (Bar (V1 2) w417 w418 ∧
                           (Bar (V1 4) w417 w418 ∧
                            (stC ad67 (Value.bool b4) w418 fun w419 =>
                             stC (ad67.add 1) s4.v w419 fun w420 =>
                             stC (ad67.add 2) (Value.int .i64 x4) w420 fun w421 =>
                             stC ad76 (Value.bool b90) w421 fun w422 =>
                             stC (ad76.add 1) s78.v w422 fun w423 =>
                             stC (ad76.add 2) (Value.int .i64 x95) w423 fun w424 =>
                             stC ad75 (Value.bool b94) w424 fun w425 =>
                             stC (ad75.add 1) s82.v w425 fun w426 =>
                             stC (ad75.add 2) (Value.int .i64 x99) w426 fun w427 =>
                             K3 ad67 ad76 ad75 w427))))) ∧
                        (newC w416 #[Value.bool false, (⟨none, 0, 0⟩ : Slc).v, Value.int .i64 0] 39 fun ad77 w428 =>
                         Bar (V1 0) w416 w428 ∧
                         (Bar (V1 2) w416 w428 ∧
                          (Bar (V1 4) w416 w428 ∧
                           (Calls Tryd.prog 12 #[Value.agg #[Value.bool b3, s3.v, Value.int .i64 x3]] w428 fun e52 w429 =>
                            ∃ b95 : Bool, ∃ s83 : Slc, ∃ x100 : Int, e52 = .returned (Value.agg #[Value.bool b95, s83.v, Value.int .i64 x100]) ∧
                            (stC ad67 (Value.bool b4) w429 fun w430 =>
                             stC (ad67.add 1) s4.v w430 fun w431 =>
                             stC (ad67.add 2) (Value.int .i64 x4) w431 fun w432 =>
                             stC ad77 (Value.bool b90) w432 fun w433 =>
                             stC (ad77.add 1) s78.v w433 fun w434 =>
                             stC (ad77.add 2) (Value.int .i64 x95) w434 fun w435 =>
                             stC ad75 (Value.bool b95) w435 fun w436 =>
                             stC (ad75.add 1) s83.v w436 fun w437 =>
                             stC (ad75.add 2) (Value.int .i64 x100) w437 fun w438 =>
                             K3 ad67 ad77 ad75 w438))))))))))))) ∧
                ((newC w368 #[Value.bool false, (⟨none, 0, 0⟩ : Slc).v, Value.int .i64 0] 39 fun ad78 w439 =>
                  Bar (V1 0) w368 w439 ∧
                  (Bar (V1 2) w368 w439 ∧
                   (Bar (V1 4) w368 w439 ∧
                    ((Calls Tryd.prog 12 #[Value.agg #[Value.bool b2, s2.v, Value.int .i64 x2]] w439 fun e53 w440 =>
                      ∃ b96 : Bool, ∃ s84 : Slc, ∃ x101 : Int, e53 = .returned (Value.agg #[Value.bool b96, s84.v, Value.int .i64 x101]) ∧
                      (Bar (V1 4) w439 w440 ∧
                       ((Calls Tryd.prog 12 #[Value.agg #[Value.bool b3, s3.v, Value.int .i64 x3]] w440 fun e54 w441 =>
                         ∃ b97 : Bool, ∃ s85 : Slc, ∃ x102 : Int, e54 = .returned (Value.agg #[Value.bool b97, s85.v, Value.int .i64 x102]) ∧
                         (newC w441 #[Value.bool false, (⟨none, 0, 0⟩ : Slc).v, Value.int .i64 0] 39 fun ad79 w442 =>
                          Bar (V1 0) w441 w442 ∧
                          (Bar (V1 2) w441 w442 ∧
                           (Bar (V1 4) w441 w442 ∧
                            (stC ad67 (Value.bool b4) w442 fun w443 =>
                             stC (ad67.add 1) s4.v w443 fun w444 =>
                             stC (ad67.add 2) (Value.int .i64 x4) w444 fun w445 =>
                             stC ad78 (Value.bool b96) w445 fun w446 =>
                             stC (ad78.add 1) s84.v w446 fun w447 =>
                             stC (ad78.add 2) (Value.int .i64 x101) w447 fun w448 =>
                             stC ad79 (Value.bool b97) w448 fun w449 =>
                             stC (ad79.add 1) s85.v w449 fun w450 =>
                             stC (ad79.add 2) (Value.int .i64 x102) w450 fun w451 =>
                             K3 ad67 ad78 ad79 w451))))) ∧
                        (newC w440 #[Value.bool false, (⟨none, 0, 0⟩ : Slc).v, Value.int .i64 0] 39 fun ad80 w452 =>
                         Bar (V1 0) w440 w452 ∧
                         (Bar (V1 2) w440 w452 ∧
                          (Bar (V1 4) w440 w452 ∧
                           (Calls Tryd.prog 12 #[Value.agg #[Value.bool b3, s3.v, Value.int .i64 x3]] w452 fun e55 w453 =>
                            ∃ b98 : Bool, ∃ s86 : Slc, ∃ x103 : Int, e55 = .returned (Value.agg #[Value.bool b98, s86.v, Value.int .i64 x103]) ∧
                            (stC ad67 (Value.bool b4) w453 fun w454 =>
                             stC (ad67.add 1) s4.v w454 fun w455 =>
                             stC (ad67.add 2) (Value.int .i64 x4) w455 fun w456 =>
                             stC ad78 (Value.bool b96) w456 fun w457 =>
                             stC (ad78.add 1) s84.v w457 fun w458 =>
                             stC (ad78.add 2) (Value.int .i64 x101) w458 fun w459 =>
                             stC ad80 (Value.bool b98) w459 fun w460 =>
                             stC (ad80.add 1) s86.v w460 fun w461 =>
                             stC (ad80.add 2) (Value.int .i64 x103) w461 fun w462 =>
                             K3 ad67 ad78 ad80 w462)))))))) ∧
                     (newC w439 #[Value.bool false, (⟨none, 0, 0⟩ : Slc).v, Value.int .i64 0] 39 fun ad81 w463 =>
                      Bar (V1 0) w439 w463 ∧
                      (Bar (V1 2) w439 w463 ∧
                       (Bar (V1 4) w439 w463 ∧
                        (Calls Tryd.prog 12 #[Value.agg #[Value.bool b2, s2.v, Value.int .i64 x2]] w463 fun e56 w464 =>
                         ∃ b99 : Bool, ∃ s87 : Slc, ∃ x104 : Int, e56 = .returned (Value.agg #[Value.bool b99, s87.v, Value.int .i64 x104]) ∧
                         (Bar (V1 4) w463 w464 ∧
                          (Calls Tryd.prog 12 #[Value.agg #[Value.bool b3, s3.v, Value.int .i64 x3]] w464 fun e57 w465 =>
                           ∃ b100 : Bool, ∃ s88 : Slc, ∃ x105 : Int, e57 = .returned (Value.agg #[Value.bool b100, s88.v, Value.int .i64 x105]) ∧
                           (stC ad67 (Value.bool b4) w465 fun w466 =>
                            stC (ad67.add 1) s4.v w466 fun w467 =>
                            stC (ad67.add 2) (Value.int .i64 x4) w467 fun w468 =>
                            stC ad78 (Value.bool b99) w468 fun w469 =>
                            stC (ad78.add 1) s87.v w469 fun w470 =>
                            stC (ad78.add 2) (Value.int .i64 x104) w470 fun w471 =>
                            stC ad81 (Value.bool b100) w471 fun w472 =>
                            stC (ad81.add 1) s88.v w472 fun w473 =>
                            stC (ad81.add 2) (Value.int .i64 x105) w473 fun w474 =>
                            K3 ad67 ad78 ad81 w474))))))))))) ∧
                 (newC w368 #[Value.bool false, (⟨none, 0, 0⟩ : Slc).v, Value.int .i64 0] 39 fun ad82 w475 =>
                  Bar (V1 0) w368 w475 ∧
                  (Bar (V1 2) w368 w475 ∧
                   (Bar (V1 4) w368 w475 ∧
                    ((Calls Tryd.prog 12 #[Value.agg #[Value.bool b2, s2.v, Value.int .i64 x2]] w475 fun e58 w476 =>
                      ∃ b101 : Bool, ∃ s89 : Slc, ∃ x106 : Int, e58 = .returned (Value.agg #[Value.bool b101, s89.v, Value.int .i64 x106]) ∧
                      (Bar (V1 4) w475 w476 ∧
                       ((Calls Tryd.prog 12 #[Value.agg #[Value.bool b3, s3.v, Value.int .i64 x3]] w476 fun e59 w477 =>
                         ∃ b102 : Bool, ∃ s90 : Slc, ∃ x107 : Int, e59 = .returned (Value.agg #[Value.bool b102, s90.v, Value.int .i64 x107]) ∧
                         (newC w477 #[Value.bool false, (⟨none, 0, 0⟩ : Slc).v, Value.int .i64 0] 39 fun ad83 w478 =>
                          Bar (V1 0) w477 w478 ∧
                          (Bar (V1 2) w477 w478 ∧
                           (Bar (V1 4) w477 w478 ∧
                            (stC ad67 (Value.bool b4) w478 fun w479 =>
                             stC (ad67.add 1) s4.v w479 fun w480 =>
                             stC (ad67.add 2) (Value.int .i64 x4) w480 fun w481 =>
                             stC ad83 (Value.bool b101) w481 fun w482 =>
                             stC (ad83.add 1) s89.v w482 fun w483 =>
                             stC (ad83.add 2) (Value.int .i64 x106) w483 fun w484 =>
                             stC ad82 (Value.bool b102) w484 fun w485 =>
                             stC (ad82.add 1) s90.v w485 fun w486 =>
                             stC (ad82.add 2) (Value.int .i64 x107) w486 fun w487 =>
                             K3 ad67 ad83 ad82 w487))))) ∧
                        (newC w476 #[Value.bool false, (⟨none, 0, 0⟩ : Slc).v, Value.int .i64 0] 39 fun ad84 w488 =>
                         Bar (V1 0) w476 w488 ∧
                         (Bar (V1 2) w476 w488 ∧
                          (Bar (V1 4) w476 w488 ∧
                           (Calls Tryd.prog 12 #[Value.agg #[Value.bool b3, s3.v, Value.int .i64 x3]] w488 fun e60 w489 =>
                            ∃ b103 : Bool, ∃ s91 : Slc, ∃ x108 : Int, e60 = .returned (Value.agg #[Value.bool b103, s91.v, Value.int .i64 x108]) ∧
                            (stC ad67 (Value.bool b4) w489 fun w490 =>
                             stC (ad67.add 1) s4.v w490 fun w491 =>
                             stC (ad67.add 2) (Value.int .i64 x4) w491 fun w492 =>
                             stC ad84 (Value.bool b101) w492 fun w493 =>
                             stC (ad84.add 1) s89.v w493 fun w494 =>
                             stC (ad84.add 2) (Value.int .i64 x106) w494 fun w495 =>
                             stC ad82 (Value.bool b103) w495 fun w496 =>
                             stC (ad82.add 1) s91.v w496 fun w497 =>
                             stC (ad82.add 2) (Value.int .i64 x108) w497 fun w498 =>
                             K3 ad67 ad84 ad82 w498)))))))) ∧
                     (newC w475 #[Value.bool false, (⟨none, 0, 0⟩ : Slc).v, Value.int .i64 0] 39 fun ad85 w499 =>
                      Bar (V1 0) w475 w499 ∧
                      (Bar (V1 2) w475 w499 ∧
                       (Bar (V1 4) w475 w499 ∧
                        (Calls Tryd.prog 12 #[Value.agg #[Value.bool b2, s2.v, Value.int .i64 x2]] w499 fun e61 w500 =>
                         ∃ b104 : Bool, ∃ s92 : Slc, ∃ x109 : Int, e61 = .returned (Value.agg #[Value.bool b104, s92.v, Value.int .i64 x109]) ∧
                         (Bar (V1 4) w499 w500 ∧
                          (Calls Tryd.prog 12 #[Value.agg #[Value.bool b3, s3.v, Value.int .i64 x3]] w500 fun e62 w501 =>
                           ∃ b105 : Bool, ∃ s93 : Slc, ∃ x110 : Int, e62 = .returned (Value.agg #[Value.bool b105, s93.v, Value.int .i64 x110]) ∧
                           (stC ad67 (Value.bool b4) w501 fun w502 =>
                            stC (ad67.add 1) s4.v w502 fun w503 =>
                            stC (ad67.add 2) (Value.int .i64 x4) w503 fun w504 =>
                            stC ad85 (Value.bool b104) w504 fun w505 =>
                            stC (ad85.add 1) s92.v w505 fun w506 =>
                            stC (ad85.add 2) (Value.int .i64 x109) w506 fun w507 =>
                            stC ad82 (Value.bool b105) w507 fun w508 =>
                            stC (ad82.add 1) s93.v w508 fun w509 =>
                            stC (ad82.add 2) (Value.int .i64 x110) w509 fun w510 =>
                            K3 ad67 ad85 ad82 w510)))))))))))))))) ∧
            ((newC w4 #[Value.bool false, (⟨none, 0, 0⟩ : Slc).v, Value.int .i64 0] 39 fun ad86 w511 =>
              Bar (V1 0) w4 w511 ∧
              (Bar (V1 2) w4 w511 ∧
               (Bar (V1 4) w4 w511 ∧
                ((Calls Tryd.prog 12 #[Value.agg #[Value.bool b2, s2.v, Value.int .i64 x2]] w511 fun e63 w512 =>
                  ∃ b106 : Bool, ∃ s94 : Slc, ∃ x111 : Int, e63 = .returned (Value.agg #[Value.bool b106, s94.v, Value.int .i64 x111]) ∧
                  (Bar (V1 4) w511 w512 ∧
                   ((Calls Tryd.prog 12 #[Value.agg #[Value.bool b3, s3.v, Value.int .i64 x3]] w512 fun e64 w513 =>
                     ∃ b107 : Bool, ∃ s95 : Slc, ∃ x112 : Int, e64 = .returned (Value.agg #[Value.bool b107, s95.v, Value.int .i64 x112]) ∧
                     ((newC w513 #[Value.bool false, (⟨none, 0, 0⟩ : Slc).v, Value.int .i64 0] 39 fun ad87 w514 =>
                       Bar (V1 0) w513 w514 ∧
                       (Bar (V1 2) w513 w514 ∧
                        (Bar (V1 4) w513 w514 ∧
                         (newC w514 #[Value.bool false, (⟨none, 0, 0⟩ : Slc).v, Value.int .i64 0] 39 fun ad88 w515 =>
                          Bar (V1 0) w514 w515 ∧
                          (Bar (V1 2) w514 w515 ∧
                           (Bar (V1 4) w514 w515 ∧
                            (stC ad87 (Value.bool b4) w515 fun w516 =>
                             stC (ad87.add 1) s4.v w516 fun w517 =>
                             stC (ad87.add 2) (Value.int .i64 x4) w517 fun w518 =>
                             stC ad86 (Value.bool b106) w518 fun w519 =>
                             stC (ad86.add 1) s94.v w519 fun w520 =>
                             stC (ad86.add 2) (Value.int .i64 x111) w520 fun w521 =>
                             stC ad88 (Value.bool b107) w521 fun w522 =>
                             stC (ad88.add 1) s95.v w522 fun w523 =>
                             stC (ad88.add 2) (Value.int .i64 x112) w523 fun w524 =>
                             K3 ad87 ad86 ad88 w524))))))) ∧
                      (newC w513 #[Value.bool false, (⟨none, 0, 0⟩ : Slc).v, Value.int .i64 0] 39 fun ad89 w525 =>
                       Bar (V1 0) w513 w525 ∧
                       (Bar (V1 2) w513 w525 ∧
                        (Bar (V1 4) w513 w525 ∧
                         (newC w525 #[Value.bool false, (⟨none, 0, 0⟩ : Slc).v, Value.int .i64 0] 39 fun ad90 w526 =>
                          Bar (V1 0) w525 w526 ∧
                          (Bar (V1 2) w525 w526 ∧
                           (Bar (V1 4) w525 w526 ∧
                            (stC ad90 (Value.bool b4) w526 fun w527 =>
                             stC (ad90.add 1) s4.v w527 fun w528 =>
                             stC (ad90.add 2) (Value.int .i64 x4) w528 fun w529 =>
                             stC ad86 (Value.bool b106) w529 fun w530 =>
                             stC (ad86.add 1) s94.v w530 fun w531 =>
                             stC (ad86.add 2) (Value.int .i64 x111) w531 fun w532 =>
                             stC ad89 (Value.bool b107) w532 fun w533 =>
                             stC (ad89.add 1) s95.v w533 fun w534 =>
                             stC (ad89.add 2) (Value.int .i64 x112) w534 fun w535 =>
                             K3 ad90 ad86 ad89 w535))))))))) ∧
                    ((newC w512 #[Value.bool false, (⟨none, 0, 0⟩ : Slc).v, Value.int .i64 0] 39 fun ad91 w536 =>
                      Bar (V1 0) w512 w536 ∧
                      (Bar (V1 2) w512 w536 ∧
                       (Bar (V1 4) w512 w536 ∧
                        ((Calls Tryd.prog 12 #[Value.agg #[Value.bool b3, s3.v, Value.int .i64 x3]] w536 fun e65 w537 =>
                          ∃ b108 : Bool, ∃ s96 : Slc, ∃ x113 : Int, e65 = .returned (Value.agg #[Value.bool b108, s96.v, Value.int .i64 x113]) ∧
                          (newC w537 #[Value.bool false, (⟨none, 0, 0⟩ : Slc).v, Value.int .i64 0] 39 fun ad92 w538 =>
                           Bar (V1 0) w537 w538 ∧
                           (Bar (V1 2) w537 w538 ∧
                            (Bar (V1 4) w537 w538 ∧
                             (stC ad91 (Value.bool b4) w538 fun w539 =>
                              stC (ad91.add 1) s4.v w539 fun w540 =>
                              stC (ad91.add 2) (Value.int .i64 x4) w540 fun w541 =>
                              stC ad86 (Value.bool b106) w541 fun w542 =>
                              stC (ad86.add 1) s94.v w542 fun w543 =>
                              stC (ad86.add 2) (Value.int .i64 x111) w543 fun w544 =>
                              stC ad92 (Value.bool b108) w544 fun w545 =>
                              stC (ad92.add 1) s96.v w545 fun w546 =>
                              stC (ad92.add 2) (Value.int .i64 x113) w546 fun w547 =>
                              K3 ad91 ad86 ad92 w547))))) ∧
                         (newC w536 #[Value.bool false, (⟨none, 0, 0⟩ : Slc).v, Value.int .i64 0] 39 fun ad93 w548 =>
                          Bar (V1 0) w536 w548 ∧
                          (Bar (V1 2) w536 w548 ∧
                           (Bar (V1 4) w536 w548 ∧
                            (Calls Tryd.prog 12 #[Value.agg #[Value.bool b3, s3.v, Value.int .i64 x3]] w548 fun e66 w549 =>
                             ∃ b109 : Bool, ∃ s97 : Slc, ∃ x114 : Int, e66 = .returned (Value.agg #[Value.bool b109, s97.v, Value.int .i64 x114]) ∧
                             (stC ad91 (Value.bool b4) w549 fun w550 =>
                              stC (ad91.add 1) s4.v w550 fun w551 =>
                              stC (ad91.add 2) (Value.int .i64 x4) w551 fun w552 =>
                              stC ad86 (Value.bool b106) w552 fun w553 =>
                              stC (ad86.add 1) s94.v w553 fun w554 =>
                              stC (ad86.add 2) (Value.int .i64 x111) w554 fun w555 =>
                              stC ad93 (Value.bool b109) w555 fun w556 =>
                              stC (ad93.add 1) s97.v w556 fun w557 =>
                              stC (ad93.add 2) (Value.int .i64 x114) w557 fun w558 =>
                              K3 ad91 ad86 ad93 w558))))))))) ∧
                     (newC w512 #[Value.bool false, (⟨none, 0, 0⟩ : Slc).v, Value.int .i64 0] 39 fun ad94 w559 =>
                      Bar (V1 0) w512 w559 ∧
                      (Bar (V1 2) w512 w559 ∧
                       (Bar (V1 4) w512 w559 ∧
                        ((Calls Tryd.prog 12 #[Value.agg #[Value.bool b3, s3.v, Value.int .i64 x3]] w559 fun e67 w560 =>
                          ∃ b110 : Bool, ∃ s98 : Slc, ∃ x115 : Int, e67 = .returned (Value.agg #[Value.bool b110, s98.v, Value.int .i64 x115]) ∧
                          (newC w560 #[Value.bool false, (⟨none, 0, 0⟩ : Slc).v, Value.int .i64 0] 39 fun ad95 w561 =>
                           Bar (V1 0) w560 w561 ∧
                           (Bar (V1 2) w560 w561 ∧
                            (Bar (V1 4) w560 w561 ∧
                             (stC ad95 (Value.bool b4) w561 fun w562 =>
                              stC (ad95.add 1) s4.v w562 fun w563 =>
                              stC (ad95.add 2) (Value.int .i64 x4) w563 fun w564 =>
                              stC ad86 (Value.bool b106) w564 fun w565 =>
                              stC (ad86.add 1) s94.v w565 fun w566 =>
                              stC (ad86.add 2) (Value.int .i64 x111) w566 fun w567 =>
                              stC ad94 (Value.bool b110) w567 fun w568 =>
                              stC (ad94.add 1) s98.v w568 fun w569 =>
                              stC (ad94.add 2) (Value.int .i64 x115) w569 fun w570 =>
                              K3 ad95 ad86 ad94 w570))))) ∧
                         (newC w559 #[Value.bool false, (⟨none, 0, 0⟩ : Slc).v, Value.int .i64 0] 39 fun ad96 w571 =>
                          Bar (V1 0) w559 w571 ∧
                          (Bar (V1 2) w559 w571 ∧
                           (Bar (V1 4) w559 w571 ∧
                            (Calls Tryd.prog 12 #[Value.agg #[Value.bool b3, s3.v, Value.int .i64 x3]] w571 fun e68 w572 =>
                             ∃ b111 : Bool, ∃ s99 : Slc, ∃ x116 : Int, e68 = .returned (Value.agg #[Value.bool b111, s99.v, Value.int .i64 x116]) ∧
                             (stC ad96 (Value.bool b4) w572 fun w573 =>
                              stC (ad96.add 1) s4.v w573 fun w574 =>
                              stC (ad96.add 2) (Value.int .i64 x4) w574 fun w575 =>
                              stC ad86 (Value.bool b106) w575 fun w576 =>
                              stC (ad86.add 1) s94.v w576 fun w577 =>
                              stC (ad86.add 2) (Value.int .i64 x111) w577 fun w578 =>
                              stC ad94 (Value.bool b111) w578 fun w579 =>
                              stC (ad94.add 1) s99.v w579 fun w580 =>
                              stC (ad94.add 2) (Value.int .i64 x116) w580 fun w581 =>
                              K3 ad96 ad86 ad94 w581))))))))))))) ∧
                 ((newC w511 #[Value.bool false, (⟨none, 0, 0⟩ : Slc).v, Value.int .i64 0] 39 fun ad97 w582 =>
                   Bar (V1 0) w511 w582 ∧
                   (Bar (V1 2) w511 w582 ∧
                    (Bar (V1 4) w511 w582 ∧
                     ((Calls Tryd.prog 12 #[Value.agg #[Value.bool b2, s2.v, Value.int .i64 x2]] w582 fun e69 w583 =>
                       ∃ b112 : Bool, ∃ s100 : Slc, ∃ x117 : Int, e69 = .returned (Value.agg #[Value.bool b112, s100.v, Value.int .i64 x117]) ∧
                       (Bar (V1 4) w582 w583 ∧
                        ((Calls Tryd.prog 12 #[Value.agg #[Value.bool b3, s3.v, Value.int .i64 x3]] w583 fun e70 w584 =>
                          ∃ b113 : Bool, ∃ s101 : Slc, ∃ x118 : Int, e70 = .returned (Value.agg #[Value.bool b113, s101.v, Value.int .i64 x118]) ∧
                          (newC w584 #[Value.bool false, (⟨none, 0, 0⟩ : Slc).v, Value.int .i64 0] 39 fun ad98 w585 =>
                           Bar (V1 0) w584 w585 ∧
                           (Bar (V1 2) w584 w585 ∧
                            (Bar (V1 4) w584 w585 ∧
                             (stC ad97 (Value.bool b4) w585 fun w586 =>
                              stC (ad97.add 1) s4.v w586 fun w587 =>
                              stC (ad97.add 2) (Value.int .i64 x4) w587 fun w588 =>
                              stC ad86 (Value.bool b112) w588 fun w589 =>
                              stC (ad86.add 1) s100.v w589 fun w590 =>
                              stC (ad86.add 2) (Value.int .i64 x117) w590 fun w591 =>
                              stC ad98 (Value.bool b113) w591 fun w592 =>
                              stC (ad98.add 1) s101.v w592 fun w593 =>
                              stC (ad98.add 2) (Value.int .i64 x118) w593 fun w594 =>
                              K3 ad97 ad86 ad98 w594))))) ∧
                         (newC w583 #[Value.bool false, (⟨none, 0, 0⟩ : Slc).v, Value.int .i64 0] 39 fun ad99 w595 =>
                          Bar (V1 0) w583 w595 ∧
                          (Bar (V1 2) w583 w595 ∧
                           (Bar (V1 4) w583 w595 ∧
                            (Calls Tryd.prog 12 #[Value.agg #[Value.bool b3, s3.v, Value.int .i64 x3]] w595 fun e71 w596 =>
                             ∃ b114 : Bool, ∃ s102 : Slc, ∃ x119 : Int, e71 = .returned (Value.agg #[Value.bool b114, s102.v, Value.int .i64 x119]) ∧
                             (stC ad97 (Value.bool b4) w596 fun w597 =>
                              stC (ad97.add 1) s4.v w597 fun w598 =>
                              stC (ad97.add 2) (Value.int .i64 x4) w598 fun w599 =>
                              stC ad86 (Value.bool b112) w599 fun w600 =>
                              stC (ad86.add 1) s100.v w600 fun w601 =>
                              stC (ad86.add 2) (Value.int .i64 x117) w601 fun w602 =>
                              stC ad99 (Value.bool b114) w602 fun w603 =>
                              stC (ad99.add 1) s102.v w603 fun w604 =>
                              stC (ad99.add 2) (Value.int .i64 x119) w604 fun w605 =>
                              K3 ad97 ad86 ad99 w605)))))))) ∧
                      (newC w582 #[Value.bool false, (⟨none, 0, 0⟩ : Slc).v, Value.int .i64 0] 39 fun ad100 w606 =>
                       Bar (V1 0) w582 w606 ∧
                       (Bar (V1 2) w582 w606 ∧
                        (Bar (V1 4) w582 w606 ∧
                         (Calls Tryd.prog 12 #[Value.agg #[Value.bool b2, s2.v, Value.int .i64 x2]] w606 fun e72 w607 =>
                          ∃ b115 : Bool, ∃ s103 : Slc, ∃ x120 : Int, e72 = .returned (Value.agg #[Value.bool b115, s103.v, Value.int .i64 x120]) ∧
                          (Bar (V1 4) w606 w607 ∧
                           (Calls Tryd.prog 12 #[Value.agg #[Value.bool b3, s3.v, Value.int .i64 x3]] w607 fun e73 w608 =>
                            ∃ b116 : Bool, ∃ s104 : Slc, ∃ x121 : Int, e73 = .returned (Value.agg #[Value.bool b116, s104.v, Value.int .i64 x121]) ∧
                            (stC ad97 (Value.bool b4) w608 fun w609 =>
                             stC (ad97.add 1) s4.v w609 fun w610 =>
                             stC (ad97.add 2) (Value.int .i64 x4) w610 fun w611 =>
                             stC ad86 (Value.bool b115) w611 fun w612 =>
                             stC (ad86.add 1) s103.v w612 fun w613 =>
                             stC (ad86.add 2) (Value.int .i64 x120) w613 fun w614 =>
                             stC ad100 (Value.bool b116) w614 fun w615 =>
                             stC (ad100.add 1) s104.v w615 fun w616 =>
                             stC (ad100.add 2) (Value.int .i64 x121) w616 fun w617 =>
                             K3 ad97 ad86 ad100 w617))))))))))) ∧
                  (newC w511 #[Value.bool false, (⟨none, 0, 0⟩ : Slc).v, Value.int .i64 0] 39 fun ad101 w618 =>
                   Bar (V1 0) w511 w618 ∧
                   (Bar (V1 2) w511 w618 ∧
                    (Bar (V1 4) w511 w618 ∧
                     ((Calls Tryd.prog 12 #[Value.agg #[Value.bool b2, s2.v, Value.int .i64 x2]] w618 fun e74 w619 =>
                       ∃ b117 : Bool, ∃ s105 : Slc, ∃ x122 : Int, e74 = .returned (Value.agg #[Value.bool b117, s105.v, Value.int .i64 x122]) ∧
                       (Bar (V1 4) w618 w619 ∧
                        ((Calls Tryd.prog 12 #[Value.agg #[Value.bool b3, s3.v, Value.int .i64 x3]] w619 fun e75 w620 =>
                          ∃ b118 : Bool, ∃ s106 : Slc, ∃ x123 : Int, e75 = .returned (Value.agg #[Value.bool b118, s106.v, Value.int .i64 x123]) ∧
                          (newC w620 #[Value.bool false, (⟨none, 0, 0⟩ : Slc).v, Value.int .i64 0] 39 fun ad102 w621 =>
                           Bar (V1 0) w620 w621 ∧
                           (Bar (V1 2) w620 w621 ∧
                            (Bar (V1 4) w620 w621 ∧
                             (stC ad102 (Value.bool b4) w621 fun w622 =>
                              stC (ad102.add 1) s4.v w622 fun w623 =>
                              stC (ad102.add 2) (Value.int .i64 x4) w623 fun w624 =>
                              stC ad86 (Value.bool b117) w624 fun w625 =>
                              stC (ad86.add 1) s105.v w625 fun w626 =>
                              stC (ad86.add 2) (Value.int .i64 x122) w626 fun w627 =>
                              stC ad101 (Value.bool b118) w627 fun w628 =>
                              stC (ad101.add 1) s106.v w628 fun w629 =>
                              stC (ad101.add 2) (Value.int .i64 x123) w629 fun w630 =>
                              K3 ad102 ad86 ad101 w630))))) ∧
                         (newC w619 #[Value.bool false, (⟨none, 0, 0⟩ : Slc).v, Value.int .i64 0] 39 fun ad103 w631 =>
                          Bar (V1 0) w619 w631 ∧
                          (Bar (V1 2) w619 w631 ∧
                           (Bar (V1 4) w619 w631 ∧
                            (Calls Tryd.prog 12 #[Value.agg #[Value.bool b3, s3.v, Value.int .i64 x3]] w631 fun e76 w632 =>
                             ∃ b119 : Bool, ∃ s107 : Slc, ∃ x124 : Int, e76 = .returned (Value.agg #[Value.bool b119, s107.v, Value.int .i64 x124]) ∧
                             (stC ad103 (Value.bool b4) w632 fun w633 =>
                              stC (ad103.add 1) s4.v w633 fun w634 =>
                              stC (ad103.add 2) (Value.int .i64 x4) w634 fun w635 =>
                              stC ad86 (Value.bool b117) w635 fun w636 =>
                              stC (ad86.add 1) s105.v w636 fun w637 =>
                              stC (ad86.add 2) (Value.int .i64 x122) w637 fun w638 =>
                              stC ad101 (Value.bool b119) w638 fun w639 =>
                              stC (ad101.add 1) s107.v w639 fun w640 =>
                              stC (ad101.add 2) (Value.int .i64 x124) w640 fun w641 =>
                              K3 ad103 ad86 ad101 w641)))))))) ∧
                      (newC w618 #[Value.bool false, (⟨none, 0, 0⟩ : Slc).v, Value.int .i64 0] 39 fun ad104 w642 =>
                       Bar (V1 0) w618 w642 ∧
                       (Bar (V1 2) w618 w642 ∧
                        (Bar (V1 4) w618 w642 ∧
                         (Calls Tryd.prog 12 #[Value.agg #[Value.bool b2, s2.v, Value.int .i64 x2]] w642 fun e77 w643 =>
                          ∃ b120 : Bool, ∃ s108 : Slc, ∃ x125 : Int, e77 = .returned (Value.agg #[Value.bool b120, s108.v, Value.int .i64 x125]) ∧
                          (Bar (V1 4) w642 w643 ∧
                           (Calls Tryd.prog 12 #[Value.agg #[Value.bool b3, s3.v, Value.int .i64 x3]] w643 fun e78 w644 =>
                            ∃ b121 : Bool, ∃ s109 : Slc, ∃ x126 : Int, e78 = .returned (Value.agg #[Value.bool b121, s109.v, Value.int .i64 x126]) ∧
                            (stC ad104 (Value.bool b4) w644 fun w645 =>
                             stC (ad104.add 1) s4.v w645 fun w646 =>
                             stC (ad104.add 2) (Value.int .i64 x4) w646 fun w647 =>
                             stC ad86 (Value.bool b120) w647 fun w648 =>
                             stC (ad86.add 1) s108.v w648 fun w649 =>
                             stC (ad86.add 2) (Value.int .i64 x125) w649 fun w650 =>
                             stC ad101 (Value.bool b121) w650 fun w651 =>
                             stC (ad101.add 1) s109.v w651 fun w652 =>
                             stC (ad101.add 2) (Value.int .i64 x126) w652 fun w653 =>
                             K3 ad104 ad86 ad101 w653)))))))))))))))) ∧
             (newC w4 #[Value.bool false, (⟨none, 0, 0⟩ : Slc).v, Value.int .i64 0] 39 fun ad105 w654 =>
              Bar (V1 0) w4 w654 ∧
              (Bar (V1 2) w4 w654 ∧
               (Bar (V1 4) w4 w654 ∧
                ((Calls Tryd.prog 12 #[Value.agg #[Value.bool b2, s2.v, Value.int .i64 x2]] w654 fun e79 w655 =>
                  ∃ b122 : Bool, ∃ s110 : Slc, ∃ x127 : Int, e79 = .returned (Value.agg #[Value.bool b122, s110.v, Value.int .i64 x127]) ∧
                  (Bar (V1 4) w654 w655 ∧
                   ((Calls Tryd.prog 12 #[Value.agg #[Value.bool b3, s3.v, Value.int .i64 x3]] w655 fun e80 w656 =>
                     ∃ b123 : Bool, ∃ s111 : Slc, ∃ x128 : Int, e80 = .returned (Value.agg #[Value.bool b123, s111.v, Value.int .i64 x128]) ∧
                     ((newC w656 #[Value.bool false, (⟨none, 0, 0⟩ : Slc).v, Value.int .i64 0] 39 fun ad106 w657 =>
                       Bar (V1 0) w656 w657 ∧
                       (Bar (V1 2) w656 w657 ∧
                        (Bar (V1 4) w656 w657 ∧
                         (newC w657 #[Value.bool false, (⟨none, 0, 0⟩ : Slc).v, Value.int .i64 0] 39 fun ad107 w658 =>
                          Bar (V1 0) w657 w658 ∧
                          (Bar (V1 2) w657 w658 ∧
                           (Bar (V1 4) w657 w658 ∧
                            (stC ad106 (Value.bool b4) w658 fun w659 =>
                             stC (ad106.add 1) s4.v w659 fun w660 =>
                             stC (ad106.add 2) (Value.int .i64 x4) w660 fun w661 =>
                             stC ad107 (Value.bool b122) w661 fun w662 =>
                             stC (ad107.add 1) s110.v w662 fun w663 =>
                             stC (ad107.add 2) (Value.int .i64 x127) w663 fun w664 =>
                             stC ad105 (Value.bool b123) w664 fun w665 =>
                             stC (ad105.add 1) s111.v w665 fun w666 =>
                             stC (ad105.add 2) (Value.int .i64 x128) w666 fun w667 =>
                             K3 ad106 ad107 ad105 w667))))))) ∧
                      (newC w656 #[Value.bool false, (⟨none, 0, 0⟩ : Slc).v, Value.int .i64 0] 39 fun ad108 w668 =>
                       Bar (V1 0) w656 w668 ∧
                       (Bar (V1 2) w656 w668 ∧
                        (Bar (V1 4) w656 w668 ∧
                         (newC w668 #[Value.bool false, (⟨none, 0, 0⟩ : Slc).v, Value.int .i64 0] 39 fun ad109 w669 =>
                          Bar (V1 0) w668 w669 ∧
                          (Bar (V1 2) w668 w669 ∧
                           (Bar (V1 4) w668 w669 ∧
                            (stC ad109 (Value.bool b4) w669 fun w670 =>
                             stC (ad109.add 1) s4.v w670 fun w671 =>
                             stC (ad109.add 2) (Value.int .i64 x4) w671 fun w672 =>
                             stC ad108 (Value.bool b122) w672 fun w673 =>
                             stC (ad108.add 1) s110.v w673 fun w674 =>
                             stC (ad108.add 2) (Value.int .i64 x127) w674 fun w675 =>
                             stC ad105 (Value.bool b123) w675 fun w676 =>
                             stC (ad105.add 1) s111.v w676 fun w677 =>
                             stC (ad105.add 2) (Value.int .i64 x128) w677 fun w678 =>
                             K3 ad109 ad108 ad105 w678))))))))) ∧
                    ((newC w655 #[Value.bool false, (⟨none, 0, 0⟩ : Slc).v, Value.int .i64 0] 39 fun ad110 w679 =>
                      Bar (V1 0) w655 w679 ∧
                      (Bar (V1 2) w655 w679 ∧
                       (Bar (V1 4) w655 w679 ∧
                        ((Calls Tryd.prog 12 #[Value.agg #[Value.bool b3, s3.v, Value.int .i64 x3]] w679 fun e81 w680 =>
                          ∃ b124 : Bool, ∃ s112 : Slc, ∃ x129 : Int, e81 = .returned (Value.agg #[Value.bool b124, s112.v, Value.int .i64 x129]) ∧
                          (newC w680 #[Value.bool false, (⟨none, 0, 0⟩ : Slc).v, Value.int .i64 0] 39 fun ad111 w681 =>
                           Bar (V1 0) w680 w681 ∧
                           (Bar (V1 2) w680 w681 ∧
                            (Bar (V1 4) w680 w681 ∧
                             (stC ad110 (Value.bool b4) w681 fun w682 =>
                              stC (ad110.add 1) s4.v w682 fun w683 =>
                              stC (ad110.add 2) (Value.int .i64 x4) w683 fun w684 =>
                              stC ad111 (Value.bool b122) w684 fun w685 =>
                              stC (ad111.add 1) s110.v w685 fun w686 =>
                              stC (ad111.add 2) (Value.int .i64 x127) w686 fun w687 =>
                              stC ad105 (Value.bool b124) w687 fun w688 =>
                              stC (ad105.add 1) s112.v w688 fun w689 =>
                              stC (ad105.add 2) (Value.int .i64 x129) w689 fun w690 =>
                              K3 ad110 ad111 ad105 w690))))) ∧
                         (newC w679 #[Value.bool false, (⟨none, 0, 0⟩ : Slc).v, Value.int .i64 0] 39 fun ad112 w691 =>
                          Bar (V1 0) w679 w691 ∧
                          (Bar (V1 2) w679 w691 ∧
                           (Bar (V1 4) w679 w691 ∧
                            (Calls Tryd.prog 12 #[Value.agg #[Value.bool b3, s3.v, Value.int .i64 x3]] w691 fun e82 w692 =>
                             ∃ b125 : Bool, ∃ s113 : Slc, ∃ x130 : Int, e82 = .returned (Value.agg #[Value.bool b125, s113.v, Value.int .i64 x130]) ∧
                             (stC ad110 (Value.bool b4) w692 fun w693 =>
                              stC (ad110.add 1) s4.v w693 fun w694 =>
                              stC (ad110.add 2) (Value.int .i64 x4) w694 fun w695 =>
                              stC ad112 (Value.bool b122) w695 fun w696 =>
                              stC (ad112.add 1) s110.v w696 fun w697 =>
                              stC (ad112.add 2) (Value.int .i64 x127) w697 fun w698 =>
                              stC ad105 (Value.bool b125) w698 fun w699 =>
                              stC (ad105.add 1) s113.v w699 fun w700 =>
                              stC (ad105.add 2) (Value.int .i64 x130) w700 fun w701 =>
                              K3 ad110 ad112 ad105 w701))))))))) ∧
                     (newC w655 #[Value.bool false, (⟨none, 0, 0⟩ : Slc).v, Value.int .i64 0] 39 fun ad113 w702 =>
                      Bar (V1 0) w655 w702 ∧
                      (Bar (V1 2) w655 w702 ∧
                       (Bar (V1 4) w655 w702 ∧
                        ((Calls Tryd.prog 12 #[Value.agg #[Value.bool b3, s3.v, Value.int .i64 x3]] w702 fun e83 w703 =>
                          ∃ b126 : Bool, ∃ s114 : Slc, ∃ x131 : Int, e83 = .returned (Value.agg #[Value.bool b126, s114.v, Value.int .i64 x131]) ∧
                          (newC w703 #[Value.bool false, (⟨none, 0, 0⟩ : Slc).v, Value.int .i64 0] 39 fun ad114 w704 =>
                           Bar (V1 0) w703 w704 ∧
                           (Bar (V1 2) w703 w704 ∧
                            (Bar (V1 4) w703 w704 ∧
                             (stC ad114 (Value.bool b4) w704 fun w705 =>
                              stC (ad114.add 1) s4.v w705 fun w706 =>
                              stC (ad114.add 2) (Value.int .i64 x4) w706 fun w707 =>
                              stC ad113 (Value.bool b122) w707 fun w708 =>
                              stC (ad113.add 1) s110.v w708 fun w709 =>
                              stC (ad113.add 2) (Value.int .i64 x127) w709 fun w710 =>
                              stC ad105 (Value.bool b126) w710 fun w711 =>
                              stC (ad105.add 1) s114.v w711 fun w712 =>
                              stC (ad105.add 2) (Value.int .i64 x131) w712 fun w713 =>
                              K3 ad114 ad113 ad105 w713))))) ∧
                         (newC w702 #[Value.bool false, (⟨none, 0, 0⟩ : Slc).v, Value.int .i64 0] 39 fun ad115 w714 =>
                          Bar (V1 0) w702 w714 ∧
                          (Bar (V1 2) w702 w714 ∧
                           (Bar (V1 4) w702 w714 ∧
                            (Calls Tryd.prog 12 #[Value.agg #[Value.bool b3, s3.v, Value.int .i64 x3]] w714 fun e84 w715 =>
                             ∃ b127 : Bool, ∃ s115 : Slc, ∃ x132 : Int, e84 = .returned (Value.agg #[Value.bool b127, s115.v, Value.int .i64 x132]) ∧
                             (stC ad115 (Value.bool b4) w715 fun w716 =>
                              stC (ad115.add 1) s4.v w716 fun w717 =>
                              stC (ad115.add 2) (Value.int .i64 x4) w717 fun w718 =>
                              stC ad113 (Value.bool b122) w718 fun w719 =>
                              stC (ad113.add 1) s110.v w719 fun w720 =>
                              stC (ad113.add 2) (Value.int .i64 x127) w720 fun w721 =>
                              stC ad105 (Value.bool b127) w721 fun w722 =>
                              stC (ad105.add 1) s115.v w722 fun w723 =>
                              stC (ad105.add 2) (Value.int .i64 x132) w723 fun w724 =>
                              K3 ad115 ad113 ad105 w724))))))))))))) ∧
                 ((newC w654 #[Value.bool false, (⟨none, 0, 0⟩ : Slc).v, Value.int .i64 0] 39 fun ad116 w725 =>
                   Bar (V1 0) w654 w725 ∧
                   (Bar (V1 2) w654 w725 ∧
                    (Bar (V1 4) w654 w725 ∧
                     ((Calls Tryd.prog 12 #[Value.agg #[Value.bool b2, s2.v, Value.int .i64 x2]] w725 fun e85 w726 =>
                       ∃ b128 : Bool, ∃ s116 : Slc, ∃ x133 : Int, e85 = .returned (Value.agg #[Value.bool b128, s116.v, Value.int .i64 x133]) ∧
                       (Bar (V1 4) w725 w726 ∧
                        ((Calls Tryd.prog 12 #[Value.agg #[Value.bool b3, s3.v, Value.int .i64 x3]] w726 fun e86 w727 =>
                          ∃ b129 : Bool, ∃ s117 : Slc, ∃ x134 : Int, e86 = .returned (Value.agg #[Value.bool b129, s117.v, Value.int .i64 x134]) ∧
                          (newC w727 #[Value.bool false, (⟨none, 0, 0⟩ : Slc).v, Value.int .i64 0] 39 fun ad117 w728 =>
                           Bar (V1 0) w727 w728 ∧
                           (Bar (V1 2) w727 w728 ∧
                            (Bar (V1 4) w727 w728 ∧
                             (stC ad116 (Value.bool b4) w728 fun w729 =>
                              stC (ad116.add 1) s4.v w729 fun w730 =>
                              stC (ad116.add 2) (Value.int .i64 x4) w730 fun w731 =>
                              stC ad117 (Value.bool b128) w731 fun w732 =>
                              stC (ad117.add 1) s116.v w732 fun w733 =>
                              stC (ad117.add 2) (Value.int .i64 x133) w733 fun w734 =>
                              stC ad105 (Value.bool b129) w734 fun w735 =>
                              stC (ad105.add 1) s117.v w735 fun w736 =>
                              stC (ad105.add 2) (Value.int .i64 x134) w736 fun w737 =>
                              K3 ad116 ad117 ad105 w737))))) ∧
                         (newC w726 #[Value.bool false, (⟨none, 0, 0⟩ : Slc).v, Value.int .i64 0] 39 fun ad118 w738 =>
                          Bar (V1 0) w726 w738 ∧
                          (Bar (V1 2) w726 w738 ∧
                           (Bar (V1 4) w726 w738 ∧
                            (Calls Tryd.prog 12 #[Value.agg #[Value.bool b3, s3.v, Value.int .i64 x3]] w738 fun e87 w739 =>
                             ∃ b130 : Bool, ∃ s118 : Slc, ∃ x135 : Int, e87 = .returned (Value.agg #[Value.bool b130, s118.v, Value.int .i64 x135]) ∧
                             (stC ad116 (Value.bool b4) w739 fun w740 =>
                              stC (ad116.add 1) s4.v w740 fun w741 =>
                              stC (ad116.add 2) (Value.int .i64 x4) w741 fun w742 =>
                              stC ad118 (Value.bool b128) w742 fun w743 =>
                              stC (ad118.add 1) s116.v w743 fun w744 =>
                              stC (ad118.add 2) (Value.int .i64 x133) w744 fun w745 =>
                              stC ad105 (Value.bool b130) w745 fun w746 =>
                              stC (ad105.add 1) s118.v w746 fun w747 =>
                              stC (ad105.add 2) (Value.int .i64 x135) w747 fun w748 =>
                              K3 ad116 ad118 ad105 w748)))))))) ∧
                      (newC w725 #[Value.bool false, (⟨none, 0, 0⟩ : Slc).v, Value.int .i64 0] 39 fun ad119 w749 =>
                       Bar (V1 0) w725 w749 ∧
                       (Bar (V1 2) w725 w749 ∧
                        (Bar (V1 4) w725 w749 ∧
                         (Calls Tryd.prog 12 #[Value.agg #[Value.bool b2, s2.v, Value.int .i64 x2]] w749 fun e88 w750 =>
                          ∃ b131 : Bool, ∃ s119 : Slc, ∃ x136 : Int, e88 = .returned (Value.agg #[Value.bool b131, s119.v, Value.int .i64 x136]) ∧
                          (Bar (V1 4) w749 w750 ∧
                           (Calls Tryd.prog 12 #[Value.agg #[Value.bool b3, s3.v, Value.int .i64 x3]] w750 fun e89 w751 =>
                            ∃ b132 : Bool, ∃ s120 : Slc, ∃ x137 : Int, e89 = .returned (Value.agg #[Value.bool b132, s120.v, Value.int .i64 x137]) ∧
                            (stC ad116 (Value.bool b4) w751 fun w752 =>
                             stC (ad116.add 1) s4.v w752 fun w753 =>
                             stC (ad116.add 2) (Value.int .i64 x4) w753 fun w754 =>
                             stC ad119 (Value.bool b131) w754 fun w755 =>
                             stC (ad119.add 1) s119.v w755 fun w756 =>
                             stC (ad119.add 2) (Value.int .i64 x136) w756 fun w757 =>
                             stC ad105 (Value.bool b132) w757 fun w758 =>
                             stC (ad105.add 1) s120.v w758 fun w759 =>
                             stC (ad105.add 2) (Value.int .i64 x137) w759 fun w760 =>
                             K3 ad116 ad119 ad105 w760))))))))))) ∧
                  (newC w654 #[Value.bool false, (⟨none, 0, 0⟩ : Slc).v, Value.int .i64 0] 39 fun ad120 w761 =>
                   Bar (V1 0) w654 w761 ∧
                   (Bar (V1 2) w654 w761 ∧
                    (Bar (V1 4) w654 w761 ∧
                     ((Calls Tryd.prog 12 #[Value.agg #[Value.bool b2, s2.v, Value.int .i64 x2]] w761 fun e90 w762 =>
                       ∃ b133 : Bool, ∃ s121 : Slc, ∃ x138 : Int, e90 = .returned (Value.agg #[Value.bool b133, s121.v, Value.int .i64 x138]) ∧
                       (Bar (V1 4) w761 w762 ∧
                        ((Calls Tryd.prog 12 #[Value.agg #[Value.bool b3, s3.v, Value.int .i64 x3]] w762 fun e91 w763 =>
                          ∃ b134 : Bool, ∃ s122 : Slc, ∃ x139 : Int, e91 = .returned (Value.agg #[Value.bool b134, s122.v, Value.int .i64 x139]) ∧
                          (newC w763 #[Value.bool false, (⟨none, 0, 0⟩ : Slc).v, Value.int .i64 0] 39 fun ad121 w764 =>
                           Bar (V1 0) w763 w764 ∧
                           (Bar (V1 2) w763 w764 ∧
                            (Bar (V1 4) w763 w764 ∧
                             (stC ad121 (Value.bool b4) w764 fun w765 =>
                              stC (ad121.add 1) s4.v w765 fun w766 =>
                              stC (ad121.add 2) (Value.int .i64 x4) w766 fun w767 =>
                              stC ad120 (Value.bool b133) w767 fun w768 =>
                              stC (ad120.add 1) s121.v w768 fun w769 =>
                              stC (ad120.add 2) (Value.int .i64 x138) w769 fun w770 =>
                              stC ad105 (Value.bool b134) w770 fun w771 =>
                              stC (ad105.add 1) s122.v w771 fun w772 =>
                              stC (ad105.add 2) (Value.int .i64 x139) w772 fun w773 =>
                              K3 ad121 ad120 ad105 w773))))) ∧
                         (newC w762 #[Value.bool false, (⟨none, 0, 0⟩ : Slc).v, Value.int .i64 0] 39 fun ad122 w774 =>
                          Bar (V1 0) w762 w774 ∧
                          (Bar (V1 2) w762 w774 ∧
                           (Bar (V1 4) w762 w774 ∧
                            (Calls Tryd.prog 12 #[Value.agg #[Value.bool b3, s3.v, Value.int .i64 x3]] w774 fun e92 w775 =>
                             ∃ b135 : Bool, ∃ s123 : Slc, ∃ x140 : Int, e92 = .returned (Value.agg #[Value.bool b135, s123.v, Value.int .i64 x140]) ∧
                             (stC ad122 (Value.bool b4) w775 fun w776 =>
                              stC (ad122.add 1) s4.v w776 fun w777 =>
                              stC (ad122.add 2) (Value.int .i64 x4) w777 fun w778 =>
                              stC ad120 (Value.bool b133) w778 fun w779 =>
                              stC (ad120.add 1) s121.v w779 fun w780 =>
                              stC (ad120.add 2) (Value.int .i64 x138) w780 fun w781 =>
                              stC ad105 (Value.bool b135) w781 fun w782 =>
                              stC (ad105.add 1) s123.v w782 fun w783 =>
                              stC (ad105.add 2) (Value.int .i64 x140) w783 fun w784 =>
                              K3 ad122 ad120 ad105 w784)))))))) ∧
                      (newC w761 #[Value.bool false, (⟨none, 0, 0⟩ : Slc).v, Value.int .i64 0] 39 fun ad123 w785 =>
                       Bar (V1 0) w761 w785 ∧
                       (Bar (V1 2) w761 w785 ∧
                        (Bar (V1 4) w761 w785 ∧
                         (Calls Tryd.prog 12 #[Value.agg #[Value.bool b2, s2.v, Value.int .i64 x2]] w785 fun e93 w786 =>
                          ∃ b136 : Bool, ∃ s124 : Slc, ∃ x141 : Int, e93 = .returned (Value.agg #[Value.bool b136, s124.v, Value.int .i64 x141]) ∧
                          (Bar (V1 4) w785 w786 ∧
                           (Calls Tryd.prog 12 #[Value.agg #[Value.bool b3, s3.v, Value.int .i64 x3]] w786 fun e94 w787 =>
                            ∃ b137 : Bool, ∃ s125 : Slc, ∃ x142 : Int, e94 = .returned (Value.agg #[Value.bool b137, s125.v, Value.int .i64 x142]) ∧
                            (stC ad123 (Value.bool b4) w787 fun w788 =>
                             stC (ad123.add 1) s4.v w788 fun w789 =>
                             stC (ad123.add 2) (Value.int .i64 x4) w789 fun w790 =>
                             stC ad120 (Value.bool b136) w790 fun w791 =>
                             stC (ad120.add 1) s124.v w791 fun w792 =>
                             stC (ad120.add 2) (Value.int .i64 x141) w792 fun w793 =>
                             stC ad105 (Value.bool b137) w793 fun w794 =>
                             stC (ad105.add 1) s125.v w794 fun w795 =>
                             stC (ad105.add 2) (Value.int .i64 x142) w795 fun w796 =>
                             K3 ad123 ad120 ad105 w796)))))))))))))))))))))) ∧
       ((newC w3.drew #[Value.bool false, (⟨none, 0, 0⟩ : Slc).v, Value.int .i64 0] 39 fun ad124 w797 =>
         Bar (V1 0) w3.drew w797 ∧
         (Bar (V1 2) w3.drew w797 ∧
          (Bar (V1 4) w3.drew w797 ∧
           ((Calls Tryd.prog 12 #[Value.agg #[Value.bool b1, s1.v, Value.int .i64 x1]] w797 fun e95 w798 =>
             ∃ b138 : Bool, ∃ s126 : Slc, ∃ x143 : Int, e95 = .returned (Value.agg #[Value.bool b138, s126.v, Value.int .i64 x143]) ∧
             (Bar (V1 2) w797 w798 ∧
              (Bar (V1 4) w797 w798 ∧
               ((Calls Tryd.prog 12 #[Value.agg #[Value.bool b2, s2.v, Value.int .i64 x2]] w798 fun e96 w799 =>
                 ∃ b139 : Bool, ∃ s127 : Slc, ∃ x144 : Int, e96 = .returned (Value.agg #[Value.bool b139, s127.v, Value.int .i64 x144]) ∧
                 (Bar (V1 4) w798 w799 ∧
                  ((Calls Tryd.prog 12 #[Value.agg #[Value.bool b3, s3.v, Value.int .i64 x3]] w799 fun e97 w800 =>
                    ∃ b140 : Bool, ∃ s128 : Slc, ∃ x145 : Int, e97 = .returned (Value.agg #[Value.bool b140, s128.v, Value.int .i64 x145]) ∧
                    ((newC w800 #[Value.bool false, (⟨none, 0, 0⟩ : Slc).v, Value.int .i64 0] 39 fun ad125 w801 =>
                      Bar (V1 0) w800 w801 ∧
                      (Bar (V1 2) w800 w801 ∧
                       (Bar (V1 4) w800 w801 ∧
                        (newC w801 #[Value.bool false, (⟨none, 0, 0⟩ : Slc).v, Value.int .i64 0] 39 fun ad126 w802 =>
                         Bar (V1 0) w801 w802 ∧
                         (Bar (V1 2) w801 w802 ∧
                          (Bar (V1 4) w801 w802 ∧
                           (stC ad124 (Value.bool b138) w802 fun w803 =>
                            stC (ad124.add 1) s126.v w803 fun w804 =>
                            stC (ad124.add 2) (Value.int .i64 x143) w804 fun w805 =>
                            stC ad125 (Value.bool b139) w805 fun w806 =>
                            stC (ad125.add 1) s127.v w806 fun w807 =>
                            stC (ad125.add 2) (Value.int .i64 x144) w807 fun w808 =>
                            stC ad126 (Value.bool b140) w808 fun w809 =>
                            stC (ad126.add 1) s128.v w809 fun w810 =>
                            stC (ad126.add 2) (Value.int .i64 x145) w810 fun w811 =>
                            K3 ad124 ad125 ad126 w811))))))) ∧
                     (newC w800 #[Value.bool false, (⟨none, 0, 0⟩ : Slc).v, Value.int .i64 0] 39 fun ad127 w812 =>
                      Bar (V1 0) w800 w812 ∧
                      (Bar (V1 2) w800 w812 ∧
                       (Bar (V1 4) w800 w812 ∧
                        (newC w812 #[Value.bool false, (⟨none, 0, 0⟩ : Slc).v, Value.int .i64 0] 39 fun ad128 w813 =>
                         Bar (V1 0) w812 w813 ∧
                         (Bar (V1 2) w812 w813 ∧
                          (Bar (V1 4) w812 w813 ∧
                           (stC ad124 (Value.bool b138) w813 fun w814 =>
                            stC (ad124.add 1) s126.v w814 fun w815 =>
                            stC (ad124.add 2) (Value.int .i64 x143) w815 fun w816 =>
                            stC ad128 (Value.bool b139) w816 fun w817 =>
                            stC (ad128.add 1) s127.v w817 fun w818 =>
                            stC (ad128.add 2) (Value.int .i64 x144) w818 fun w819 =>
                            stC ad127 (Value.bool b140) w819 fun w820 =>
                            stC (ad127.add 1) s128.v w820 fun w821 =>
                            stC (ad127.add 2) (Value.int .i64 x145) w821 fun w822 =>
                            K3 ad124 ad128 ad127 w822))))))))) ∧
                   ((newC w799 #[Value.bool false, (⟨none, 0, 0⟩ : Slc).v, Value.int .i64 0] 39 fun ad129 w823 =>
                     Bar (V1 0) w799 w823 ∧
                     (Bar (V1 2) w799 w823 ∧
                      (Bar (V1 4) w799 w823 ∧
                       ((Calls Tryd.prog 12 #[Value.agg #[Value.bool b3, s3.v, Value.int .i64 x3]] w823 fun e98 w824 =>
                         ∃ b141 : Bool, ∃ s129 : Slc, ∃ x146 : Int, e98 = .returned (Value.agg #[Value.bool b141, s129.v, Value.int .i64 x146]) ∧
                         (newC w824 #[Value.bool false, (⟨none, 0, 0⟩ : Slc).v, Value.int .i64 0] 39 fun ad130 w825 =>
                          Bar (V1 0) w824 w825 ∧
                          (Bar (V1 2) w824 w825 ∧
                           (Bar (V1 4) w824 w825 ∧
                            (stC ad124 (Value.bool b138) w825 fun w826 =>
                             stC (ad124.add 1) s126.v w826 fun w827 =>
                             stC (ad124.add 2) (Value.int .i64 x143) w827 fun w828 =>
                             stC ad129 (Value.bool b139) w828 fun w829 =>
                             stC (ad129.add 1) s127.v w829 fun w830 =>
                             stC (ad129.add 2) (Value.int .i64 x144) w830 fun w831 =>
                             stC ad130 (Value.bool b141) w831 fun w832 =>
                             stC (ad130.add 1) s129.v w832 fun w833 =>
                             stC (ad130.add 2) (Value.int .i64 x146) w833 fun w834 =>
                             K3 ad124 ad129 ad130 w834))))) ∧
                        (newC w823 #[Value.bool false, (⟨none, 0, 0⟩ : Slc).v, Value.int .i64 0] 39 fun ad131 w835 =>
                         Bar (V1 0) w823 w835 ∧
                         (Bar (V1 2) w823 w835 ∧
                          (Bar (V1 4) w823 w835 ∧
                           (Calls Tryd.prog 12 #[Value.agg #[Value.bool b3, s3.v, Value.int .i64 x3]] w835 fun e99 w836 =>
                            ∃ b142 : Bool, ∃ s130 : Slc, ∃ x147 : Int, e99 = .returned (Value.agg #[Value.bool b142, s130.v, Value.int .i64 x147]) ∧
                            (stC ad124 (Value.bool b138) w836 fun w837 =>
                             stC (ad124.add 1) s126.v w837 fun w838 =>
                             stC (ad124.add 2) (Value.int .i64 x143) w838 fun w839 =>
                             stC ad129 (Value.bool b139) w839 fun w840 =>
                             stC (ad129.add 1) s127.v w840 fun w841 =>
                             stC (ad129.add 2) (Value.int .i64 x144) w841 fun w842 =>
                             stC ad131 (Value.bool b142) w842 fun w843 =>
                             stC (ad131.add 1) s130.v w843 fun w844 =>
                             stC (ad131.add 2) (Value.int .i64 x147) w844 fun w845 =>
                             K3 ad124 ad129 ad131 w845))))))))) ∧
                    (newC w799 #[Value.bool false, (⟨none, 0, 0⟩ : Slc).v, Value.int .i64 0] 39 fun ad132 w846 =>
                     Bar (V1 0) w799 w846 ∧
                     (Bar (V1 2) w799 w846 ∧
                      (Bar (V1 4) w799 w846 ∧
                       ((Calls Tryd.prog 12 #[Value.agg #[Value.bool b3, s3.v, Value.int .i64 x3]] w846 fun e100 w847 =>
                         ∃ b143 : Bool, ∃ s131 : Slc, ∃ x148 : Int, e100 = .returned (Value.agg #[Value.bool b143, s131.v, Value.int .i64 x148]) ∧
                         (newC w847 #[Value.bool false, (⟨none, 0, 0⟩ : Slc).v, Value.int .i64 0] 39 fun ad133 w848 =>
                          Bar (V1 0) w847 w848 ∧
                          (Bar (V1 2) w847 w848 ∧
                           (Bar (V1 4) w847 w848 ∧
                            (stC ad124 (Value.bool b138) w848 fun w849 =>
                             stC (ad124.add 1) s126.v w849 fun w850 =>
                             stC (ad124.add 2) (Value.int .i64 x143) w850 fun w851 =>
                             stC ad133 (Value.bool b139) w851 fun w852 =>
                             stC (ad133.add 1) s127.v w852 fun w853 =>
                             stC (ad133.add 2) (Value.int .i64 x144) w853 fun w854 =>
                             stC ad132 (Value.bool b143) w854 fun w855 =>
                             stC (ad132.add 1) s131.v w855 fun w856 =>
                             stC (ad132.add 2) (Value.int .i64 x148) w856 fun w857 =>
                             K3 ad124 ad133 ad132 w857))))) ∧
                        (newC w846 #[Value.bool false, (⟨none, 0, 0⟩ : Slc).v, Value.int .i64 0] 39 fun ad134 w858 =>
                         Bar (V1 0) w846 w858 ∧
                         (Bar (V1 2) w846 w858 ∧
                          (Bar (V1 4) w846 w858 ∧
                           (Calls Tryd.prog 12 #[Value.agg #[Value.bool b3, s3.v, Value.int .i64 x3]] w858 fun e101 w859 =>
                            ∃ b144 : Bool, ∃ s132 : Slc, ∃ x149 : Int, e101 = .returned (Value.agg #[Value.bool b144, s132.v, Value.int .i64 x149]) ∧
                            (stC ad124 (Value.bool b138) w859 fun w860 =>
                             stC (ad124.add 1) s126.v w860 fun w861 =>
                             stC (ad124.add 2) (Value.int .i64 x143) w861 fun w862 =>
                             stC ad134 (Value.bool b139) w862 fun w863 =>
                             stC (ad134.add 1) s127.v w863 fun w864 =>
                             stC (ad134.add 2) (Value.int .i64 x144) w864 fun w865 =>
                             stC ad132 (Value.bool b144) w865 fun w866 =>
                             stC (ad132.add 1) s132.v w866 fun w867 =>
                             stC (ad132.add 2) (Value.int .i64 x149) w867 fun w868 =>
                             K3 ad124 ad134 ad132 w868))))))))))))) ∧
                ((newC w798 #[Value.bool false, (⟨none, 0, 0⟩ : Slc).v, Value.int .i64 0] 39 fun ad135 w869 =>
                  Bar (V1 0) w798 w869 ∧
                  (Bar (V1 2) w798 w869 ∧
                   (Bar (V1 4) w798 w869 ∧
                    ((Calls Tryd.prog 12 #[Value.agg #[Value.bool b2, s2.v, Value.int .i64 x2]] w869 fun e102 w870 =>
                      ∃ b145 : Bool, ∃ s133 : Slc, ∃ x150 : Int, e102 = .returned (Value.agg #[Value.bool b145, s133.v, Value.int .i64 x150]) ∧
                      (Bar (V1 4) w869 w870 ∧
                       ((Calls Tryd.prog 12 #[Value.agg #[Value.bool b3, s3.v, Value.int .i64 x3]] w870 fun e103 w871 =>
                         ∃ b146 : Bool, ∃ s134 : Slc, ∃ x151 : Int, e103 = .returned (Value.agg #[Value.bool b146, s134.v, Value.int .i64 x151]) ∧
                         (newC w871 #[Value.bool false, (⟨none, 0, 0⟩ : Slc).v, Value.int .i64 0] 39 fun ad136 w872 =>
                          Bar (V1 0) w871 w872 ∧
                          (Bar (V1 2) w871 w872 ∧
                           (Bar (V1 4) w871 w872 ∧
                            (stC ad124 (Value.bool b138) w872 fun w873 =>
                             stC (ad124.add 1) s126.v w873 fun w874 =>
                             stC (ad124.add 2) (Value.int .i64 x143) w874 fun w875 =>
                             stC ad135 (Value.bool b145) w875 fun w876 =>
                             stC (ad135.add 1) s133.v w876 fun w877 =>
                             stC (ad135.add 2) (Value.int .i64 x150) w877 fun w878 =>
                             stC ad136 (Value.bool b146) w878 fun w879 =>
                             stC (ad136.add 1) s134.v w879 fun w880 =>
                             stC (ad136.add 2) (Value.int .i64 x151) w880 fun w881 =>
                             K3 ad124 ad135 ad136 w881))))) ∧
                        (newC w870 #[Value.bool false, (⟨none, 0, 0⟩ : Slc).v, Value.int .i64 0] 39 fun ad137 w882 =>
                         Bar (V1 0) w870 w882 ∧
                         (Bar (V1 2) w870 w882 ∧
                          (Bar (V1 4) w870 w882 ∧
                           (Calls Tryd.prog 12 #[Value.agg #[Value.bool b3, s3.v, Value.int .i64 x3]] w882 fun e104 w883 =>
                            ∃ b147 : Bool, ∃ s135 : Slc, ∃ x152 : Int, e104 = .returned (Value.agg #[Value.bool b147, s135.v, Value.int .i64 x152]) ∧
                            (stC ad124 (Value.bool b138) w883 fun w884 =>
                             stC (ad124.add 1) s126.v w884 fun w885 =>
                             stC (ad124.add 2) (Value.int .i64 x143) w885 fun w886 =>
                             stC ad135 (Value.bool b145) w886 fun w887 =>
                             stC (ad135.add 1) s133.v w887 fun w888 =>
                             stC (ad135.add 2) (Value.int .i64 x150) w888 fun w889 =>
                             stC ad137 (Value.bool b147) w889 fun w890 =>
                             stC (ad137.add 1) s135.v w890 fun w891 =>
                             stC (ad137.add 2) (Value.int .i64 x152) w891 fun w892 =>
                             K3 ad124 ad135 ad137 w892)))))))) ∧
                     (newC w869 #[Value.bool false, (⟨none, 0, 0⟩ : Slc).v, Value.int .i64 0] 39 fun ad138 w893 =>
                      Bar (V1 0) w869 w893 ∧
                      (Bar (V1 2) w869 w893 ∧
                       (Bar (V1 4) w869 w893 ∧
                        (Calls Tryd.prog 12 #[Value.agg #[Value.bool b2, s2.v, Value.int .i64 x2]] w893 fun e105 w894 =>
                         ∃ b148 : Bool, ∃ s136 : Slc, ∃ x153 : Int, e105 = .returned (Value.agg #[Value.bool b148, s136.v, Value.int .i64 x153]) ∧
                         (Bar (V1 4) w893 w894 ∧
                          (Calls Tryd.prog 12 #[Value.agg #[Value.bool b3, s3.v, Value.int .i64 x3]] w894 fun e106 w895 =>
                           ∃ b149 : Bool, ∃ s137 : Slc, ∃ x154 : Int, e106 = .returned (Value.agg #[Value.bool b149, s137.v, Value.int .i64 x154]) ∧
                           (stC ad124 (Value.bool b138) w895 fun w896 =>
                            stC (ad124.add 1) s126.v w896 fun w897 =>
                            stC (ad124.add 2) (Value.int .i64 x143) w897 fun w898 =>
                            stC ad135 (Value.bool b148) w898 fun w899 =>
                            stC (ad135.add 1) s136.v w899 fun w900 =>
                            stC (ad135.add 2) (Value.int .i64 x153) w900 fun w901 =>
                            stC ad138 (Value.bool b149) w901 fun w902 =>
                            stC (ad138.add 1) s137.v w902 fun w903 =>
                            stC (ad138.add 2) (Value.int .i64 x154) w903 fun w904 =>
                            K3 ad124 ad135 ad138 w904))))))))))) ∧
                 (newC w798 #[Value.bool false, (⟨none, 0, 0⟩ : Slc).v, Value.int .i64 0] 39 fun ad139 w905 =>
                  Bar (V1 0) w798 w905 ∧
                  (Bar (V1 2) w798 w905 ∧
                   (Bar (V1 4) w798 w905 ∧
                    ((Calls Tryd.prog 12 #[Value.agg #[Value.bool b2, s2.v, Value.int .i64 x2]] w905 fun e107 w906 =>
                      ∃ b150 : Bool, ∃ s138 : Slc, ∃ x155 : Int, e107 = .returned (Value.agg #[Value.bool b150, s138.v, Value.int .i64 x155]) ∧
                      (Bar (V1 4) w905 w906 ∧
                       ((Calls Tryd.prog 12 #[Value.agg #[Value.bool b3, s3.v, Value.int .i64 x3]] w906 fun e108 w907 =>
                         ∃ b151 : Bool, ∃ s139 : Slc, ∃ x156 : Int, e108 = .returned (Value.agg #[Value.bool b151, s139.v, Value.int .i64 x156]) ∧
                         (newC w907 #[Value.bool false, (⟨none, 0, 0⟩ : Slc).v, Value.int .i64 0] 39 fun ad140 w908 =>
                          Bar (V1 0) w907 w908 ∧
                          (Bar (V1 2) w907 w908 ∧
                           (Bar (V1 4) w907 w908 ∧
                            (stC ad124 (Value.bool b138) w908 fun w909 =>
                             stC (ad124.add 1) s126.v w909 fun w910 =>
                             stC (ad124.add 2) (Value.int .i64 x143) w910 fun w911 =>
                             stC ad140 (Value.bool b150) w911 fun w912 =>
                             stC (ad140.add 1) s138.v w912 fun w913 =>
                             stC (ad140.add 2) (Value.int .i64 x155) w913 fun w914 =>
                             stC ad139 (Value.bool b151) w914 fun w915 =>
                             stC (ad139.add 1) s139.v w915 fun w916 =>
                             stC (ad139.add 2) (Value.int .i64 x156) w916 fun w917 =>
                             K3 ad124 ad140 ad139 w917))))) ∧
                        (newC w906 #[Value.bool false, (⟨none, 0, 0⟩ : Slc).v, Value.int .i64 0] 39 fun ad141 w918 =>
                         Bar (V1 0) w906 w918 ∧
                         (Bar (V1 2) w906 w918 ∧
                          (Bar (V1 4) w906 w918 ∧
                           (Calls Tryd.prog 12 #[Value.agg #[Value.bool b3, s3.v, Value.int .i64 x3]] w918 fun e109 w919 =>
                            ∃ b152 : Bool, ∃ s140 : Slc, ∃ x157 : Int, e109 = .returned (Value.agg #[Value.bool b152, s140.v, Value.int .i64 x157]) ∧
                            (stC ad124 (Value.bool b138) w919 fun w920 =>
                             stC (ad124.add 1) s126.v w920 fun w921 =>
                             stC (ad124.add 2) (Value.int .i64 x143) w921 fun w922 =>
                             stC ad141 (Value.bool b150) w922 fun w923 =>
                             stC (ad141.add 1) s138.v w923 fun w924 =>
                             stC (ad141.add 2) (Value.int .i64 x155) w924 fun w925 =>
                             stC ad139 (Value.bool b152) w925 fun w926 =>
                             stC (ad139.add 1) s140.v w926 fun w927 =>
                             stC (ad139.add 2) (Value.int .i64 x157) w927 fun w928 =>
                             K3 ad124 ad141 ad139 w928)))))))) ∧
                     (newC w905 #[Value.bool false, (⟨none, 0, 0⟩ : Slc).v, Value.int .i64 0] 39 fun ad142 w929 =>
                      Bar (V1 0) w905 w929 ∧
                      (Bar (V1 2) w905 w929 ∧
                       (Bar (V1 4) w905 w929 ∧
                        (Calls Tryd.prog 12 #[Value.agg #[Value.bool b2, s2.v, Value.int .i64 x2]] w929 fun e110 w930 =>
                         ∃ b153 : Bool, ∃ s141 : Slc, ∃ x158 : Int, e110 = .returned (Value.agg #[Value.bool b153, s141.v, Value.int .i64 x158]) ∧
                         (Bar (V1 4) w929 w930 ∧
                          (Calls Tryd.prog 12 #[Value.agg #[Value.bool b3, s3.v, Value.int .i64 x3]] w930 fun e111 w931 =>
                           ∃ b154 : Bool, ∃ s142 : Slc, ∃ x159 : Int, e111 = .returned (Value.agg #[Value.bool b154, s142.v, Value.int .i64 x159]) ∧
                           (stC ad124 (Value.bool b138) w931 fun w932 =>
                            stC (ad124.add 1) s126.v w932 fun w933 =>
                            stC (ad124.add 2) (Value.int .i64 x143) w933 fun w934 =>
                            stC ad142 (Value.bool b153) w934 fun w935 =>
                            stC (ad142.add 1) s141.v w935 fun w936 =>
                            stC (ad142.add 2) (Value.int .i64 x158) w936 fun w937 =>
                            stC ad139 (Value.bool b154) w937 fun w938 =>
                            stC (ad139.add 1) s142.v w938 fun w939 =>
                            stC (ad139.add 2) (Value.int .i64 x159) w939 fun w940 =>
                            K3 ad124 ad142 ad139 w940)))))))))))))))) ∧
            ((newC w797 #[Value.bool false, (⟨none, 0, 0⟩ : Slc).v, Value.int .i64 0] 39 fun ad143 w941 =>
              Bar (V1 0) w797 w941 ∧
              (Bar (V1 2) w797 w941 ∧
               (Bar (V1 4) w797 w941 ∧
                ((Calls Tryd.prog 12 #[Value.agg #[Value.bool b1, s1.v, Value.int .i64 x1]] w941 fun e112 w942 =>
                  ∃ b155 : Bool, ∃ s143 : Slc, ∃ x160 : Int, e112 = .returned (Value.agg #[Value.bool b155, s143.v, Value.int .i64 x160]) ∧
                  (Bar (V1 2) w941 w942 ∧
                   (Bar (V1 4) w941 w942 ∧
                    ((Calls Tryd.prog 12 #[Value.agg #[Value.bool b2, s2.v, Value.int .i64 x2]] w942 fun e113 w943 =>
                      ∃ b156 : Bool, ∃ s144 : Slc, ∃ x161 : Int, e113 = .returned (Value.agg #[Value.bool b156, s144.v, Value.int .i64 x161]) ∧
                      (Bar (V1 4) w942 w943 ∧
                       ((Calls Tryd.prog 12 #[Value.agg #[Value.bool b3, s3.v, Value.int .i64 x3]] w943 fun e114 w944 =>
                         ∃ b157 : Bool, ∃ s145 : Slc, ∃ x162 : Int, e114 = .returned (Value.agg #[Value.bool b157, s145.v, Value.int .i64 x162]) ∧
                         (newC w944 #[Value.bool false, (⟨none, 0, 0⟩ : Slc).v, Value.int .i64 0] 39 fun ad144 w945 =>
                          Bar (V1 0) w944 w945 ∧
                          (Bar (V1 2) w944 w945 ∧
                           (Bar (V1 4) w944 w945 ∧
                            (stC ad124 (Value.bool b155) w945 fun w946 =>
                             stC (ad124.add 1) s143.v w946 fun w947 =>
                             stC (ad124.add 2) (Value.int .i64 x160) w947 fun w948 =>
                             stC ad143 (Value.bool b156) w948 fun w949 =>
                             stC (ad143.add 1) s144.v w949 fun w950 =>
                             stC (ad143.add 2) (Value.int .i64 x161) w950 fun w951 =>
                             stC ad144 (Value.bool b157) w951 fun w952 =>
                             stC (ad144.add 1) s145.v w952 fun w953 =>
                             stC (ad144.add 2) (Value.int .i64 x162) w953 fun w954 =>
                             K3 ad124 ad143 ad144 w954))))) ∧
                        (newC w943 #[Value.bool false, (⟨none, 0, 0⟩ : Slc).v, Value.int .i64 0] 39 fun ad145 w955 =>
                         Bar (V1 0) w943 w955 ∧
                         (Bar (V1 2) w943 w955 ∧
                          (Bar (V1 4) w943 w955 ∧
                           (Calls Tryd.prog 12 #[Value.agg #[Value.bool b3, s3.v, Value.int .i64 x3]] w955 fun e115 w956 =>
                            ∃ b158 : Bool, ∃ s146 : Slc, ∃ x163 : Int, e115 = .returned (Value.agg #[Value.bool b158, s146.v, Value.int .i64 x163]) ∧
                            (stC ad124 (Value.bool b155) w956 fun w957 =>
                             stC (ad124.add 1) s143.v w957 fun w958 =>
                             stC (ad124.add 2) (Value.int .i64 x160) w958 fun w959 =>
                             stC ad143 (Value.bool b156) w959 fun w960 =>
                             stC (ad143.add 1) s144.v w960 fun w961 =>
                             stC (ad143.add 2) (Value.int .i64 x161) w961 fun w962 =>
                             stC ad145 (Value.bool b158) w962 fun w963 =>
                             stC (ad145.add 1) s146.v w963 fun w964 =>
                             stC (ad145.add 2) (Value.int .i64 x163) w964 fun w965 =>
                             K3 ad124 ad143 ad145 w965)))))))) ∧
                     (newC w942 #[Value.bool false, (⟨none, 0, 0⟩ : Slc).v, Value.int .i64 0] 39 fun ad146 w966 =>
                      Bar (V1 0) w942 w966 ∧
                      (Bar (V1 2) w942 w966 ∧
                       (Bar (V1 4) w942 w966 ∧
                        (Calls Tryd.prog 12 #[Value.agg #[Value.bool b2, s2.v, Value.int .i64 x2]] w966 fun e116 w967 =>
                         ∃ b159 : Bool, ∃ s147 : Slc, ∃ x164 : Int, e116 = .returned (Value.agg #[Value.bool b159, s147.v, Value.int .i64 x164]) ∧
                         (Bar (V1 4) w966 w967 ∧
                          (Calls Tryd.prog 12 #[Value.agg #[Value.bool b3, s3.v, Value.int .i64 x3]] w967 fun e117 w968 =>
                           ∃ b160 : Bool, ∃ s148 : Slc, ∃ x165 : Int, e117 = .returned (Value.agg #[Value.bool b160, s148.v, Value.int .i64 x165]) ∧
                           (stC ad124 (Value.bool b155) w968 fun w969 =>
                            stC (ad124.add 1) s143.v w969 fun w970 =>
                            stC (ad124.add 2) (Value.int .i64 x160) w970 fun w971 =>
                            stC ad143 (Value.bool b159) w971 fun w972 =>
                            stC (ad143.add 1) s147.v w972 fun w973 =>
                            stC (ad143.add 2) (Value.int .i64 x164) w973 fun w974 =>
                            stC ad146 (Value.bool b160) w974 fun w975 =>
                            stC (ad146.add 1) s148.v w975 fun w976 =>
                            stC (ad146.add 2) (Value.int .i64 x165) w976 fun w977 =>
                            K3 ad124 ad143 ad146 w977))))))))))) ∧
                 (newC w941 #[Value.bool false, (⟨none, 0, 0⟩ : Slc).v, Value.int .i64 0] 39 fun ad147 w978 =>
                  Bar (V1 0) w941 w978 ∧
                  (Bar (V1 2) w941 w978 ∧
                   (Bar (V1 4) w941 w978 ∧
                    (Calls Tryd.prog 12 #[Value.agg #[Value.bool b1, s1.v, Value.int .i64 x1]] w978 fun e118 w979 =>
                     ∃ b161 : Bool, ∃ s149 : Slc, ∃ x166 : Int, e118 = .returned (Value.agg #[Value.bool b161, s149.v, Value.int .i64 x166]) ∧
                     (Bar (V1 2) w978 w979 ∧
                      (Bar (V1 4) w978 w979 ∧
                       (Calls Tryd.prog 12 #[Value.agg #[Value.bool b2, s2.v, Value.int .i64 x2]] w979 fun e119 w980 =>
                        ∃ b162 : Bool, ∃ s150 : Slc, ∃ x167 : Int, e119 = .returned (Value.agg #[Value.bool b162, s150.v, Value.int .i64 x167]) ∧
                        (Bar (V1 4) w979 w980 ∧
                         (Calls Tryd.prog 12 #[Value.agg #[Value.bool b3, s3.v, Value.int .i64 x3]] w980 fun e120 w981 =>
                          ∃ b163 : Bool, ∃ s151 : Slc, ∃ x168 : Int, e120 = .returned (Value.agg #[Value.bool b163, s151.v, Value.int .i64 x168]) ∧
                          (stC ad124 (Value.bool b161) w981 fun w982 =>
                           stC (ad124.add 1) s149.v w982 fun w983 =>
                           stC (ad124.add 2) (Value.int .i64 x166) w983 fun w984 =>
                           stC ad143 (Value.bool b162) w984 fun w985 =>
                           stC (ad143.add 1) s150.v w985 fun w986 =>
                           stC (ad143.add 2) (Value.int .i64 x167) w986 fun w987 =>
                           stC ad147 (Value.bool b163) w987 fun w988 =>
                           stC (ad147.add 1) s151.v w988 fun w989 =>
                           stC (ad147.add 2) (Value.int .i64 x168) w989 fun w990 =>
                           K3 ad124 ad143 ad147 w990)))))))))))))) ∧
             (newC w797 #[Value.bool false, (⟨none, 0, 0⟩ : Slc).v, Value.int .i64 0] 39 fun ad148 w991 =>
              Bar (V1 0) w797 w991 ∧
              (Bar (V1 2) w797 w991 ∧
               (Bar (V1 4) w797 w991 ∧
                ((Calls Tryd.prog 12 #[Value.agg #[Value.bool b1, s1.v, Value.int .i64 x1]] w991 fun e121 w992 =>
                  ∃ b164 : Bool, ∃ s152 : Slc, ∃ x169 : Int, e121 = .returned (Value.agg #[Value.bool b164, s152.v, Value.int .i64 x169]) ∧
                  (Bar (V1 2) w991 w992 ∧
                   (Bar (V1 4) w991 w992 ∧
                    ((Calls Tryd.prog 12 #[Value.agg #[Value.bool b2, s2.v, Value.int .i64 x2]] w992 fun e122 w993 =>
                      ∃ b165 : Bool, ∃ s153 : Slc, ∃ x170 : Int, e122 = .returned (Value.agg #[Value.bool b165, s153.v, Value.int .i64 x170]) ∧
                      (Bar (V1 4) w992 w993 ∧
                       ((Calls Tryd.prog 12 #[Value.agg #[Value.bool b3, s3.v, Value.int .i64 x3]] w993 fun e123 w994 =>
                         ∃ b166 : Bool, ∃ s154 : Slc, ∃ x171 : Int, e123 = .returned (Value.agg #[Value.bool b166, s154.v, Value.int .i64 x171]) ∧
                         (newC w994 #[Value.bool false, (⟨none, 0, 0⟩ : Slc).v, Value.int .i64 0] 39 fun ad149 w995 =>
                          Bar (V1 0) w994 w995 ∧
                          (Bar (V1 2) w994 w995 ∧
                           (Bar (V1 4) w994 w995 ∧
                            (stC ad124 (Value.bool b164) w995 fun w996 =>
                             stC (ad124.add 1) s152.v w996 fun w997 =>
                             stC (ad124.add 2) (Value.int .i64 x169) w997 fun w998 =>
                             stC ad149 (Value.bool b165) w998 fun w999 =>
                             stC (ad149.add 1) s153.v w999 fun w1000 =>
                             stC (ad149.add 2) (Value.int .i64 x170) w1000 fun w1001 =>
                             stC ad148 (Value.bool b166) w1001 fun w1002 =>
                             stC (ad148.add 1) s154.v w1002 fun w1003 =>
                             stC (ad148.add 2) (Value.int .i64 x171) w1003 fun w1004 =>
                             K3 ad124 ad149 ad148 w1004))))) ∧
                        (newC w993 #[Value.bool false, (⟨none, 0, 0⟩ : Slc).v, Value.int .i64 0] 39 fun ad150 w1005 =>
                         Bar (V1 0) w993 w1005 ∧
                         (Bar (V1 2) w993 w1005 ∧
                          (Bar (V1 4) w993 w1005 ∧
                           (Calls Tryd.prog 12 #[Value.agg #[Value.bool b3, s3.v, Value.int .i64 x3]] w1005 fun e124 w1006 =>
                            ∃ b167 : Bool, ∃ s155 : Slc, ∃ x172 : Int, e124 = .returned (Value.agg #[Value.bool b167, s155.v, Value.int .i64 x172]) ∧
                            (stC ad124 (Value.bool b164) w1006 fun w1007 =>
                             stC (ad124.add 1) s152.v w1007 fun w1008 =>
                             stC (ad124.add 2) (Value.int .i64 x169) w1008 fun w1009 =>
                             stC ad150 (Value.bool b165) w1009 fun w1010 =>
                             stC (ad150.add 1) s153.v w1010 fun w1011 =>
                             stC (ad150.add 2) (Value.int .i64 x170) w1011 fun w1012 =>
                             stC ad148 (Value.bool b167) w1012 fun w1013 =>
                             stC (ad148.add 1) s155.v w1013 fun w1014 =>
                             stC (ad148.add 2) (Value.int .i64 x172) w1014 fun w1015 =>
                             K3 ad124 ad150 ad148 w1015)))))))) ∧
                     (newC w992 #[Value.bool false, (⟨none, 0, 0⟩ : Slc).v, Value.int .i64 0] 39 fun ad151 w1016 =>
                      Bar (V1 0) w992 w1016 ∧
                      (Bar (V1 2) w992 w1016 ∧
                       (Bar (V1 4) w992 w1016 ∧
                        (Calls Tryd.prog 12 #[Value.agg #[Value.bool b2, s2.v, Value.int .i64 x2]] w1016 fun e125 w1017 =>
                         ∃ b168 : Bool, ∃ s156 : Slc, ∃ x173 : Int, e125 = .returned (Value.agg #[Value.bool b168, s156.v, Value.int .i64 x173]) ∧
                         (Bar (V1 4) w1016 w1017 ∧
                          (Calls Tryd.prog 12 #[Value.agg #[Value.bool b3, s3.v, Value.int .i64 x3]] w1017 fun e126 w1018 =>
                           ∃ b169 : Bool, ∃ s157 : Slc, ∃ x174 : Int, e126 = .returned (Value.agg #[Value.bool b169, s157.v, Value.int .i64 x174]) ∧
                           (stC ad124 (Value.bool b164) w1018 fun w1019 =>
                            stC (ad124.add 1) s152.v w1019 fun w1020 =>
                            stC (ad124.add 2) (Value.int .i64 x169) w1020 fun w1021 =>
                            stC ad151 (Value.bool b168) w1021 fun w1022 =>
                            stC (ad151.add 1) s156.v w1022 fun w1023 =>
                            stC (ad151.add 2) (Value.int .i64 x173) w1023 fun w1024 =>
                            stC ad148 (Value.bool b169) w1024 fun w1025 =>
                            stC (ad148.add 1) s157.v w1025 fun w1026 =>
                            stC (ad148.add 2) (Value.int .i64 x174) w1026 fun w1027 =>
                            K3 ad124 ad151 ad148 w1027))))))))))) ∧
                 (newC w991 #[Value.bool false, (⟨none, 0, 0⟩ : Slc).v, Value.int .i64 0] 39 fun ad152 w1028 =>
                  Bar (V1 0) w991 w1028 ∧
                  (Bar (V1 2) w991 w1028 ∧
                   (Bar (V1 4) w991 w1028 ∧
                    (Calls Tryd.prog 12 #[Value.agg #[Value.bool b1, s1.v, Value.int .i64 x1]] w1028 fun e127 w1029 =>
                     ∃ b170 : Bool, ∃ s158 : Slc, ∃ x175 : Int, e127 = .returned (Value.agg #[Value.bool b170, s158.v, Value.int .i64 x175]) ∧
                     (Bar (V1 2) w1028 w1029 ∧
                      (Bar (V1 4) w1028 w1029 ∧
                       (Calls Tryd.prog 12 #[Value.agg #[Value.bool b2, s2.v, Value.int .i64 x2]] w1029 fun e128 w1030 =>
                        ∃ b171 : Bool, ∃ s159 : Slc, ∃ x176 : Int, e128 = .returned (Value.agg #[Value.bool b171, s159.v, Value.int .i64 x176]) ∧
                        (Bar (V1 4) w1029 w1030 ∧
                         (Calls Tryd.prog 12 #[Value.agg #[Value.bool b3, s3.v, Value.int .i64 x3]] w1030 fun e129 w1031 =>
                          ∃ b172 : Bool, ∃ s160 : Slc, ∃ x177 : Int, e129 = .returned (Value.agg #[Value.bool b172, s160.v, Value.int .i64 x177]) ∧
                          (stC ad124 (Value.bool b170) w1031 fun w1032 =>
                           stC (ad124.add 1) s158.v w1032 fun w1033 =>
                           stC (ad124.add 2) (Value.int .i64 x175) w1033 fun w1034 =>
                           stC ad152 (Value.bool b171) w1034 fun w1035 =>
                           stC (ad152.add 1) s159.v w1035 fun w1036 =>
                           stC (ad152.add 2) (Value.int .i64 x176) w1036 fun w1037 =>
                           stC ad148 (Value.bool b172) w1037 fun w1038 =>
                           stC (ad148.add 1) s160.v w1038 fun w1039 =>
                           stC (ad148.add 2) (Value.int .i64 x177) w1039 fun w1040 =>
                           K3 ad124 ad152 ad148 w1040))))))))))))))))))) ∧
        ((newC w3.drew #[Value.bool false, (⟨none, 0, 0⟩ : Slc).v, Value.int .i64 0] 39 fun ad153 w1041 =>
          Bar (V1 0) w3.drew w1041 ∧
          (Bar (V1 2) w3.drew w1041 ∧
           (Bar (V1 4) w3.drew w1041 ∧
            ((Calls Tryd.prog 12 #[Value.agg #[Value.bool b1, s1.v, Value.int .i64 x1]] w1041 fun e130 w1042 =>
              ∃ b173 : Bool, ∃ s161 : Slc, ∃ x178 : Int, e130 = .returned (Value.agg #[Value.bool b173, s161.v, Value.int .i64 x178]) ∧
              (Bar (V1 2) w1041 w1042 ∧
               (Bar (V1 4) w1041 w1042 ∧
                ((Calls Tryd.prog 12 #[Value.agg #[Value.bool b2, s2.v, Value.int .i64 x2]] w1042 fun e131 w1043 =>
                  ∃ b174 : Bool, ∃ s162 : Slc, ∃ x179 : Int, e131 = .returned (Value.agg #[Value.bool b174, s162.v, Value.int .i64 x179]) ∧
                  (Bar (V1 4) w1042 w1043 ∧
                   ((Calls Tryd.prog 12 #[Value.agg #[Value.bool b3, s3.v, Value.int .i64 x3]] w1043 fun e132 w1044 =>
                     ∃ b175 : Bool, ∃ s163 : Slc, ∃ x180 : Int, e132 = .returned (Value.agg #[Value.bool b175, s163.v, Value.int .i64 x180]) ∧
                     ((newC w1044 #[Value.bool false, (⟨none, 0, 0⟩ : Slc).v, Value.int .i64 0] 39 fun ad154 w1045 =>
                       Bar (V1 0) w1044 w1045 ∧
                       (Bar (V1 2) w1044 w1045 ∧
                        (Bar (V1 4) w1044 w1045 ∧
                         (newC w1045 #[Value.bool false, (⟨none, 0, 0⟩ : Slc).v, Value.int .i64 0] 39 fun ad155 w1046 =>
                          Bar (V1 0) w1045 w1046 ∧
                          (Bar (V1 2) w1045 w1046 ∧
                           (Bar (V1 4) w1045 w1046 ∧
                            (stC ad154 (Value.bool b173) w1046 fun w1047 =>
                             stC (ad154.add 1) s161.v w1047 fun w1048 =>
                             stC (ad154.add 2) (Value.int .i64 x178) w1048 fun w1049 =>
                             stC ad153 (Value.bool b174) w1049 fun w1050 =>
                             stC (ad153.add 1) s162.v w1050 fun w1051 =>
                             stC (ad153.add 2) (Value.int .i64 x179) w1051 fun w1052 =>
                             stC ad155 (Value.bool b175) w1052 fun w1053 =>
                             stC (ad155.add 1) s163.v w1053 fun w1054 =>
                             stC (ad155.add 2) (Value.int .i64 x180) w1054 fun w1055 =>
                             K3 ad154 ad153 ad155 w1055))))))) ∧
                      (newC w1044 #[Value.bool false, (⟨none, 0, 0⟩ : Slc).v, Value.int .i64 0] 39 fun ad156 w1056 =>
                       Bar (V1 0) w1044 w1056 ∧
                       (Bar (V1 2) w1044 w1056 ∧
                        (Bar (V1 4) w1044 w1056 ∧
                         (newC w1056 #[Value.bool false, (⟨none, 0, 0⟩ : Slc).v, Value.int .i64 0] 39 fun ad157 w1057 =>
                          Bar (V1 0) w1056 w1057 ∧
                          (Bar (V1 2) w1056 w1057 ∧
                           (Bar (V1 4) w1056 w1057 ∧
                            (stC ad157 (Value.bool b173) w1057 fun w1058 =>
                             stC (ad157.add 1) s161.v w1058 fun w1059 =>
                             stC (ad157.add 2) (Value.int .i64 x178) w1059 fun w1060 =>
                             stC ad153 (Value.bool b174) w1060 fun w1061 =>
                             stC (ad153.add 1) s162.v w1061 fun w1062 =>
                             stC (ad153.add 2) (Value.int .i64 x179) w1062 fun w1063 =>
                             stC ad156 (Value.bool b175) w1063 fun w1064 =>
                             stC (ad156.add 1) s163.v w1064 fun w1065 =>
                             stC (ad156.add 2) (Value.int .i64 x180) w1065 fun w1066 =>
                             K3 ad157 ad153 ad156 w1066))))))))) ∧
                    ((newC w1043 #[Value.bool false, (⟨none, 0, 0⟩ : Slc).v, Value.int .i64 0] 39 fun ad158 w1067 =>
                      Bar (V1 0) w1043 w1067 ∧
                      (Bar (V1 2) w1043 w1067 ∧
                       (Bar (V1 4) w1043 w1067 ∧
                        ((Calls Tryd.prog 12 #[Value.agg #[Value.bool b3, s3.v, Value.int .i64 x3]] w1067 fun e133 w1068 =>
                          ∃ b176 : Bool, ∃ s164 : Slc, ∃ x181 : Int, e133 = .returned (Value.agg #[Value.bool b176, s164.v, Value.int .i64 x181]) ∧
                          (newC w1068 #[Value.bool false, (⟨none, 0, 0⟩ : Slc).v, Value.int .i64 0] 39 fun ad159 w1069 =>
                           Bar (V1 0) w1068 w1069 ∧
                           (Bar (V1 2) w1068 w1069 ∧
                            (Bar (V1 4) w1068 w1069 ∧
                             (stC ad158 (Value.bool b173) w1069 fun w1070 =>
                              stC (ad158.add 1) s161.v w1070 fun w1071 =>
                              stC (ad158.add 2) (Value.int .i64 x178) w1071 fun w1072 =>
                              stC ad153 (Value.bool b174) w1072 fun w1073 =>
                              stC (ad153.add 1) s162.v w1073 fun w1074 =>
                              stC (ad153.add 2) (Value.int .i64 x179) w1074 fun w1075 =>
                              stC ad159 (Value.bool b176) w1075 fun w1076 =>
                              stC (ad159.add 1) s164.v w1076 fun w1077 =>
                              stC (ad159.add 2) (Value.int .i64 x181) w1077 fun w1078 =>
                              K3 ad158 ad153 ad159 w1078))))) ∧
                         (newC w1067 #[Value.bool false, (⟨none, 0, 0⟩ : Slc).v, Value.int .i64 0] 39 fun ad160 w1079 =>
                          Bar (V1 0) w1067 w1079 ∧
                          (Bar (V1 2) w1067 w1079 ∧
                           (Bar (V1 4) w1067 w1079 ∧
                            (Calls Tryd.prog 12 #[Value.agg #[Value.bool b3, s3.v, Value.int .i64 x3]] w1079 fun e134 w1080 =>
                             ∃ b177 : Bool, ∃ s165 : Slc, ∃ x182 : Int, e134 = .returned (Value.agg #[Value.bool b177, s165.v, Value.int .i64 x182]) ∧
                             (stC ad158 (Value.bool b173) w1080 fun w1081 =>
                              stC (ad158.add 1) s161.v w1081 fun w1082 =>
                              stC (ad158.add 2) (Value.int .i64 x178) w1082 fun w1083 =>
                              stC ad153 (Value.bool b174) w1083 fun w1084 =>
                              stC (ad153.add 1) s162.v w1084 fun w1085 =>
                              stC (ad153.add 2) (Value.int .i64 x179) w1085 fun w1086 =>
                              stC ad160 (Value.bool b177) w1086 fun w1087 =>
                              stC (ad160.add 1) s165.v w1087 fun w1088 =>
                              stC (ad160.add 2) (Value.int .i64 x182) w1088 fun w1089 =>
                              K3 ad158 ad153 ad160 w1089))))))))) ∧
                     (newC w1043 #[Value.bool false, (⟨none, 0, 0⟩ : Slc).v, Value.int .i64 0] 39 fun ad161 w1090 =>
                      Bar (V1 0) w1043 w1090 ∧
                      (Bar (V1 2) w1043 w1090 ∧
                       (Bar (V1 4) w1043 w1090 ∧
                        ((Calls Tryd.prog 12 #[Value.agg #[Value.bool b3, s3.v, Value.int .i64 x3]] w1090 fun e135 w1091 =>
                          ∃ b178 : Bool, ∃ s166 : Slc, ∃ x183 : Int, e135 = .returned (Value.agg #[Value.bool b178, s166.v, Value.int .i64 x183]) ∧
                          (newC w1091 #[Value.bool false, (⟨none, 0, 0⟩ : Slc).v, Value.int .i64 0] 39 fun ad162 w1092 =>
                           Bar (V1 0) w1091 w1092 ∧
                           (Bar (V1 2) w1091 w1092 ∧
                            (Bar (V1 4) w1091 w1092 ∧
                             (stC ad162 (Value.bool b173) w1092 fun w1093 =>
                              stC (ad162.add 1) s161.v w1093 fun w1094 =>
                              stC (ad162.add 2) (Value.int .i64 x178) w1094 fun w1095 =>
                              stC ad153 (Value.bool b174) w1095 fun w1096 =>
                              stC (ad153.add 1) s162.v w1096 fun w1097 =>
                              stC (ad153.add 2) (Value.int .i64 x179) w1097 fun w1098 =>
                              stC ad161 (Value.bool b178) w1098 fun w1099 =>
                              stC (ad161.add 1) s166.v w1099 fun w1100 =>
                              stC (ad161.add 2) (Value.int .i64 x183) w1100 fun w1101 =>
                              K3 ad162 ad153 ad161 w1101))))) ∧
                         (newC w1090 #[Value.bool false, (⟨none, 0, 0⟩ : Slc).v, Value.int .i64 0] 39 fun ad163 w1102 =>
                          Bar (V1 0) w1090 w1102 ∧
                          (Bar (V1 2) w1090 w1102 ∧
                           (Bar (V1 4) w1090 w1102 ∧
                            (Calls Tryd.prog 12 #[Value.agg #[Value.bool b3, s3.v, Value.int .i64 x3]] w1102 fun e136 w1103 =>
                             ∃ b179 : Bool, ∃ s167 : Slc, ∃ x184 : Int, e136 = .returned (Value.agg #[Value.bool b179, s167.v, Value.int .i64 x184]) ∧
                             (stC ad163 (Value.bool b173) w1103 fun w1104 =>
                              stC (ad163.add 1) s161.v w1104 fun w1105 =>
                              stC (ad163.add 2) (Value.int .i64 x178) w1105 fun w1106 =>
                              stC ad153 (Value.bool b174) w1106 fun w1107 =>
                              stC (ad153.add 1) s162.v w1107 fun w1108 =>
                              stC (ad153.add 2) (Value.int .i64 x179) w1108 fun w1109 =>
                              stC ad161 (Value.bool b179) w1109 fun w1110 =>
                              stC (ad161.add 1) s167.v w1110 fun w1111 =>
                              stC (ad161.add 2) (Value.int .i64 x184) w1111 fun w1112 =>
                              K3 ad163 ad153 ad161 w1112))))))))))))) ∧
                 ((newC w1042 #[Value.bool false, (⟨none, 0, 0⟩ : Slc).v, Value.int .i64 0] 39 fun ad164 w1113 =>
                   Bar (V1 0) w1042 w1113 ∧
                   (Bar (V1 2) w1042 w1113 ∧
                    (Bar (V1 4) w1042 w1113 ∧
                     ((Calls Tryd.prog 12 #[Value.agg #[Value.bool b2, s2.v, Value.int .i64 x2]] w1113 fun e137 w1114 =>
                       ∃ b180 : Bool, ∃ s168 : Slc, ∃ x185 : Int, e137 = .returned (Value.agg #[Value.bool b180, s168.v, Value.int .i64 x185]) ∧
                       (Bar (V1 4) w1113 w1114 ∧
                        ((Calls Tryd.prog 12 #[Value.agg #[Value.bool b3, s3.v, Value.int .i64 x3]] w1114 fun e138 w1115 =>
                          ∃ b181 : Bool, ∃ s169 : Slc, ∃ x186 : Int, e138 = .returned (Value.agg #[Value.bool b181, s169.v, Value.int .i64 x186]) ∧
                          (newC w1115 #[Value.bool false, (⟨none, 0, 0⟩ : Slc).v, Value.int .i64 0] 39 fun ad165 w1116 =>
                           Bar (V1 0) w1115 w1116 ∧
                           (Bar (V1 2) w1115 w1116 ∧
                            (Bar (V1 4) w1115 w1116 ∧
                             (stC ad164 (Value.bool b173) w1116 fun w1117 =>
                              stC (ad164.add 1) s161.v w1117 fun w1118 =>
                              stC (ad164.add 2) (Value.int .i64 x178) w1118 fun w1119 =>
                              stC ad153 (Value.bool b180) w1119 fun w1120 =>
                              stC (ad153.add 1) s168.v w1120 fun w1121 =>
                              stC (ad153.add 2) (Value.int .i64 x185) w1121 fun w1122 =>
                              stC ad165 (Value.bool b181) w1122 fun w1123 =>
                              stC (ad165.add 1) s169.v w1123 fun w1124 =>
                              stC (ad165.add 2) (Value.int .i64 x186) w1124 fun w1125 =>
                              K3 ad164 ad153 ad165 w1125))))) ∧
                         (newC w1114 #[Value.bool false, (⟨none, 0, 0⟩ : Slc).v, Value.int .i64 0] 39 fun ad166 w1126 =>
                          Bar (V1 0) w1114 w1126 ∧
                          (Bar (V1 2) w1114 w1126 ∧
                           (Bar (V1 4) w1114 w1126 ∧
                            (Calls Tryd.prog 12 #[Value.agg #[Value.bool b3, s3.v, Value.int .i64 x3]] w1126 fun e139 w1127 =>
                             ∃ b182 : Bool, ∃ s170 : Slc, ∃ x187 : Int, e139 = .returned (Value.agg #[Value.bool b182, s170.v, Value.int .i64 x187]) ∧
                             (stC ad164 (Value.bool b173) w1127 fun w1128 =>
                              stC (ad164.add 1) s161.v w1128 fun w1129 =>
                              stC (ad164.add 2) (Value.int .i64 x178) w1129 fun w1130 =>
                              stC ad153 (Value.bool b180) w1130 fun w1131 =>
                              stC (ad153.add 1) s168.v w1131 fun w1132 =>
                              stC (ad153.add 2) (Value.int .i64 x185) w1132 fun w1133 =>
                              stC ad166 (Value.bool b182) w1133 fun w1134 =>
                              stC (ad166.add 1) s170.v w1134 fun w1135 =>
                              stC (ad166.add 2) (Value.int .i64 x187) w1135 fun w1136 =>
                              K3 ad164 ad153 ad166 w1136)))))))) ∧
                      (newC w1113 #[Value.bool false, (⟨none, 0, 0⟩ : Slc).v, Value.int .i64 0] 39 fun ad167 w1137 =>
                       Bar (V1 0) w1113 w1137 ∧
                       (Bar (V1 2) w1113 w1137 ∧
                        (Bar (V1 4) w1113 w1137 ∧
                         (Calls Tryd.prog 12 #[Value.agg #[Value.bool b2, s2.v, Value.int .i64 x2]] w1137 fun e140 w1138 =>
                          ∃ b183 : Bool, ∃ s171 : Slc, ∃ x188 : Int, e140 = .returned (Value.agg #[Value.bool b183, s171.v, Value.int .i64 x188]) ∧
                          (Bar (V1 4) w1137 w1138 ∧
                           (Calls Tryd.prog 12 #[Value.agg #[Value.bool b3, s3.v, Value.int .i64 x3]] w1138 fun e141 w1139 =>
                            ∃ b184 : Bool, ∃ s172 : Slc, ∃ x189 : Int, e141 = .returned (Value.agg #[Value.bool b184, s172.v, Value.int .i64 x189]) ∧
                            (stC ad164 (Value.bool b173) w1139 fun w1140 =>
                             stC (ad164.add 1) s161.v w1140 fun w1141 =>
                             stC (ad164.add 2) (Value.int .i64 x178) w1141 fun w1142 =>
                             stC ad153 (Value.bool b183) w1142 fun w1143 =>
                             stC (ad153.add 1) s171.v w1143 fun w1144 =>
                             stC (ad153.add 2) (Value.int .i64 x188) w1144 fun w1145 =>
                             stC ad167 (Value.bool b184) w1145 fun w1146 =>
                             stC (ad167.add 1) s172.v w1146 fun w1147 =>
                             stC (ad167.add 2) (Value.int .i64 x189) w1147 fun w1148 =>
                             K3 ad164 ad153 ad167 w1148))))))))))) ∧
                  (newC w1042 #[Value.bool false, (⟨none, 0, 0⟩ : Slc).v, Value.int .i64 0] 39 fun ad168 w1149 =>
                   Bar (V1 0) w1042 w1149 ∧
                   (Bar (V1 2) w1042 w1149 ∧
                    (Bar (V1 4) w1042 w1149 ∧
                     ((Calls Tryd.prog 12 #[Value.agg #[Value.bool b2, s2.v, Value.int .i64 x2]] w1149 fun e142 w1150 =>
                       ∃ b185 : Bool, ∃ s173 : Slc, ∃ x190 : Int, e142 = .returned (Value.agg #[Value.bool b185, s173.v, Value.int .i64 x190]) ∧
                       (Bar (V1 4) w1149 w1150 ∧
                        ((Calls Tryd.prog 12 #[Value.agg #[Value.bool b3, s3.v, Value.int .i64 x3]] w1150 fun e143 w1151 =>
                          ∃ b186 : Bool, ∃ s174 : Slc, ∃ x191 : Int, e143 = .returned (Value.agg #[Value.bool b186, s174.v, Value.int .i64 x191]) ∧
                          (newC w1151 #[Value.bool false, (⟨none, 0, 0⟩ : Slc).v, Value.int .i64 0] 39 fun ad169 w1152 =>
                           Bar (V1 0) w1151 w1152 ∧
                           (Bar (V1 2) w1151 w1152 ∧
                            (Bar (V1 4) w1151 w1152 ∧
                             (stC ad169 (Value.bool b173) w1152 fun w1153 =>
                              stC (ad169.add 1) s161.v w1153 fun w1154 =>
                              stC (ad169.add 2) (Value.int .i64 x178) w1154 fun w1155 =>
                              stC ad153 (Value.bool b185) w1155 fun w1156 =>
                              stC (ad153.add 1) s173.v w1156 fun w1157 =>
                              stC (ad153.add 2) (Value.int .i64 x190) w1157 fun w1158 =>
                              stC ad168 (Value.bool b186) w1158 fun w1159 =>
                              stC (ad168.add 1) s174.v w1159 fun w1160 =>
                              stC (ad168.add 2) (Value.int .i64 x191) w1160 fun w1161 =>
                              K3 ad169 ad153 ad168 w1161))))) ∧
                         (newC w1150 #[Value.bool false, (⟨none, 0, 0⟩ : Slc).v, Value.int .i64 0] 39 fun ad170 w1162 =>
                          Bar (V1 0) w1150 w1162 ∧
                          (Bar (V1 2) w1150 w1162 ∧
                           (Bar (V1 4) w1150 w1162 ∧
                            (Calls Tryd.prog 12 #[Value.agg #[Value.bool b3, s3.v, Value.int .i64 x3]] w1162 fun e144 w1163 =>
                             ∃ b187 : Bool, ∃ s175 : Slc, ∃ x192 : Int, e144 = .returned (Value.agg #[Value.bool b187, s175.v, Value.int .i64 x192]) ∧
                             (stC ad170 (Value.bool b173) w1163 fun w1164 =>
                              stC (ad170.add 1) s161.v w1164 fun w1165 =>
                              stC (ad170.add 2) (Value.int .i64 x178) w1165 fun w1166 =>
                              stC ad153 (Value.bool b185) w1166 fun w1167 =>
                              stC (ad153.add 1) s173.v w1167 fun w1168 =>
                              stC (ad153.add 2) (Value.int .i64 x190) w1168 fun w1169 =>
                              stC ad168 (Value.bool b187) w1169 fun w1170 =>
                              stC (ad168.add 1) s175.v w1170 fun w1171 =>
                              stC (ad168.add 2) (Value.int .i64 x192) w1171 fun w1172 =>
                              K3 ad170 ad153 ad168 w1172)))))))) ∧
                      (newC w1149 #[Value.bool false, (⟨none, 0, 0⟩ : Slc).v, Value.int .i64 0] 39 fun ad171 w1173 =>
                       Bar (V1 0) w1149 w1173 ∧
                       (Bar (V1 2) w1149 w1173 ∧
                        (Bar (V1 4) w1149 w1173 ∧
                         (Calls Tryd.prog 12 #[Value.agg #[Value.bool b2, s2.v, Value.int .i64 x2]] w1173 fun e145 w1174 =>
                          ∃ b188 : Bool, ∃ s176 : Slc, ∃ x193 : Int, e145 = .returned (Value.agg #[Value.bool b188, s176.v, Value.int .i64 x193]) ∧
                          (Bar (V1 4) w1173 w1174 ∧
                           (Calls Tryd.prog 12 #[Value.agg #[Value.bool b3, s3.v, Value.int .i64 x3]] w1174 fun e146 w1175 =>
                            ∃ b189 : Bool, ∃ s177 : Slc, ∃ x194 : Int, e146 = .returned (Value.agg #[Value.bool b189, s177.v, Value.int .i64 x194]) ∧
                            (stC ad171 (Value.bool b173) w1175 fun w1176 =>
                             stC (ad171.add 1) s161.v w1176 fun w1177 =>
                             stC (ad171.add 2) (Value.int .i64 x178) w1177 fun w1178 =>
                             stC ad153 (Value.bool b188) w1178 fun w1179 =>
                             stC (ad153.add 1) s176.v w1179 fun w1180 =>
                             stC (ad153.add 2) (Value.int .i64 x193) w1180 fun w1181 =>
                             stC ad168 (Value.bool b189) w1181 fun w1182 =>
                             stC (ad168.add 1) s177.v w1182 fun w1183 =>
                             stC (ad168.add 2) (Value.int .i64 x194) w1183 fun w1184 =>
                             K3 ad171 ad153 ad168 w1184)))))))))))))))) ∧
             ((newC w1041 #[Value.bool false, (⟨none, 0, 0⟩ : Slc).v, Value.int .i64 0] 39 fun ad172 w1185 =>
               Bar (V1 0) w1041 w1185 ∧
               (Bar (V1 2) w1041 w1185 ∧
                (Bar (V1 4) w1041 w1185 ∧
                 ((Calls Tryd.prog 12 #[Value.agg #[Value.bool b1, s1.v, Value.int .i64 x1]] w1185 fun e147 w1186 =>
                   ∃ b190 : Bool, ∃ s178 : Slc, ∃ x195 : Int, e147 = .returned (Value.agg #[Value.bool b190, s178.v, Value.int .i64 x195]) ∧
                   (Bar (V1 2) w1185 w1186 ∧
                    (Bar (V1 4) w1185 w1186 ∧
                     ((Calls Tryd.prog 12 #[Value.agg #[Value.bool b2, s2.v, Value.int .i64 x2]] w1186 fun e148 w1187 =>
                       ∃ b191 : Bool, ∃ s179 : Slc, ∃ x196 : Int, e148 = .returned (Value.agg #[Value.bool b191, s179.v, Value.int .i64 x196]) ∧
                       (Bar (V1 4) w1186 w1187 ∧
                        ((Calls Tryd.prog 12 #[Value.agg #[Value.bool b3, s3.v, Value.int .i64 x3]] w1187 fun e149 w1188 =>
                          ∃ b192 : Bool, ∃ s180 : Slc, ∃ x197 : Int, e149 = .returned (Value.agg #[Value.bool b192, s180.v, Value.int .i64 x197]) ∧
                          (newC w1188 #[Value.bool false, (⟨none, 0, 0⟩ : Slc).v, Value.int .i64 0] 39 fun ad173 w1189 =>
                           Bar (V1 0) w1188 w1189 ∧
                           (Bar (V1 2) w1188 w1189 ∧
                            (Bar (V1 4) w1188 w1189 ∧
                             (stC ad172 (Value.bool b190) w1189 fun w1190 =>
                              stC (ad172.add 1) s178.v w1190 fun w1191 =>
                              stC (ad172.add 2) (Value.int .i64 x195) w1191 fun w1192 =>
                              stC ad153 (Value.bool b191) w1192 fun w1193 =>
                              stC (ad153.add 1) s179.v w1193 fun w1194 =>
                              stC (ad153.add 2) (Value.int .i64 x196) w1194 fun w1195 =>
                              stC ad173 (Value.bool b192) w1195 fun w1196 =>
                              stC (ad173.add 1) s180.v w1196 fun w1197 =>
                              stC (ad173.add 2) (Value.int .i64 x197) w1197 fun w1198 =>
                              K3 ad172 ad153 ad173 w1198))))) ∧
                         (newC w1187 #[Value.bool false, (⟨none, 0, 0⟩ : Slc).v, Value.int .i64 0] 39 fun ad174 w1199 =>
                          Bar (V1 0) w1187 w1199 ∧
                          (Bar (V1 2) w1187 w1199 ∧
                           (Bar (V1 4) w1187 w1199 ∧
                            (Calls Tryd.prog 12 #[Value.agg #[Value.bool b3, s3.v, Value.int .i64 x3]] w1199 fun e150 w1200 =>
                             ∃ b193 : Bool, ∃ s181 : Slc, ∃ x198 : Int, e150 = .returned (Value.agg #[Value.bool b193, s181.v, Value.int .i64 x198]) ∧
                             (stC ad172 (Value.bool b190) w1200 fun w1201 =>
                              stC (ad172.add 1) s178.v w1201 fun w1202 =>
                              stC (ad172.add 2) (Value.int .i64 x195) w1202 fun w1203 =>
                              stC ad153 (Value.bool b191) w1203 fun w1204 =>
                              stC (ad153.add 1) s179.v w1204 fun w1205 =>
                              stC (ad153.add 2) (Value.int .i64 x196) w1205 fun w1206 =>
                              stC ad174 (Value.bool b193) w1206 fun w1207 =>
                              stC (ad174.add 1) s181.v w1207 fun w1208 =>
                              stC (ad174.add 2) (Value.int .i64 x198) w1208 fun w1209 =>
                              K3 ad172 ad153 ad174 w1209)))))))) ∧
                      (newC w1186 #[Value.bool false, (⟨none, 0, 0⟩ : Slc).v, Value.int .i64 0] 39 fun ad175 w1210 =>
                       Bar (V1 0) w1186 w1210 ∧
                       (Bar (V1 2) w1186 w1210 ∧
                        (Bar (V1 4) w1186 w1210 ∧
                         (Calls Tryd.prog 12 #[Value.agg #[Value.bool b2, s2.v, Value.int .i64 x2]] w1210 fun e151 w1211 =>
                          ∃ b194 : Bool, ∃ s182 : Slc, ∃ x199 : Int, e151 = .returned (Value.agg #[Value.bool b194, s182.v, Value.int .i64 x199]) ∧
                          (Bar (V1 4) w1210 w1211 ∧
                           (Calls Tryd.prog 12 #[Value.agg #[Value.bool b3, s3.v, Value.int .i64 x3]] w1211 fun e152 w1212 =>
                            ∃ b195 : Bool, ∃ s183 : Slc, ∃ x200 : Int, e152 = .returned (Value.agg #[Value.bool b195, s183.v, Value.int .i64 x200]) ∧
                            (stC ad172 (Value.bool b190) w1212 fun w1213 =>
                             stC (ad172.add 1) s178.v w1213 fun w1214 =>
                             stC (ad172.add 2) (Value.int .i64 x195) w1214 fun w1215 =>
                             stC ad153 (Value.bool b194) w1215 fun w1216 =>
                             stC (ad153.add 1) s182.v w1216 fun w1217 =>
                             stC (ad153.add 2) (Value.int .i64 x199) w1217 fun w1218 =>
                             stC ad175 (Value.bool b195) w1218 fun w1219 =>
                             stC (ad175.add 1) s183.v w1219 fun w1220 =>
                             stC (ad175.add 2) (Value.int .i64 x200) w1220 fun w1221 =>
                             K3 ad172 ad153 ad175 w1221))))))))))) ∧
                  (newC w1185 #[Value.bool false, (⟨none, 0, 0⟩ : Slc).v, Value.int .i64 0] 39 fun ad176 w1222 =>
                   Bar (V1 0) w1185 w1222 ∧
                   (Bar (V1 2) w1185 w1222 ∧
                    (Bar (V1 4) w1185 w1222 ∧
                     (Calls Tryd.prog 12 #[Value.agg #[Value.bool b1, s1.v, Value.int .i64 x1]] w1222 fun e153 w1223 =>
                      ∃ b196 : Bool, ∃ s184 : Slc, ∃ x201 : Int, e153 = .returned (Value.agg #[Value.bool b196, s184.v, Value.int .i64 x201]) ∧
                      (Bar (V1 2) w1222 w1223 ∧
                       (Bar (V1 4) w1222 w1223 ∧
                        (Calls Tryd.prog 12 #[Value.agg #[Value.bool b2, s2.v, Value.int .i64 x2]] w1223 fun e154 w1224 =>
                         ∃ b197 : Bool, ∃ s185 : Slc, ∃ x202 : Int, e154 = .returned (Value.agg #[Value.bool b197, s185.v, Value.int .i64 x202]) ∧
                         (Bar (V1 4) w1223 w1224 ∧
                          (Calls Tryd.prog 12 #[Value.agg #[Value.bool b3, s3.v, Value.int .i64 x3]] w1224 fun e155 w1225 =>
                           ∃ b198 : Bool, ∃ s186 : Slc, ∃ x203 : Int, e155 = .returned (Value.agg #[Value.bool b198, s186.v, Value.int .i64 x203]) ∧
                           (stC ad172 (Value.bool b196) w1225 fun w1226 =>
                            stC (ad172.add 1) s184.v w1226 fun w1227 =>
                            stC (ad172.add 2) (Value.int .i64 x201) w1227 fun w1228 =>
                            stC ad153 (Value.bool b197) w1228 fun w1229 =>
                            stC (ad153.add 1) s185.v w1229 fun w1230 =>
                            stC (ad153.add 2) (Value.int .i64 x202) w1230 fun w1231 =>
                            stC ad176 (Value.bool b198) w1231 fun w1232 =>
                            stC (ad176.add 1) s186.v w1232 fun w1233 =>
                            stC (ad176.add 2) (Value.int .i64 x203) w1233 fun w1234 =>
                            K3 ad172 ad153 ad176 w1234)))))))))))))) ∧
              (newC w1041 #[Value.bool false, (⟨none, 0, 0⟩ : Slc).v, Value.int .i64 0] 39 fun ad177 w1235 =>
               Bar (V1 0) w1041 w1235 ∧
               (Bar (V1 2) w1041 w1235 ∧
                (Bar (V1 4) w1041 w1235 ∧
                 ((Calls Tryd.prog 12 #[Value.agg #[Value.bool b1, s1.v, Value.int .i64 x1]] w1235 fun e156 w1236 =>
                   ∃ b199 : Bool, ∃ s187 : Slc, ∃ x204 : Int, e156 = .returned (Value.agg #[Value.bool b199, s187.v, Value.int .i64 x204]) ∧
                   (Bar (V1 2) w1235 w1236 ∧
                    (Bar (V1 4) w1235 w1236 ∧
                     ((Calls Tryd.prog 12 #[Value.agg #[Value.bool b2, s2.v, Value.int .i64 x2]] w1236 fun e157 w1237 =>
                       ∃ b200 : Bool, ∃ s188 : Slc, ∃ x205 : Int, e157 = .returned (Value.agg #[Value.bool b200, s188.v, Value.int .i64 x205]) ∧
                       (Bar (V1 4) w1236 w1237 ∧
                        ((Calls Tryd.prog 12 #[Value.agg #[Value.bool b3, s3.v, Value.int .i64 x3]] w1237 fun e158 w1238 =>
                          ∃ b201 : Bool, ∃ s189 : Slc, ∃ x206 : Int, e158 = .returned (Value.agg #[Value.bool b201, s189.v, Value.int .i64 x206]) ∧
                          (newC w1238 #[Value.bool false, (⟨none, 0, 0⟩ : Slc).v, Value.int .i64 0] 39 fun ad178 w1239 =>
                           Bar (V1 0) w1238 w1239 ∧
                           (Bar (V1 2) w1238 w1239 ∧
                            (Bar (V1 4) w1238 w1239 ∧
                             (stC ad178 (Value.bool b199) w1239 fun w1240 =>
                              stC (ad178.add 1) s187.v w1240 fun w1241 =>
                              stC (ad178.add 2) (Value.int .i64 x204) w1241 fun w1242 =>
                              stC ad153 (Value.bool b200) w1242 fun w1243 =>
                              stC (ad153.add 1) s188.v w1243 fun w1244 =>
                              stC (ad153.add 2) (Value.int .i64 x205) w1244 fun w1245 =>
                              stC ad177 (Value.bool b201) w1245 fun w1246 =>
                              stC (ad177.add 1) s189.v w1246 fun w1247 =>
                              stC (ad177.add 2) (Value.int .i64 x206) w1247 fun w1248 =>
                              K3 ad178 ad153 ad177 w1248))))) ∧
                         (newC w1237 #[Value.bool false, (⟨none, 0, 0⟩ : Slc).v, Value.int .i64 0] 39 fun ad179 w1249 =>
                          Bar (V1 0) w1237 w1249 ∧
                          (Bar (V1 2) w1237 w1249 ∧
                           (Bar (V1 4) w1237 w1249 ∧
                            (Calls Tryd.prog 12 #[Value.agg #[Value.bool b3, s3.v, Value.int .i64 x3]] w1249 fun e159 w1250 =>
                             ∃ b202 : Bool, ∃ s190 : Slc, ∃ x207 : Int, e159 = .returned (Value.agg #[Value.bool b202, s190.v, Value.int .i64 x207]) ∧
                             (stC ad179 (Value.bool b199) w1250 fun w1251 =>
                              stC (ad179.add 1) s187.v w1251 fun w1252 =>
                              stC (ad179.add 2) (Value.int .i64 x204) w1252 fun w1253 =>
                              stC ad153 (Value.bool b200) w1253 fun w1254 =>
                              stC (ad153.add 1) s188.v w1254 fun w1255 =>
                              stC (ad153.add 2) (Value.int .i64 x205) w1255 fun w1256 =>
                              stC ad177 (Value.bool b202) w1256 fun w1257 =>
                              stC (ad177.add 1) s190.v w1257 fun w1258 =>
                              stC (ad177.add 2) (Value.int .i64 x207) w1258 fun w1259 =>
                              K3 ad179 ad153 ad177 w1259)))))))) ∧
                      (newC w1236 #[Value.bool false, (⟨none, 0, 0⟩ : Slc).v, Value.int .i64 0] 39 fun ad180 w1260 =>
                       Bar (V1 0) w1236 w1260 ∧
                       (Bar (V1 2) w1236 w1260 ∧
                        (Bar (V1 4) w1236 w1260 ∧
                         (Calls Tryd.prog 12 #[Value.agg #[Value.bool b2, s2.v, Value.int .i64 x2]] w1260 fun e160 w1261 =>
                          ∃ b203 : Bool, ∃ s191 : Slc, ∃ x208 : Int, e160 = .returned (Value.agg #[Value.bool b203, s191.v, Value.int .i64 x208]) ∧
                          (Bar (V1 4) w1260 w1261 ∧
                           (Calls Tryd.prog 12 #[Value.agg #[Value.bool b3, s3.v, Value.int .i64 x3]] w1261 fun e161 w1262 =>
                            ∃ b204 : Bool, ∃ s192 : Slc, ∃ x209 : Int, e161 = .returned (Value.agg #[Value.bool b204, s192.v, Value.int .i64 x209]) ∧
                            (stC ad180 (Value.bool b199) w1262 fun w1263 =>
                             stC (ad180.add 1) s187.v w1263 fun w1264 =>
                             stC (ad180.add 2) (Value.int .i64 x204) w1264 fun w1265 =>
                             stC ad153 (Value.bool b203) w1265 fun w1266 =>
                             stC (ad153.add 1) s191.v w1266 fun w1267 =>
                             stC (ad153.add 2) (Value.int .i64 x208) w1267 fun w1268 =>
                             stC ad177 (Value.bool b204) w1268 fun w1269 =>
                             stC (ad177.add 1) s192.v w1269 fun w1270 =>
                             stC (ad177.add 2) (Value.int .i64 x209) w1270 fun w1271 =>
                             K3 ad180 ad153 ad177 w1271))))))))))) ∧
                  (newC w1235 #[Value.bool false, (⟨none, 0, 0⟩ : Slc).v, Value.int .i64 0] 39 fun ad181 w1272 =>
                   Bar (V1 0) w1235 w1272 ∧
                   (Bar (V1 2) w1235 w1272 ∧
                    (Bar (V1 4) w1235 w1272 ∧
                     (Calls Tryd.prog 12 #[Value.agg #[Value.bool b1, s1.v, Value.int .i64 x1]] w1272 fun e162 w1273 =>
                      ∃ b205 : Bool, ∃ s193 : Slc, ∃ x210 : Int, e162 = .returned (Value.agg #[Value.bool b205, s193.v, Value.int .i64 x210]) ∧
                      (Bar (V1 2) w1272 w1273 ∧
                       (Bar (V1 4) w1272 w1273 ∧
                        (Calls Tryd.prog 12 #[Value.agg #[Value.bool b2, s2.v, Value.int .i64 x2]] w1273 fun e163 w1274 =>
                         ∃ b206 : Bool, ∃ s194 : Slc, ∃ x211 : Int, e163 = .returned (Value.agg #[Value.bool b206, s194.v, Value.int .i64 x211]) ∧
                         (Bar (V1 4) w1273 w1274 ∧
                          (Calls Tryd.prog 12 #[Value.agg #[Value.bool b3, s3.v, Value.int .i64 x3]] w1274 fun e164 w1275 =>
                           ∃ b207 : Bool, ∃ s195 : Slc, ∃ x212 : Int, e164 = .returned (Value.agg #[Value.bool b207, s195.v, Value.int .i64 x212]) ∧
                           (stC ad181 (Value.bool b205) w1275 fun w1276 =>
                            stC (ad181.add 1) s193.v w1276 fun w1277 =>
                            stC (ad181.add 2) (Value.int .i64 x210) w1277 fun w1278 =>
                            stC ad153 (Value.bool b206) w1278 fun w1279 =>
                            stC (ad153.add 1) s194.v w1279 fun w1280 =>
                            stC (ad153.add 2) (Value.int .i64 x211) w1280 fun w1281 =>
                            stC ad177 (Value.bool b207) w1281 fun w1282 =>
                            stC (ad177.add 1) s195.v w1282 fun w1283 =>
                            stC (ad177.add 2) (Value.int .i64 x212) w1283 fun w1284 =>
                            K3 ad181 ad153 ad177 w1284))))))))))))))))))) ∧
         (newC w3.drew #[Value.bool false, (⟨none, 0, 0⟩ : Slc).v, Value.int .i64 0] 39 fun ad182 w1285 =>
          Bar (V1 0) w3.drew w1285 ∧
          (Bar (V1 2) w3.drew w1285 ∧
           (Bar (V1 4) w3.drew w1285 ∧
            ((Calls Tryd.prog 12 #[Value.agg #[Value.bool b1, s1.v, Value.int .i64 x1]] w1285 fun e165 w1286 =>
              ∃ b208 : Bool, ∃ s196 : Slc, ∃ x213 : Int, e165 = .returned (Value.agg #[Value.bool b208, s196.v, Value.int .i64 x213]) ∧
              (Bar (V1 2) w1285 w1286 ∧
               (Bar (V1 4) w1285 w1286 ∧
                ((Calls Tryd.prog 12 #[Value.agg #[Value.bool b2, s2.v, Value.int .i64 x2]] w1286 fun e166 w1287 =>
                  ∃ b209 : Bool, ∃ s197 : Slc, ∃ x214 : Int, e166 = .returned (Value.agg #[Value.bool b209, s197.v, Value.int .i64 x214]) ∧
                  (Bar (V1 4) w1286 w1287 ∧
                   ((Calls Tryd.prog 12 #[Value.agg #[Value.bool b3, s3.v, Value.int .i64 x3]] w1287 fun e167 w1288 =>
                     ∃ b210 : Bool, ∃ s198 : Slc, ∃ x215 : Int, e167 = .returned (Value.agg #[Value.bool b210, s198.v, Value.int .i64 x215]) ∧
                     ((newC w1288 #[Value.bool false, (⟨none, 0, 0⟩ : Slc).v, Value.int .i64 0] 39 fun ad183 w1289 =>
                       Bar (V1 0) w1288 w1289 ∧
                       (Bar (V1 2) w1288 w1289 ∧
                        (Bar (V1 4) w1288 w1289 ∧
                         (newC w1289 #[Value.bool false, (⟨none, 0, 0⟩ : Slc).v, Value.int .i64 0] 39 fun ad184 w1290 =>
                          Bar (V1 0) w1289 w1290 ∧
                          (Bar (V1 2) w1289 w1290 ∧
                           (Bar (V1 4) w1289 w1290 ∧
                            (stC ad183 (Value.bool b208) w1290 fun w1291 =>
                             stC (ad183.add 1) s196.v w1291 fun w1292 =>
                             stC (ad183.add 2) (Value.int .i64 x213) w1292 fun w1293 =>
                             stC ad184 (Value.bool b209) w1293 fun w1294 =>
                             stC (ad184.add 1) s197.v w1294 fun w1295 =>
                             stC (ad184.add 2) (Value.int .i64 x214) w1295 fun w1296 =>
                             stC ad182 (Value.bool b210) w1296 fun w1297 =>
                             stC (ad182.add 1) s198.v w1297 fun w1298 =>
                             stC (ad182.add 2) (Value.int .i64 x215) w1298 fun w1299 =>
                             K3 ad183 ad184 ad182 w1299))))))) ∧
                      (newC w1288 #[Value.bool false, (⟨none, 0, 0⟩ : Slc).v, Value.int .i64 0] 39 fun ad185 w1300 =>
                       Bar (V1 0) w1288 w1300 ∧
                       (Bar (V1 2) w1288 w1300 ∧
                        (Bar (V1 4) w1288 w1300 ∧
                         (newC w1300 #[Value.bool false, (⟨none, 0, 0⟩ : Slc).v, Value.int .i64 0] 39 fun ad186 w1301 =>
                          Bar (V1 0) w1300 w1301 ∧
                          (Bar (V1 2) w1300 w1301 ∧
                           (Bar (V1 4) w1300 w1301 ∧
                            (stC ad186 (Value.bool b208) w1301 fun w1302 =>
                             stC (ad186.add 1) s196.v w1302 fun w1303 =>
                             stC (ad186.add 2) (Value.int .i64 x213) w1303 fun w1304 =>
                             stC ad185 (Value.bool b209) w1304 fun w1305 =>
                             stC (ad185.add 1) s197.v w1305 fun w1306 =>
                             stC (ad185.add 2) (Value.int .i64 x214) w1306 fun w1307 =>
                             stC ad182 (Value.bool b210) w1307 fun w1308 =>
                             stC (ad182.add 1) s198.v w1308 fun w1309 =>
                             stC (ad182.add 2) (Value.int .i64 x215) w1309 fun w1310 =>
                             K3 ad186 ad185 ad182 w1310))))))))) ∧
                    ((newC w1287 #[Value.bool false, (⟨none, 0, 0⟩ : Slc).v, Value.int .i64 0] 39 fun ad187 w1311 =>
                      Bar (V1 0) w1287 w1311 ∧
                      (Bar (V1 2) w1287 w1311 ∧
                       (Bar (V1 4) w1287 w1311 ∧
                        ((Calls Tryd.prog 12 #[Value.agg #[Value.bool b3, s3.v, Value.int .i64 x3]] w1311 fun e168 w1312 =>
                          ∃ b211 : Bool, ∃ s199 : Slc, ∃ x216 : Int, e168 = .returned (Value.agg #[Value.bool b211, s199.v, Value.int .i64 x216]) ∧
                          (newC w1312 #[Value.bool false, (⟨none, 0, 0⟩ : Slc).v, Value.int .i64 0] 39 fun ad188 w1313 =>
                           Bar (V1 0) w1312 w1313 ∧
                           (Bar (V1 2) w1312 w1313 ∧
                            (Bar (V1 4) w1312 w1313 ∧
                             (stC ad187 (Value.bool b208) w1313 fun w1314 =>
                              stC (ad187.add 1) s196.v w1314 fun w1315 =>
                              stC (ad187.add 2) (Value.int .i64 x213) w1315 fun w1316 =>
                              stC ad188 (Value.bool b209) w1316 fun w1317 =>
                              stC (ad188.add 1) s197.v w1317 fun w1318 =>
                              stC (ad188.add 2) (Value.int .i64 x214) w1318 fun w1319 =>
                              stC ad182 (Value.bool b211) w1319 fun w1320 =>
                              stC (ad182.add 1) s199.v w1320 fun w1321 =>
                              stC (ad182.add 2) (Value.int .i64 x216) w1321 fun w1322 =>
                              K3 ad187 ad188 ad182 w1322))))) ∧
                         (newC w1311 #[Value.bool false, (⟨none, 0, 0⟩ : Slc).v, Value.int .i64 0] 39 fun ad189 w1323 =>
                          Bar (V1 0) w1311 w1323 ∧
                          (Bar (V1 2) w1311 w1323 ∧
                           (Bar (V1 4) w1311 w1323 ∧
                            (Calls Tryd.prog 12 #[Value.agg #[Value.bool b3, s3.v, Value.int .i64 x3]] w1323 fun e169 w1324 =>
                             ∃ b212 : Bool, ∃ s200 : Slc, ∃ x217 : Int, e169 = .returned (Value.agg #[Value.bool b212, s200.v, Value.int .i64 x217]) ∧
                             (stC ad187 (Value.bool b208) w1324 fun w1325 =>
                              stC (ad187.add 1) s196.v w1325 fun w1326 =>
                              stC (ad187.add 2) (Value.int .i64 x213) w1326 fun w1327 =>
                              stC ad189 (Value.bool b209) w1327 fun w1328 =>
                              stC (ad189.add 1) s197.v w1328 fun w1329 =>
                              stC (ad189.add 2) (Value.int .i64 x214) w1329 fun w1330 =>
                              stC ad182 (Value.bool b212) w1330 fun w1331 =>
                              stC (ad182.add 1) s200.v w1331 fun w1332 =>
                              stC (ad182.add 2) (Value.int .i64 x217) w1332 fun w1333 =>
                              K3 ad187 ad189 ad182 w1333))))))))) ∧
                     (newC w1287 #[Value.bool false, (⟨none, 0, 0⟩ : Slc).v, Value.int .i64 0] 39 fun ad190 w1334 =>
                      Bar (V1 0) w1287 w1334 ∧
                      (Bar (V1 2) w1287 w1334 ∧
                       (Bar (V1 4) w1287 w1334 ∧
                        ((Calls Tryd.prog 12 #[Value.agg #[Value.bool b3, s3.v, Value.int .i64 x3]] w1334 fun e170 w1335 =>
                          ∃ b213 : Bool, ∃ s201 : Slc, ∃ x218 : Int, e170 = .returned (Value.agg #[Value.bool b213, s201.v, Value.int .i64 x218]) ∧
                          (newC w1335 #[Value.bool false, (⟨none, 0, 0⟩ : Slc).v, Value.int .i64 0] 39 fun ad191 w1336 =>
                           Bar (V1 0) w1335 w1336 ∧
                           (Bar (V1 2) w1335 w1336 ∧
                            (Bar (V1 4) w1335 w1336 ∧
                             (stC ad191 (Value.bool b208) w1336 fun w1337 =>
                              stC (ad191.add 1) s196.v w1337 fun w1338 =>
                              stC (ad191.add 2) (Value.int .i64 x213) w1338 fun w1339 =>
                              stC ad190 (Value.bool b209) w1339 fun w1340 =>
                              stC (ad190.add 1) s197.v w1340 fun w1341 =>
                              stC (ad190.add 2) (Value.int .i64 x214) w1341 fun w1342 =>
                              stC ad182 (Value.bool b213) w1342 fun w1343 =>
                              stC (ad182.add 1) s201.v w1343 fun w1344 =>
                              stC (ad182.add 2) (Value.int .i64 x218) w1344 fun w1345 =>
                              K3 ad191 ad190 ad182 w1345))))) ∧
                         (newC w1334 #[Value.bool false, (⟨none, 0, 0⟩ : Slc).v, Value.int .i64 0] 39 fun ad192 w1346 =>
                          Bar (V1 0) w1334 w1346 ∧
                          (Bar (V1 2) w1334 w1346 ∧
                           (Bar (V1 4) w1334 w1346 ∧
                            (Calls Tryd.prog 12 #[Value.agg #[Value.bool b3, s3.v, Value.int .i64 x3]] w1346 fun e171 w1347 =>
                             ∃ b214 : Bool, ∃ s202 : Slc, ∃ x219 : Int, e171 = .returned (Value.agg #[Value.bool b214, s202.v, Value.int .i64 x219]) ∧
                             (stC ad192 (Value.bool b208) w1347 fun w1348 =>
                              stC (ad192.add 1) s196.v w1348 fun w1349 =>
                              stC (ad192.add 2) (Value.int .i64 x213) w1349 fun w1350 =>
                              stC ad190 (Value.bool b209) w1350 fun w1351 =>
                              stC (ad190.add 1) s197.v w1351 fun w1352 =>
                              stC (ad190.add 2) (Value.int .i64 x214) w1352 fun w1353 =>
                              stC ad182 (Value.bool b214) w1353 fun w1354 =>
                              stC (ad182.add 1) s202.v w1354 fun w1355 =>
                              stC (ad182.add 2) (Value.int .i64 x219) w1355 fun w1356 =>
                              K3 ad192 ad190 ad182 w1356))))))))))))) ∧
                 ((newC w1286 #[Value.bool false, (⟨none, 0, 0⟩ : Slc).v, Value.int .i64 0] 39 fun ad193 w1357 =>
                   Bar (V1 0) w1286 w1357 ∧
                   (Bar (V1 2) w1286 w1357 ∧
                    (Bar (V1 4) w1286 w1357 ∧
                     ((Calls Tryd.prog 12 #[Value.agg #[Value.bool b2, s2.v, Value.int .i64 x2]] w1357 fun e172 w1358 =>
                       ∃ b215 : Bool, ∃ s203 : Slc, ∃ x220 : Int, e172 = .returned (Value.agg #[Value.bool b215, s203.v, Value.int .i64 x220]) ∧
                       (Bar (V1 4) w1357 w1358 ∧
                        ((Calls Tryd.prog 12 #[Value.agg #[Value.bool b3, s3.v, Value.int .i64 x3]] w1358 fun e173 w1359 =>
                          ∃ b216 : Bool, ∃ s204 : Slc, ∃ x221 : Int, e173 = .returned (Value.agg #[Value.bool b216, s204.v, Value.int .i64 x221]) ∧
                          (newC w1359 #[Value.bool false, (⟨none, 0, 0⟩ : Slc).v, Value.int .i64 0] 39 fun ad194 w1360 =>
                           Bar (V1 0) w1359 w1360 ∧
                           (Bar (V1 2) w1359 w1360 ∧
                            (Bar (V1 4) w1359 w1360 ∧
                             (stC ad193 (Value.bool b208) w1360 fun w1361 =>
                              stC (ad193.add 1) s196.v w1361 fun w1362 =>
                              stC (ad193.add 2) (Value.int .i64 x213) w1362 fun w1363 =>
                              stC ad194 (Value.bool b215) w1363 fun w1364 =>
                              stC (ad194.add 1) s203.v w1364 fun w1365 =>
                              stC (ad194.add 2) (Value.int .i64 x220) w1365 fun w1366 =>
                              stC ad182 (Value.bool b216) w1366 fun w1367 =>
                              stC (ad182.add 1) s204.v w1367 fun w1368 =>
                              stC (ad182.add 2) (Value.int .i64 x221) w1368 fun w1369 =>
                              K3 ad193 ad194 ad182 w1369))))) ∧
                         (newC w1358 #[Value.bool false, (⟨none, 0, 0⟩ : Slc).v, Value.int .i64 0] 39 fun ad195 w1370 =>
                          Bar (V1 0) w1358 w1370 ∧
                          (Bar (V1 2) w1358 w1370 ∧
                           (Bar (V1 4) w1358 w1370 ∧
                            (Calls Tryd.prog 12 #[Value.agg #[Value.bool b3, s3.v, Value.int .i64 x3]] w1370 fun e174 w1371 =>
                             ∃ b217 : Bool, ∃ s205 : Slc, ∃ x222 : Int, e174 = .returned (Value.agg #[Value.bool b217, s205.v, Value.int .i64 x222]) ∧
                             (stC ad193 (Value.bool b208) w1371 fun w1372 =>
                              stC (ad193.add 1) s196.v w1372 fun w1373 =>
                              stC (ad193.add 2) (Value.int .i64 x213) w1373 fun w1374 =>
                              stC ad195 (Value.bool b215) w1374 fun w1375 =>
                              stC (ad195.add 1) s203.v w1375 fun w1376 =>
                              stC (ad195.add 2) (Value.int .i64 x220) w1376 fun w1377 =>
                              stC ad182 (Value.bool b217) w1377 fun w1378 =>
                              stC (ad182.add 1) s205.v w1378 fun w1379 =>
                              stC (ad182.add 2) (Value.int .i64 x222) w1379 fun w1380 =>
                              K3 ad193 ad195 ad182 w1380)))))))) ∧
                      (newC w1357 #[Value.bool false, (⟨none, 0, 0⟩ : Slc).v, Value.int .i64 0] 39 fun ad196 w1381 =>
                       Bar (V1 0) w1357 w1381 ∧
                       (Bar (V1 2) w1357 w1381 ∧
                        (Bar (V1 4) w1357 w1381 ∧
                         (Calls Tryd.prog 12 #[Value.agg #[Value.bool b2, s2.v, Value.int .i64 x2]] w1381 fun e175 w1382 =>
                          ∃ b218 : Bool, ∃ s206 : Slc, ∃ x223 : Int, e175 = .returned (Value.agg #[Value.bool b218, s206.v, Value.int .i64 x223]) ∧
                          (Bar (V1 4) w1381 w1382 ∧
                           (Calls Tryd.prog 12 #[Value.agg #[Value.bool b3, s3.v, Value.int .i64 x3]] w1382 fun e176 w1383 =>
                            ∃ b219 : Bool, ∃ s207 : Slc, ∃ x224 : Int, e176 = .returned (Value.agg #[Value.bool b219, s207.v, Value.int .i64 x224]) ∧
                            (stC ad193 (Value.bool b208) w1383 fun w1384 =>
                             stC (ad193.add 1) s196.v w1384 fun w1385 =>
                             stC (ad193.add 2) (Value.int .i64 x213) w1385 fun w1386 =>
                             stC ad196 (Value.bool b218) w1386 fun w1387 =>
                             stC (ad196.add 1) s206.v w1387 fun w1388 =>
                             stC (ad196.add 2) (Value.int .i64 x223) w1388 fun w1389 =>
                             stC ad182 (Value.bool b219) w1389 fun w1390 =>
                             stC (ad182.add 1) s207.v w1390 fun w1391 =>
                             stC (ad182.add 2) (Value.int .i64 x224) w1391 fun w1392 =>
                             K3 ad193 ad196 ad182 w1392))))))))))) ∧
                  (newC w1286 #[Value.bool false, (⟨none, 0, 0⟩ : Slc).v, Value.int .i64 0] 39 fun ad197 w1393 =>
                   Bar (V1 0) w1286 w1393 ∧
                   (Bar (V1 2) w1286 w1393 ∧
                    (Bar (V1 4) w1286 w1393 ∧
                     ((Calls Tryd.prog 12 #[Value.agg #[Value.bool b2, s2.v, Value.int .i64 x2]] w1393 fun e177 w1394 =>
                       ∃ b220 : Bool, ∃ s208 : Slc, ∃ x225 : Int, e177 = .returned (Value.agg #[Value.bool b220, s208.v, Value.int .i64 x225]) ∧
                       (Bar (V1 4) w1393 w1394 ∧
                        ((Calls Tryd.prog 12 #[Value.agg #[Value.bool b3, s3.v, Value.int .i64 x3]] w1394 fun e178 w1395 =>
                          ∃ b221 : Bool, ∃ s209 : Slc, ∃ x226 : Int, e178 = .returned (Value.agg #[Value.bool b221, s209.v, Value.int .i64 x226]) ∧
                          (newC w1395 #[Value.bool false, (⟨none, 0, 0⟩ : Slc).v, Value.int .i64 0] 39 fun ad198 w1396 =>
                           Bar (V1 0) w1395 w1396 ∧
                           (Bar (V1 2) w1395 w1396 ∧
                            (Bar (V1 4) w1395 w1396 ∧
                             (stC ad198 (Value.bool b208) w1396 fun w1397 =>
                              stC (ad198.add 1) s196.v w1397 fun w1398 =>
                              stC (ad198.add 2) (Value.int .i64 x213) w1398 fun w1399 =>
                              stC ad197 (Value.bool b220) w1399 fun w1400 =>
                              stC (ad197.add 1) s208.v w1400 fun w1401 =>
                              stC (ad197.add 2) (Value.int .i64 x225) w1401 fun w1402 =>
                              stC ad182 (Value.bool b221) w1402 fun w1403 =>
                              stC (ad182.add 1) s209.v w1403 fun w1404 =>
                              stC (ad182.add 2) (Value.int .i64 x226) w1404 fun w1405 =>
                              K3 ad198 ad197 ad182 w1405))))) ∧
                         (newC w1394 #[Value.bool false, (⟨none, 0, 0⟩ : Slc).v, Value.int .i64 0] 39 fun ad199 w1406 =>
                          Bar (V1 0) w1394 w1406 ∧
                          (Bar (V1 2) w1394 w1406 ∧
                           (Bar (V1 4) w1394 w1406 ∧
                            (Calls Tryd.prog 12 #[Value.agg #[Value.bool b3, s3.v, Value.int .i64 x3]] w1406 fun e179 w1407 =>
                             ∃ b222 : Bool, ∃ s210 : Slc, ∃ x227 : Int, e179 = .returned (Value.agg #[Value.bool b222, s210.v, Value.int .i64 x227]) ∧
                             (stC ad199 (Value.bool b208) w1407 fun w1408 =>
                              stC (ad199.add 1) s196.v w1408 fun w1409 =>
                              stC (ad199.add 2) (Value.int .i64 x213) w1409 fun w1410 =>
                              stC ad197 (Value.bool b220) w1410 fun w1411 =>
                              stC (ad197.add 1) s208.v w1411 fun w1412 =>
                              stC (ad197.add 2) (Value.int .i64 x225) w1412 fun w1413 =>
                              stC ad182 (Value.bool b222) w1413 fun w1414 =>
                              stC (ad182.add 1) s210.v w1414 fun w1415 =>
                              stC (ad182.add 2) (Value.int .i64 x227) w1415 fun w1416 =>
                              K3 ad199 ad197 ad182 w1416)))))))) ∧
                      (newC w1393 #[Value.bool false, (⟨none, 0, 0⟩ : Slc).v, Value.int .i64 0] 39 fun ad200 w1417 =>
                       Bar (V1 0) w1393 w1417 ∧
                       (Bar (V1 2) w1393 w1417 ∧
                        (Bar (V1 4) w1393 w1417 ∧
                         (Calls Tryd.prog 12 #[Value.agg #[Value.bool b2, s2.v, Value.int .i64 x2]] w1417 fun e180 w1418 =>
                          ∃ b223 : Bool, ∃ s211 : Slc, ∃ x228 : Int, e180 = .returned (Value.agg #[Value.bool b223, s211.v, Value.int .i64 x228]) ∧
                          (Bar (V1 4) w1417 w1418 ∧
                           (Calls Tryd.prog 12 #[Value.agg #[Value.bool b3, s3.v, Value.int .i64 x3]] w1418 fun e181 w1419 =>
                            ∃ b224 : Bool, ∃ s212 : Slc, ∃ x229 : Int, e181 = .returned (Value.agg #[Value.bool b224, s212.v, Value.int .i64 x229]) ∧
                            (stC ad200 (Value.bool b208) w1419 fun w1420 =>
                             stC (ad200.add 1) s196.v w1420 fun w1421 =>
                             stC (ad200.add 2) (Value.int .i64 x213) w1421 fun w1422 =>
                             stC ad197 (Value.bool b223) w1422 fun w1423 =>
                             stC (ad197.add 1) s211.v w1423 fun w1424 =>
                             stC (ad197.add 2) (Value.int .i64 x228) w1424 fun w1425 =>
                             stC ad182 (Value.bool b224) w1425 fun w1426 =>
                             stC (ad182.add 1) s212.v w1426 fun w1427 =>
                             stC (ad182.add 2) (Value.int .i64 x229) w1427 fun w1428 =>
                             K3 ad200 ad197 ad182 w1428)))))))))))))))) ∧
             ((newC w1285 #[Value.bool false, (⟨none, 0, 0⟩ : Slc).v, Value.int .i64 0] 39 fun ad201 w1429 =>
               Bar (V1 0) w1285 w1429 ∧
               (Bar (V1 2) w1285 w1429 ∧
                (Bar (V1 4) w1285 w1429 ∧
                 ((Calls Tryd.prog 12 #[Value.agg #[Value.bool b1, s1.v, Value.int .i64 x1]] w1429 fun e182 w1430 =>
                   ∃ b225 : Bool, ∃ s213 : Slc, ∃ x230 : Int, e182 = .returned (Value.agg #[Value.bool b225, s213.v, Value.int .i64 x230]) ∧
                   (Bar (V1 2) w1429 w1430 ∧
                    (Bar (V1 4) w1429 w1430 ∧
                     ((Calls Tryd.prog 12 #[Value.agg #[Value.bool b2, s2.v, Value.int .i64 x2]] w1430 fun e183 w1431 =>
                       ∃ b226 : Bool, ∃ s214 : Slc, ∃ x231 : Int, e183 = .returned (Value.agg #[Value.bool b226, s214.v, Value.int .i64 x231]) ∧
                       (Bar (V1 4) w1430 w1431 ∧
                        ((Calls Tryd.prog 12 #[Value.agg #[Value.bool b3, s3.v, Value.int .i64 x3]] w1431 fun e184 w1432 =>
                          ∃ b227 : Bool, ∃ s215 : Slc, ∃ x232 : Int, e184 = .returned (Value.agg #[Value.bool b227, s215.v, Value.int .i64 x232]) ∧
                          (newC w1432 #[Value.bool false, (⟨none, 0, 0⟩ : Slc).v, Value.int .i64 0] 39 fun ad202 w1433 =>
                           Bar (V1 0) w1432 w1433 ∧
                           (Bar (V1 2) w1432 w1433 ∧
                            (Bar (V1 4) w1432 w1433 ∧
                             (stC ad201 (Value.bool b225) w1433 fun w1434 =>
                              stC (ad201.add 1) s213.v w1434 fun w1435 =>
                              stC (ad201.add 2) (Value.int .i64 x230) w1435 fun w1436 =>
                              stC ad202 (Value.bool b226) w1436 fun w1437 =>
                              stC (ad202.add 1) s214.v w1437 fun w1438 =>
                              stC (ad202.add 2) (Value.int .i64 x231) w1438 fun w1439 =>
                              stC ad182 (Value.bool b227) w1439 fun w1440 =>
                              stC (ad182.add 1) s215.v w1440 fun w1441 =>
                              stC (ad182.add 2) (Value.int .i64 x232) w1441 fun w1442 =>
                              K3 ad201 ad202 ad182 w1442))))) ∧
                         (newC w1431 #[Value.bool false, (⟨none, 0, 0⟩ : Slc).v, Value.int .i64 0] 39 fun ad203 w1443 =>
                          Bar (V1 0) w1431 w1443 ∧
                          (Bar (V1 2) w1431 w1443 ∧
                           (Bar (V1 4) w1431 w1443 ∧
                            (Calls Tryd.prog 12 #[Value.agg #[Value.bool b3, s3.v, Value.int .i64 x3]] w1443 fun e185 w1444 =>
                             ∃ b228 : Bool, ∃ s216 : Slc, ∃ x233 : Int, e185 = .returned (Value.agg #[Value.bool b228, s216.v, Value.int .i64 x233]) ∧
                             (stC ad201 (Value.bool b225) w1444 fun w1445 =>
                              stC (ad201.add 1) s213.v w1445 fun w1446 =>
                              stC (ad201.add 2) (Value.int .i64 x230) w1446 fun w1447 =>
                              stC ad203 (Value.bool b226) w1447 fun w1448 =>
                              stC (ad203.add 1) s214.v w1448 fun w1449 =>
                              stC (ad203.add 2) (Value.int .i64 x231) w1449 fun w1450 =>
                              stC ad182 (Value.bool b228) w1450 fun w1451 =>
                              stC (ad182.add 1) s216.v w1451 fun w1452 =>
                              stC (ad182.add 2) (Value.int .i64 x233) w1452 fun w1453 =>
                              K3 ad201 ad203 ad182 w1453)))))))) ∧
                      (newC w1430 #[Value.bool false, (⟨none, 0, 0⟩ : Slc).v, Value.int .i64 0] 39 fun ad204 w1454 =>
                       Bar (V1 0) w1430 w1454 ∧
                       (Bar (V1 2) w1430 w1454 ∧
                        (Bar (V1 4) w1430 w1454 ∧
                         (Calls Tryd.prog 12 #[Value.agg #[Value.bool b2, s2.v, Value.int .i64 x2]] w1454 fun e186 w1455 =>
                          ∃ b229 : Bool, ∃ s217 : Slc, ∃ x234 : Int, e186 = .returned (Value.agg #[Value.bool b229, s217.v, Value.int .i64 x234]) ∧
                          (Bar (V1 4) w1454 w1455 ∧
                           (Calls Tryd.prog 12 #[Value.agg #[Value.bool b3, s3.v, Value.int .i64 x3]] w1455 fun e187 w1456 =>
                            ∃ b230 : Bool, ∃ s218 : Slc, ∃ x235 : Int, e187 = .returned (Value.agg #[Value.bool b230, s218.v, Value.int .i64 x235]) ∧
                            (stC ad201 (Value.bool b225) w1456 fun w1457 =>
                             stC (ad201.add 1) s213.v w1457 fun w1458 =>
                             stC (ad201.add 2) (Value.int .i64 x230) w1458 fun w1459 =>
                             stC ad204 (Value.bool b229) w1459 fun w1460 =>
                             stC (ad204.add 1) s217.v w1460 fun w1461 =>
                             stC (ad204.add 2) (Value.int .i64 x234) w1461 fun w1462 =>
                             stC ad182 (Value.bool b230) w1462 fun w1463 =>
                             stC (ad182.add 1) s218.v w1463 fun w1464 =>
                             stC (ad182.add 2) (Value.int .i64 x235) w1464 fun w1465 =>
                             K3 ad201 ad204 ad182 w1465))))))))))) ∧
                  (newC w1429 #[Value.bool false, (⟨none, 0, 0⟩ : Slc).v, Value.int .i64 0] 39 fun ad205 w1466 =>
                   Bar (V1 0) w1429 w1466 ∧
                   (Bar (V1 2) w1429 w1466 ∧
                    (Bar (V1 4) w1429 w1466 ∧
                     (Calls Tryd.prog 12 #[Value.agg #[Value.bool b1, s1.v, Value.int .i64 x1]] w1466 fun e188 w1467 =>
                      ∃ b231 : Bool, ∃ s219 : Slc, ∃ x236 : Int, e188 = .returned (Value.agg #[Value.bool b231, s219.v, Value.int .i64 x236]) ∧
                      (Bar (V1 2) w1466 w1467 ∧
                       (Bar (V1 4) w1466 w1467 ∧
                        (Calls Tryd.prog 12 #[Value.agg #[Value.bool b2, s2.v, Value.int .i64 x2]] w1467 fun e189 w1468 =>
                         ∃ b232 : Bool, ∃ s220 : Slc, ∃ x237 : Int, e189 = .returned (Value.agg #[Value.bool b232, s220.v, Value.int .i64 x237]) ∧
                         (Bar (V1 4) w1467 w1468 ∧
                          (Calls Tryd.prog 12 #[Value.agg #[Value.bool b3, s3.v, Value.int .i64 x3]] w1468 fun e190 w1469 =>
                           ∃ b233 : Bool, ∃ s221 : Slc, ∃ x238 : Int, e190 = .returned (Value.agg #[Value.bool b233, s221.v, Value.int .i64 x238]) ∧
                           (stC ad201 (Value.bool b231) w1469 fun w1470 =>
                            stC (ad201.add 1) s219.v w1470 fun w1471 =>
                            stC (ad201.add 2) (Value.int .i64 x236) w1471 fun w1472 =>
                            stC ad205 (Value.bool b232) w1472 fun w1473 =>
                            stC (ad205.add 1) s220.v w1473 fun w1474 =>
                            stC (ad205.add 2) (Value.int .i64 x237) w1474 fun w1475 =>
                            stC ad182 (Value.bool b233) w1475 fun w1476 =>
                            stC (ad182.add 1) s221.v w1476 fun w1477 =>
                            stC (ad182.add 2) (Value.int .i64 x238) w1477 fun w1478 =>
                            K3 ad201 ad205 ad182 w1478)))))))))))))) ∧
              (newC w1285 #[Value.bool false, (⟨none, 0, 0⟩ : Slc).v, Value.int .i64 0] 39 fun ad206 w1479 =>
               Bar (V1 0) w1285 w1479 ∧
               (Bar (V1 2) w1285 w1479 ∧
                (Bar (V1 4) w1285 w1479 ∧
                 ((Calls Tryd.prog 12 #[Value.agg #[Value.bool b1, s1.v, Value.int .i64 x1]] w1479 fun e191 w1480 =>
                   ∃ b234 : Bool, ∃ s222 : Slc, ∃ x239 : Int, e191 = .returned (Value.agg #[Value.bool b234, s222.v, Value.int .i64 x239]) ∧
                   (Bar (V1 2) w1479 w1480 ∧
                    (Bar (V1 4) w1479 w1480 ∧
                     ((Calls Tryd.prog 12 #[Value.agg #[Value.bool b2, s2.v, Value.int .i64 x2]] w1480 fun e192 w1481 =>
                       ∃ b235 : Bool, ∃ s223 : Slc, ∃ x240 : Int, e192 = .returned (Value.agg #[Value.bool b235, s223.v, Value.int .i64 x240]) ∧
                       (Bar (V1 4) w1480 w1481 ∧
                        ((Calls Tryd.prog 12 #[Value.agg #[Value.bool b3, s3.v, Value.int .i64 x3]] w1481 fun e193 w1482 =>
                          ∃ b236 : Bool, ∃ s224 : Slc, ∃ x241 : Int, e193 = .returned (Value.agg #[Value.bool b236, s224.v, Value.int .i64 x241]) ∧
                          (newC w1482 #[Value.bool false, (⟨none, 0, 0⟩ : Slc).v, Value.int .i64 0] 39 fun ad207 w1483 =>
                           Bar (V1 0) w1482 w1483 ∧
                           (Bar (V1 2) w1482 w1483 ∧
                            (Bar (V1 4) w1482 w1483 ∧
                             (stC ad207 (Value.bool b234) w1483 fun w1484 =>
                              stC (ad207.add 1) s222.v w1484 fun w1485 =>
                              stC (ad207.add 2) (Value.int .i64 x239) w1485 fun w1486 =>
                              stC ad206 (Value.bool b235) w1486 fun w1487 =>
                              stC (ad206.add 1) s223.v w1487 fun w1488 =>
                              stC (ad206.add 2) (Value.int .i64 x240) w1488 fun w1489 =>
                              stC ad182 (Value.bool b236) w1489 fun w1490 =>
                              stC (ad182.add 1) s224.v w1490 fun w1491 =>
                              stC (ad182.add 2) (Value.int .i64 x241) w1491 fun w1492 =>
                              K3 ad207 ad206 ad182 w1492))))) ∧
                         (newC w1481 #[Value.bool false, (⟨none, 0, 0⟩ : Slc).v, Value.int .i64 0] 39 fun ad208 w1493 =>
                          Bar (V1 0) w1481 w1493 ∧
                          (Bar (V1 2) w1481 w1493 ∧
                           (Bar (V1 4) w1481 w1493 ∧
                            (Calls Tryd.prog 12 #[Value.agg #[Value.bool b3, s3.v, Value.int .i64 x3]] w1493 fun e194 w1494 =>
                             ∃ b237 : Bool, ∃ s225 : Slc, ∃ x242 : Int, e194 = .returned (Value.agg #[Value.bool b237, s225.v, Value.int .i64 x242]) ∧
                             (stC ad208 (Value.bool b234) w1494 fun w1495 =>
                              stC (ad208.add 1) s222.v w1495 fun w1496 =>
                              stC (ad208.add 2) (Value.int .i64 x239) w1496 fun w1497 =>
                              stC ad206 (Value.bool b235) w1497 fun w1498 =>
                              stC (ad206.add 1) s223.v w1498 fun w1499 =>
                              stC (ad206.add 2) (Value.int .i64 x240) w1499 fun w1500 =>
                              stC ad182 (Value.bool b237) w1500 fun w1501 =>
                              stC (ad182.add 1) s225.v w1501 fun w1502 =>
                              stC (ad182.add 2) (Value.int .i64 x242) w1502 fun w1503 =>
                              K3 ad208 ad206 ad182 w1503)))))))) ∧
                      (newC w1480 #[Value.bool false, (⟨none, 0, 0⟩ : Slc).v, Value.int .i64 0] 39 fun ad209 w1504 =>
                       Bar (V1 0) w1480 w1504 ∧
                       (Bar (V1 2) w1480 w1504 ∧
                        (Bar (V1 4) w1480 w1504 ∧
                         (Calls Tryd.prog 12 #[Value.agg #[Value.bool b2, s2.v, Value.int .i64 x2]] w1504 fun e195 w1505 =>
                          ∃ b238 : Bool, ∃ s226 : Slc, ∃ x243 : Int, e195 = .returned (Value.agg #[Value.bool b238, s226.v, Value.int .i64 x243]) ∧
                          (Bar (V1 4) w1504 w1505 ∧
                           (Calls Tryd.prog 12 #[Value.agg #[Value.bool b3, s3.v, Value.int .i64 x3]] w1505 fun e196 w1506 =>
                            ∃ b239 : Bool, ∃ s227 : Slc, ∃ x244 : Int, e196 = .returned (Value.agg #[Value.bool b239, s227.v, Value.int .i64 x244]) ∧
                            (stC ad209 (Value.bool b234) w1506 fun w1507 =>
                             stC (ad209.add 1) s222.v w1507 fun w1508 =>
                             stC (ad209.add 2) (Value.int .i64 x239) w1508 fun w1509 =>
                             stC ad206 (Value.bool b238) w1509 fun w1510 =>
                             stC (ad206.add 1) s226.v w1510 fun w1511 =>
                             stC (ad206.add 2) (Value.int .i64 x243) w1511 fun w1512 =>
                             stC ad182 (Value.bool b239) w1512 fun w1513 =>
                             stC (ad182.add 1) s227.v w1513 fun w1514 =>
                             stC (ad182.add 2) (Value.int .i64 x244) w1514 fun w1515 =>
                             K3 ad209 ad206 ad182 w1515))))))))))) ∧
                  (newC w1479 #[Value.bool false, (⟨none, 0, 0⟩ : Slc).v, Value.int .i64 0] 39 fun ad210 w1516 =>
                   Bar (V1 0) w1479 w1516 ∧
                   (Bar (V1 2) w1479 w1516 ∧
                    (Bar (V1 4) w1479 w1516 ∧
                     (Calls Tryd.prog 12 #[Value.agg #[Value.bool b1, s1.v, Value.int .i64 x1]] w1516 fun e197 w1517 =>
                      ∃ b240 : Bool, ∃ s228 : Slc, ∃ x245 : Int, e197 = .returned (Value.agg #[Value.bool b240, s228.v, Value.int .i64 x245]) ∧
                      (Bar (V1 2) w1516 w1517 ∧
                       (Bar (V1 4) w1516 w1517 ∧
                        (Calls Tryd.prog 12 #[Value.agg #[Value.bool b2, s2.v, Value.int .i64 x2]] w1517 fun e198 w1518 =>
                         ∃ b241 : Bool, ∃ s229 : Slc, ∃ x246 : Int, e198 = .returned (Value.agg #[Value.bool b241, s229.v, Value.int .i64 x246]) ∧
                         (Bar (V1 4) w1517 w1518 ∧
                          (Calls Tryd.prog 12 #[Value.agg #[Value.bool b3, s3.v, Value.int .i64 x3]] w1518 fun e199 w1519 =>
                           ∃ b242 : Bool, ∃ s230 : Slc, ∃ x247 : Int, e199 = .returned (Value.agg #[Value.bool b242, s230.v, Value.int .i64 x247]) ∧
                           (stC ad210 (Value.bool b240) w1519 fun w1520 =>
                            stC (ad210.add 1) s228.v w1520 fun w1521 =>
                            stC (ad210.add 2) (Value.int .i64 x245) w1521 fun w1522 =>
                            stC ad206 (Value.bool b241) w1522 fun w1523 =>
                            stC (ad206.add 1) s229.v w1523 fun w1524 =>
                            stC (ad206.add 2) (Value.int .i64 x246) w1524 fun w1525 =>
                            stC ad182 (Value.bool b242) w1525 fun w1526 =>
                            stC (ad182.add 1) s230.v w1526 fun w1527 =>
                            stC (ad182.add 2) (Value.int .i64 x247) w1527 fun w1528 =>
                            K3 ad210 ad206 ad182 w1528)))))))))))))))))))))))))
    (h3000003 : ∀ (t7 : Addr) (t8 : Addr) (t9 : Addr) (w_ : World), K3 t7 t8 t9 w_ → 
    ldB t7 w_ fun b7 =>
    ldS (t7.add 1) w_ fun s7 =>
    ldI .i64 (t7.add 2) w_ fun x7 =>
    ldB t8 w_ fun b8 =>
    ldS (t8.add 1) w_ fun s8 =>
    ldI .i64 (t8.add 2) w_ fun x8 =>
    Calls Tryd.prog 11 #[Value.agg #[Value.bool b7, s7.v, Value.int .i64 x7], Value.agg #[Value.bool b8, s8.v, Value.int .i64 x8]] w_ fun e4 w19 =>
    ∃ b9 : Bool, ∃ s9 : Slc, ∃ x9 : Int, ∃ x10 : Int, e4 = .returned (Value.tuple #[Value.agg #[Value.bool b9, s9.v, Value.int .i64 x9], Value.int .i64 x10]) ∧
    (newC w19 #[Value.bool false, (⟨none, 0, 0⟩ : Slc).v, Value.int .i64 0] 39 fun ad7 w20 =>
     stC ad7 (Value.bool b9) w20 fun w21 =>
     stC (ad7.add 1) s9.v w21 fun w22 =>
     stC (ad7.add 2) (Value.int .i64 x9) w22 fun w23 =>
     ldB t8 w23 fun b10 =>
     ldS (t8.add 1) w23 fun s10 =>
     ldI .i64 (t8.add 2) w23 fun x11 =>
     ldB t7 w23 fun b11 =>
     ldS (t7.add 1) w23 fun s11 =>
     ldI .i64 (t7.add 2) w23 fun x12 =>
     Calls Tryd.prog 11 #[Value.agg #[Value.bool b10, s10.v, Value.int .i64 x11], Value.agg #[Value.bool b11, s11.v, Value.int .i64 x12]] w23 fun e5 w24 =>
     ∃ b12 : Bool, ∃ s12 : Slc, ∃ x13 : Int, ∃ x14 : Int, e5 = .returned (Value.tuple #[Value.agg #[Value.bool b12, s12.v, Value.int .i64 x13], Value.int .i64 x14]) ∧
     (newC w24 #[Value.bool false, (⟨none, 0, 0⟩ : Slc).v, Value.int .i64 0] 39 fun ad8 w25 =>
      stC ad8 (Value.bool b12) w25 fun w26 =>
      stC (ad8.add 1) s12.v w26 fun w27 =>
      stC (ad8.add 2) (Value.int .i64 x13) w27 fun w28 =>
      ldB t7 w28 fun b13 =>
      ldS (t7.add 1) w28 fun s13 =>
      ldI .i64 (t7.add 2) w28 fun x15 =>
      ldB t9 w28 fun b14 =>
      ldS (t9.add 1) w28 fun s14 =>
      ldI .i64 (t9.add 2) w28 fun x16 =>
      Calls Tryd.prog 11 #[Value.agg #[Value.bool b13, s13.v, Value.int .i64 x15], Value.agg #[Value.bool b14, s14.v, Value.int .i64 x16]] w28 fun e6 w29 =>
      ∃ b15 : Bool, ∃ s15 : Slc, ∃ x17 : Int, ∃ x18 : Int, e6 = .returned (Value.tuple #[Value.agg #[Value.bool b15, s15.v, Value.int .i64 x17], Value.int .i64 x18]) ∧
      (newC w29 #[Value.bool false, (⟨none, 0, 0⟩ : Slc).v, Value.int .i64 0] 39 fun ad9 w30 =>
       stC ad9 (Value.bool b15) w30 fun w31 =>
       stC (ad9.add 1) s15.v w31 fun w32 =>
       stC (ad9.add 2) (Value.int .i64 x17) w32 fun w33 =>
       ldB t8 w33 fun b16 =>
       ldS (t8.add 1) w33 fun s16 =>
       ldI .i64 (t8.add 2) w33 fun x19 =>
       ldB t9 w33 fun b17 =>
       ldS (t9.add 1) w33 fun s17 =>
       ldI .i64 (t9.add 2) w33 fun x20 =>
       Calls Tryd.prog 11 #[Value.agg #[Value.bool b16, s16.v, Value.int .i64 x19], Value.agg #[Value.bool b17, s17.v, Value.int .i64 x20]] w33 fun e7 w34 =>
       ∃ b18 : Bool, ∃ s18 : Slc, ∃ x21 : Int, ∃ x22 : Int, e7 = .returned (Value.tuple #[Value.agg #[Value.bool b18, s18.v, Value.int .i64 x21], Value.int .i64 x22]) ∧
       (newC w34 #[Value.bool false, (⟨none, 0, 0⟩ : Slc).v, Value.int .i64 0] 39 fun ad10 w35 =>
        stC ad10 (Value.bool b18) w35 fun w36 =>
        stC (ad10.add 1) s18.v w36 fun w37 =>
        stC (ad10.add 2) (Value.int .i64 x21) w37 fun w38 =>
        ldB t8 w38 fun b19 =>
        ldS (t8.add 1) w38 fun s19 =>
        ldI .i64 (t8.add 2) w38 fun x23 =>
        ldB t9 w38 fun b20 =>
        ldS (t9.add 1) w38 fun s20 =>
        ldI .i64 (t9.add 2) w38 fun x24 =>
        Calls Tryd.prog 21 #[Value.agg #[Value.bool b19, s19.v, Value.int .i64 x23], Value.agg #[Value.bool b20, s20.v, Value.int .i64 x24]] w38 fun e8 w39 =>
        ∃ b21 : Bool, ∃ s21 : Slc, ∃ x25 : Int, ∃ x26 : Int, e8 = .returned (Value.tuple #[Value.agg #[Value.bool b21, s21.v, Value.int .i64 x25], Value.int .i64 x26]) ∧
        (newC w39 #[Value.bool false, (⟨none, 0, 0⟩ : Slc).v, Value.int .i64 0] 39 fun ad11 w40 =>
         stC ad11 (Value.bool b21) w40 fun w41 =>
         stC (ad11.add 1) s21.v w41 fun w42 =>
         stC (ad11.add 2) (Value.int .i64 x25) w42 fun w43 =>
         ldB t9 w43 fun b22 =>
         ldS (t9.add 1) w43 fun s22 =>
         ldI .i64 (t9.add 2) w43 fun x27 =>
         ldB t8 w43 fun b23 =>
         ldS (t8.add 1) w43 fun s23 =>
         ldI .i64 (t8.add 2) w43 fun x28 =>
         Calls Tryd.prog 21 #[Value.agg #[Value.bool b22, s22.v, Value.int .i64 x27], Value.agg #[Value.bool b23, s23.v, Value.int .i64 x28]] w43 fun e9 w44 =>
         ∃ b24 : Bool, ∃ s24 : Slc, ∃ x29 : Int, ∃ x30 : Int, e9 = .returned (Value.tuple #[Value.agg #[Value.bool b24, s24.v, Value.int .i64 x29], Value.int .i64 x30]) ∧
         (newC w44 #[Value.bool false, (⟨none, 0, 0⟩ : Slc).v, Value.int .i64 0] 39 fun ad12 w45 =>
          stC ad12 (Value.bool b24) w45 fun w46 =>
          stC (ad12.add 1) s24.v w46 fun w47 =>
          stC (ad12.add 2) (Value.int .i64 x29) w47 fun w48 =>
          ldB t7 w48 fun b25 =>
          ldS (t7.add 1) w48 fun s25 =>
          ldI .i64 (t7.add 2) w48 fun x31 =>
          ldB t8 w48 fun b26 =>
          ldS (t8.add 1) w48 fun s26 =>
          ldI .i64 (t8.add 2) w48 fun x32 =>
          Calls Tryd.prog 22 #[Value.agg #[Value.bool b25, s25.v, Value.int .i64 x31], Value.agg #[Value.bool b26, s26.v, Value.int .i64 x32]] w48 fun e10 w49 =>
          ∃ b27 : Bool, ∃ s27 : Slc, ∃ x33 : Int, ∃ x34 : Int, e10 = .returned (Value.tuple #[Value.agg #[Value.bool b27, s27.v, Value.int .i64 x33], Value.int .i64 x34]) ∧
          (newC w49 #[Value.bool false, (⟨none, 0, 0⟩ : Slc).v, Value.int .i64 0] 39 fun ad13 w50 =>
           stC ad13 (Value.bool b27) w50 fun w51 =>
           stC (ad13.add 1) s27.v w51 fun w52 =>
           stC (ad13.add 2) (Value.int .i64 x33) w52 fun w53 =>
           ldB t7 w53 fun b28 =>
           ldS (t7.add 1) w53 fun s28 =>
           ldI .i64 (t7.add 2) w53 fun x35 =>
           ldB t8 w53 fun b29 =>
           ldS (t8.add 1) w53 fun s29 =>
           ldI .i64 (t8.add 2) w53 fun x36 =>
           Calls Tryd.prog 23 #[Value.agg #[Value.bool b28, s28.v, Value.int .i64 x35], Value.agg #[Value.bool b29, s29.v, Value.int .i64 x36]] w53 fun e11 w54 =>
           ∃ x37 : Int, ∃ x38 : Int, e11 = .returned (Value.tuple #[Value.int .i64 x37, Value.int .i64 x38]) ∧
           (newC w54 #[Value.int .i64 x10, Value.int .i64 x14, Value.int .i64 x18, Value.int .i64 x22, Value.int .i64 x26, Value.int .i64 x30, Value.int .i64 x34, Value.int .i64 x38] 40 fun ad14 w55 =>
            Calls Tryd.prog 24 #[(⟨some ad14, 8, 8⟩ : Slc).v] w55 fun e12 w56 =>
            ∃ b30 : Bool, e12 = .returned (Value.bool b30) ∧
            (br (!b30)
             (Calls Tryd.prog 8 #[] w56 fun e13 w57 =>
              ∃ b31 : Bool, e13 = .returned (Value.bool b31) ∧
              (R (.returned (Value.bool b31)) w57))
             (ldB ad7 w56 fun b32 =>
              ldS (ad7.add 1) w56 fun s30 =>
              ldI .i64 (ad7.add 2) w56 fun x39 =>
              ldB t9 w56 fun b33 =>
              ldS (t9.add 1) w56 fun s31 =>
              ldI .i64 (t9.add 2) w56 fun x40 =>
              Calls Tryd.prog 11 #[Value.agg #[Value.bool b32, s30.v, Value.int .i64 x39], Value.agg #[Value.bool b33, s31.v, Value.int .i64 x40]] w56 fun e14 w58 =>
              ∃ b34 : Bool, ∃ s32 : Slc, ∃ x41 : Int, ∃ x42 : Int, e14 = .returned (Value.tuple #[Value.agg #[Value.bool b34, s32.v, Value.int .i64 x41], Value.int .i64 x42]) ∧
              (newC w58 #[Value.bool false, (⟨none, 0, 0⟩ : Slc).v, Value.int .i64 0] 39 fun ad15 w59 =>
               stC ad15 (Value.bool b34) w59 fun w60 =>
               stC (ad15.add 1) s32.v w60 fun w61 =>
               stC (ad15.add 2) (Value.int .i64 x41) w61 fun w62 =>
               ldB t7 w62 fun b35 =>
               ldS (t7.add 1) w62 fun s33 =>
               ldI .i64 (t7.add 2) w62 fun x43 =>
               ldB ad10 w62 fun b36 =>
               ldS (ad10.add 1) w62 fun s34 =>
               ldI .i64 (ad10.add 2) w62 fun x44 =>
               Calls Tryd.prog 11 #[Value.agg #[Value.bool b35, s33.v, Value.int .i64 x43], Value.agg #[Value.bool b36, s34.v, Value.int .i64 x44]] w62 fun e15 w63 =>
               ∃ b37 : Bool, ∃ s35 : Slc, ∃ x45 : Int, ∃ x46 : Int, e15 = .returned (Value.tuple #[Value.agg #[Value.bool b37, s35.v, Value.int .i64 x45], Value.int .i64 x46]) ∧
               (newC w63 #[Value.bool false, (⟨none, 0, 0⟩ : Slc).v, Value.int .i64 0] 39 fun ad16 w64 =>
                stC ad16 (Value.bool b37) w64 fun w65 =>
                stC (ad16.add 1) s35.v w65 fun w66 =>
                stC (ad16.add 2) (Value.int .i64 x45) w66 fun w67 =>
                ldB t7 w67 fun b38 =>
                ldS (t7.add 1) w67 fun s36 =>
                ldI .i64 (t7.add 2) w67 fun x47 =>
                ldB ad11 w67 fun b39 =>
                ldS (ad11.add 1) w67 fun s37 =>
                ldI .i64 (ad11.add 2) w67 fun x48 =>
                Calls Tryd.prog 11 #[Value.agg #[Value.bool b38, s36.v, Value.int .i64 x47], Value.agg #[Value.bool b39, s37.v, Value.int .i64 x48]] w67 fun e16 w68 =>
                ∃ b40 : Bool, ∃ s38 : Slc, ∃ x49 : Int, ∃ x50 : Int, e16 = .returned (Value.tuple #[Value.agg #[Value.bool b40, s38.v, Value.int .i64 x49], Value.int .i64 x50]) ∧
                (newC w68 #[Value.bool false, (⟨none, 0, 0⟩ : Slc).v, Value.int .i64 0] 39 fun ad17 w69 =>
                 stC ad17 (Value.bool b40) w69 fun w70 =>
                 stC (ad17.add 1) s38.v w70 fun w71 =>
                 stC (ad17.add 2) (Value.int .i64 x49) w71 fun w72 =>
                 ldB ad7 w72 fun b41 =>
                 ldS (ad7.add 1) w72 fun s39 =>
                 ldI .i64 (ad7.add 2) w72 fun x51 =>
                 ldB ad9 w72 fun b42 =>
                 ldS (ad9.add 1) w72 fun s40 =>
                 ldI .i64 (ad9.add 2) w72 fun x52 =>
                 Calls Tryd.prog 21 #[Value.agg #[Value.bool b41, s39.v, Value.int .i64 x51], Value.agg #[Value.bool b42, s40.v, Value.int .i64 x52]] w72 fun e17 w73 =>
                 ∃ b43 : Bool, ∃ s41 : Slc, ∃ x53 : Int, ∃ x54 : Int, e17 = .returned (Value.tuple #[Value.agg #[Value.bool b43, s41.v, Value.int .i64 x53], Value.int .i64 x54]) ∧
                 (newC w73 #[Value.bool false, (⟨none, 0, 0⟩ : Slc).v, Value.int .i64 0] 39 fun ad18 w74 =>
                  stC ad18 (Value.bool b43) w74 fun w75 =>
                  stC (ad18.add 1) s41.v w75 fun w76 =>
                  stC (ad18.add 2) (Value.int .i64 x53) w76 fun w77 =>
                  ldB ad13 w77 fun b44 =>
                  ldS (ad13.add 1) w77 fun s42 =>
                  ldI .i64 (ad13.add 2) w77 fun x55 =>
                  ldB t8 w77 fun b45 =>
                  ldS (t8.add 1) w77 fun s43 =>
                  ldI .i64 (t8.add 2) w77 fun x56 =>
                  Calls Tryd.prog 21 #[Value.agg #[Value.bool b44, s42.v, Value.int .i64 x55], Value.agg #[Value.bool b45, s43.v, Value.int .i64 x56]] w77 fun e18 w78 =>
                  ∃ b46 : Bool, ∃ s44 : Slc, ∃ x57 : Int, ∃ x58 : Int, e18 = .returned (Value.tuple #[Value.agg #[Value.bool b46, s44.v, Value.int .i64 x57], Value.int .i64 x58]) ∧
                  (newC w78 #[Value.bool false, (⟨none, 0, 0⟩ : Slc).v, Value.int .i64 0] 39 fun ad19 w79 =>
                   stC ad19 (Value.bool b46) w79 fun w80 =>
                   stC (ad19.add 1) s44.v w80 fun w81 =>
                   stC (ad19.add 2) (Value.int .i64 x57) w81 fun w82 =>
                   ldB t7 w82 fun b47 =>
                   ldS (t7.add 1) w82 fun s45 =>
                   ldI .i64 (t7.add 2) w82 fun x59 =>
                   Calls Tryd.prog 25 #[Value.agg #[Value.bool b47, s45.v, Value.int .i64 x59], Value.int .i64 0] w82 fun e19 w83 =>
                   ∃ b48 : Bool, ∃ s46 : Slc, ∃ x60 : Int, ∃ x61 : Int, e19 = .returned (Value.tuple #[Value.agg #[Value.bool b48, s46.v, Value.int .i64 x60], Value.int .i64 x61]) ∧
                   (newC w83 #[Value.bool false, (⟨none, 0, 0⟩ : Slc).v, Value.int .i64 0] 39 fun ad20 w84 =>
                    stC ad20 (Value.bool b48) w84 fun w85 =>
                    stC (ad20.add 1) s46.v w85 fun w86 =>
                    stC (ad20.add 2) (Value.int .i64 x60) w86 fun w87 =>
                    newC w87 #[Value.int .i64 x42, Value.int .i64 x46, Value.int .i64 x50, Value.int .i64 x54, Value.int .i64 x58, Value.int .i64 x61] 40 fun ad21 w88 =>
                    Calls Tryd.prog 24 #[(⟨some ad21, 6, 6⟩ : Slc).v] w88 fun e20 w89 =>
                    ∃ b49 : Bool, e20 = .returned (Value.bool b49) ∧
                    (br (!b49)
                     (ldB ad7 w89 fun b50 =>
                      ldS (ad7.add 1) w89 fun s47 =>
                      ldI .i64 (ad7.add 2) w89 fun x62 =>
                      ldB ad8 w89 fun b51 =>
                      ldS (ad8.add 1) w89 fun s48 =>
                      ldI .i64 (ad8.add 2) w89 fun x63 =>
                      Calls Tryd.prog 26 #[Value.agg #[Value.bool b50, s47.v, Value.int .i64 x62], Value.agg #[Value.bool b51, s48.v, Value.int .i64 x63]] w89 fun e21 w90 =>
                      ∃ b52 : Bool, e21 = .returned (Value.bool b52) ∧
                      (br b52
                       (ldB ad11 w90 fun b53 =>
                        ldS (ad11.add 1) w90 fun s49 =>
                        ldI .i64 (ad11.add 2) w90 fun x64 =>
                        ldB ad12 w90 fun b54 =>
                        ldS (ad12.add 1) w90 fun s50 =>
                        ldI .i64 (ad12.add 2) w90 fun x65 =>
                        Calls Tryd.prog 26 #[Value.agg #[Value.bool b53, s49.v, Value.int .i64 x64], Value.agg #[Value.bool b54, s50.v, Value.int .i64 x65]] w90 fun e22 w91 =>
                        ∃ b55 : Bool, e22 = .returned (Value.bool b55) ∧
                        (br b55
                         (ldB ad13 w91 fun b56 =>
                          ldS (ad13.add 1) w91 fun s51 =>
                          ldI .i64 (ad13.add 2) w91 fun x66 =>
                          Calls Tryd.prog 27 #[Value.agg #[Value.bool b56, s51.v, Value.int .i64 x66]] w91 fun e23 w92 =>
                          ∃ x67 : Int, e23 = .returned (Value.int .i64 x67) ∧
                          (br (x37 == x67)
                           (Calls Tryd.prog 8 #[] w92 fun e24 w93 =>
                            ∃ b57 : Bool, e24 = .returned (Value.bool b57) ∧
                            (R (.returned (Value.bool b57)) w93))
                           (R (.returned (Value.bool false)) w92)))
                         (R (.returned (Value.bool false)) w91)))
                       (R (.returned (Value.bool false)) w90)))
                     (ldB ad7 w89 fun b58 =>
                      ldS (ad7.add 1) w89 fun s52 =>
                      ldI .i64 (ad7.add 2) w89 fun x68 =>
                      ldB ad8 w89 fun b59 =>
                      ldS (ad8.add 1) w89 fun s53 =>
                      ldI .i64 (ad8.add 2) w89 fun x69 =>
                      Calls Tryd.prog 26 #[Value.agg #[Value.bool b58, s52.v, Value.int .i64 x68], Value.agg #[Value.bool b59, s53.v, Value.int .i64 x69]] w89 fun e25 w94 =>
                      ∃ b60 : Bool, e25 = .returned (Value.bool b60) ∧
                      (br b60
                       (ldB ad11 w94 fun b61 =>
                        ldS (ad11.add 1) w94 fun s54 =>
                        ldI .i64 (ad11.add 2) w94 fun x70 =>
                        ldB ad12 w94 fun b62 =>
                        ldS (ad12.add 1) w94 fun s55 =>
                        ldI .i64 (ad12.add 2) w94 fun x71 =>
                        Calls Tryd.prog 26 #[Value.agg #[Value.bool b61, s54.v, Value.int .i64 x70], Value.agg #[Value.bool b62, s55.v, Value.int .i64 x71]] w94 fun e26 w95 =>
                        ∃ b63 : Bool, e26 = .returned (Value.bool b63) ∧
                        (br b63
                         (ldB ad13 w95 fun b64 =>
                          ldS (ad13.add 1) w95 fun s56 =>
                          ldI .i64 (ad13.add 2) w95 fun x72 =>
                          Calls Tryd.prog 27 #[Value.agg #[Value.bool b64, s56.v, Value.int .i64 x72]] w95 fun e27 w96 =>
                          ∃ x73 : Int, e27 = .returned (Value.int .i64 x73) ∧
                          (br (x37 == x73)
                           (ldB ad15 w96 fun b65 =>
                            ldS (ad15.add 1) w96 fun s57 =>
                            ldI .i64 (ad15.add 2) w96 fun x74 =>
                            ldB ad16 w96 fun b66 =>
                            ldS (ad16.add 1) w96 fun s58 =>
                            ldI .i64 (ad16.add 2) w96 fun x75 =>
                            Calls Tryd.prog 26 #[Value.agg #[Value.bool b65, s57.v, Value.int .i64 x74], Value.agg #[Value.bool b66, s58.v, Value.int .i64 x75]] w96 fun e28 w97 =>
                            ∃ b67 : Bool, e28 = .returned (Value.bool b67) ∧
                            (br b67
                             (ldB ad17 w97 fun b68 =>
                              ldS (ad17.add 1) w97 fun s59 =>
                              ldI .i64 (ad17.add 2) w97 fun x76 =>
                              ldB ad18 w97 fun b69 =>
                              ldS (ad18.add 1) w97 fun s60 =>
                              ldI .i64 (ad18.add 2) w97 fun x77 =>
                              Calls Tryd.prog 26 #[Value.agg #[Value.bool b68, s59.v, Value.int .i64 x76], Value.agg #[Value.bool b69, s60.v, Value.int .i64 x77]] w97 fun e29 w98 =>
                              ∃ b70 : Bool, e29 = .returned (Value.bool b70) ∧
                              (br b70
                               (ldB ad19 w98 fun b71 =>
                                ldS (ad19.add 1) w98 fun s61 =>
                                ldI .i64 (ad19.add 2) w98 fun x78 =>
                                ldB ad20 w98 fun b72 =>
                                ldS (ad20.add 1) w98 fun s62 =>
                                ldI .i64 (ad20.add 2) w98 fun x79 =>
                                Calls Tryd.prog 26 #[Value.agg #[Value.bool b71, s61.v, Value.int .i64 x78], Value.agg #[Value.bool b72, s62.v, Value.int .i64 x79]] w98 fun e30 w99 =>
                                ∃ b73 : Bool, e30 = .returned (Value.bool b73) ∧
                                (br b73
                                 (Calls Tryd.prog 8 #[] w99 fun e31 w100 =>
                                  ∃ b74 : Bool, e31 = .returned (Value.bool b74) ∧
                                  (R (.returned (Value.bool b74)) w100))
                                 (R (.returned (Value.bool false)) w99)))
                               (R (.returned (Value.bool false)) w98)))
                             (R (.returned (Value.bool false)) w97)))
                           (R (.returned (Value.bool false)) w96)))
                         (R (.returned (Value.bool false)) w95)))
                       (R (.returned (Value.bool false)) w94))))))))))))))))))))) :
    Calls Tryd.prog 4 #[Value.agg #[Value.bool a0_0, a0_1.v, Value.int .i64 a0_2], Value.agg #[Value.bool a1_0, a1_1.v, Value.int .i64 a1_2], Value.agg #[Value.bool a2_0, a2_1.v, Value.int .i64 a2_2]] w R := by
  refine calls_of_vc (marks [2000001] (surdlaw08_DyadicRing_cut K3)) (by kernel_rfl) Tryd.func4 rfl ?_ ?_
  · refine kcast h ?_; kernel_rfl
  · exact (obl_seq rfl (obl_reg (obl_join _ rfl (obl_store _ rfl (by kernel_rfl) trivial) (fun a_ w_ hL_ => (by
    obtain ⟨hz_, hd_, hL_⟩ := atSz_out hL_
    obtain ⟨t7, h7_, hL_⟩ := atA_out hL_
    obtain ⟨t8, h8_, hL_⟩ := atA_out hL_
    obtain ⟨t9, h9_, hL_⟩ := atA_out hL_
    obtain ⟨g3000003, rfl⟩ : ∃ g, a_ = Fr 197 [(7, Value.pointer (some t7)), (8, Value.pointer (some t8)), (9, Value.pointer (some t9))] g := ⟨_, fr_of hz_ hd_ [(7, Value.pointer (some t7)), (8, Value.pointer (some t8)), (9, Value.pointer (some t9))] (sel_cons h7_ (sel_cons h8_ (sel_cons h9_ sel_nil)))⟩
    clear hz_ hd_ h7_ h8_ h9_
    have hJ3000003_ := hL_
    refine ⟨(marks [2000001] (surdlaw08_DyadicRing_cut K3)), kcast (h3000003 t7 t8 t9 w_ hJ3000003_) ?_, ?_⟩
    · kernel_rfl
    · exact (obl_seq rfl (obl_reg (obl_seq rfl (obl_reg (obl_seq rfl (obl_reg (obl_seq rfl (obl_reg (obl_seq rfl (obl_reg (obl_seq rfl (obl_reg (obl_seq rfl (obl_reg (obl_seq rfl (obl_reg (obl_seq rfl (obl_seq rfl (obl_reg (obl_cond (obl_seq rfl (obl_reg (obl_ret (obl_skip (obl_seq rfl (obl_reg (obl_seq rfl (obl_reg (obl_seq rfl (obl_reg (obl_seq rfl (obl_reg (obl_seq rfl (obl_reg (obl_seq rfl (obl_reg (obl_seq rfl (obl_seq rfl (obl_reg (obl_cond (obl_seq rfl (obl_reg (obl_ret (obl_skip (obl_seq rfl (obl_reg (obl_ret trivial))))))))))))))))))))))))))))))))))))))))))))))))))))

end Go.Proofs.YtahbekmnphkiiaaDoor
