/- What the law leans on, part 5. No condition. -/
import Derived.Test.YtahbekmnphkiiaaDoorZDyadicRing4
namespace Go.Proofs.YtahbekmnphkiiaaDoor
open Go Go.RowKit Eng L2
set_option linter.unusedVariables false
set_option maxHeartbeats 2000000
set_option maxRecDepth 100000

/-- surd/surdlaw08.DyadicRing: function 4, its local variables as values. -/
theorem surdlaw08_DyadicRing_v2 (a0_0 : Bool) (a0_1 : Slc) (a0_2 : Int) (a1_0 : Bool) (a1_1 : Slc) (a1_2 : Int) (a2_0 : Bool) (a2_1 : Slc) (a2_2 : Int) (w : World) (R : Ending → World → Prop)
    (K3 : Bool → Slc → Int → Bool → Slc → Int → Bool → Slc → Int → World → Prop)
    (h : ∀ w1, Ext w w1 → Ahead w w1 →
    (Calls Tryd.prog 12 #[Value.agg #[Value.bool a0_0, a0_1.v, Value.int .i64 a0_2]] w1 fun e1 w2 =>
     ∃ b1 : Bool, ∃ s1 : Slc, ∃ x1 : Int, e1 = .returned (Value.agg #[Value.bool b1, s1.v, Value.int .i64 x1]) ∧ Ahead w1 w2 ∧
     (∀ w3, Ext w2 w3 → Ahead w w3 →
      (Calls Tryd.prog 12 #[Value.agg #[Value.bool a1_0, a1_1.v, Value.int .i64 a1_2]] w3 fun e2 w4 =>
       ∃ b2 : Bool, ∃ s2 : Slc, ∃ x2 : Int, e2 = .returned (Value.agg #[Value.bool b2, s2.v, Value.int .i64 x2]) ∧ Ahead w3 w4 ∧
       (∀ w5, Ext w4 w5 → Ahead w w5 →
        (Calls Tryd.prog 12 #[Value.agg #[Value.bool a2_0, a2_1.v, Value.int .i64 a2_2]] w5 fun e3 w6 =>
         ∃ b3 : Bool, ∃ s3 : Slc, ∃ x3 : Int, e3 = .returned (Value.agg #[Value.bool b3, s3.v, Value.int .i64 x3]) ∧ Ahead w5 w6 ∧
         (∀ w50, Ext w6 w50 → Ahead w w50 →
          (K3 b1 s1 x1 b2 s2 x2 b3 s3 x3 w50))))))))
    (h3000003 : ∀ (t7_0 : Bool) (t7_1 : Slc) (t7_2 : Int) (t8_0 : Bool) (t8_1 : Slc) (t8_2 : Int) (t9_0 : Bool) (t9_1 : Slc) (t9_2 : Int) (w_ : World), Ahead w w_ → K3 t7_0 t7_1 t7_2 t8_0 t8_1 t8_2 t9_0 t9_1 t9_2 w_ → 
    Calls Tryd.prog 11 #[Value.agg #[Value.bool t7_0, t7_1.v, Value.int .i64 t7_2], Value.agg #[Value.bool t8_0, t8_1.v, Value.int .i64 t8_2]] w_ fun e4 w7 =>
    ∃ b4 : Bool, ∃ s4 : Slc, ∃ x4 : Int, ∃ x5 : Int, e4 = .returned (Value.tuple #[Value.agg #[Value.bool b4, s4.v, Value.int .i64 x4], Value.int .i64 x5]) ∧ Ahead w_ w7 ∧
    (∀ w8, Ext w7 w8 → Ahead w w8 →
     (Calls Tryd.prog 11 #[Value.agg #[Value.bool t8_0, t8_1.v, Value.int .i64 t8_2], Value.agg #[Value.bool t7_0, t7_1.v, Value.int .i64 t7_2]] w8 fun e5 w9 =>
      ∃ b5 : Bool, ∃ s5 : Slc, ∃ x6 : Int, ∃ x7 : Int, e5 = .returned (Value.tuple #[Value.agg #[Value.bool b5, s5.v, Value.int .i64 x6], Value.int .i64 x7]) ∧ Ahead w8 w9 ∧
      (∀ w10, Ext w9 w10 → Ahead w w10 →
       (Calls Tryd.prog 11 #[Value.agg #[Value.bool t7_0, t7_1.v, Value.int .i64 t7_2], Value.agg #[Value.bool t9_0, t9_1.v, Value.int .i64 t9_2]] w10 fun e6 w11 =>
        ∃ b6 : Bool, ∃ s6 : Slc, ∃ x8 : Int, ∃ x9 : Int, e6 = .returned (Value.tuple #[Value.agg #[Value.bool b6, s6.v, Value.int .i64 x8], Value.int .i64 x9]) ∧ Ahead w10 w11 ∧
        (∀ w12, Ext w11 w12 → Ahead w w12 →
         (Calls Tryd.prog 11 #[Value.agg #[Value.bool t8_0, t8_1.v, Value.int .i64 t8_2], Value.agg #[Value.bool t9_0, t9_1.v, Value.int .i64 t9_2]] w12 fun e7 w13 =>
          ∃ b7 : Bool, ∃ s7 : Slc, ∃ x10 : Int, ∃ x11 : Int, e7 = .returned (Value.tuple #[Value.agg #[Value.bool b7, s7.v, Value.int .i64 x10], Value.int .i64 x11]) ∧ Ahead w12 w13 ∧
          (∀ w14, Ext w13 w14 → Ahead w w14 →
           (Calls Tryd.prog 21 #[Value.agg #[Value.bool t8_0, t8_1.v, Value.int .i64 t8_2], Value.agg #[Value.bool t9_0, t9_1.v, Value.int .i64 t9_2]] w14 fun e8 w15 =>
            ∃ b8 : Bool, ∃ s8 : Slc, ∃ x12 : Int, ∃ x13 : Int, e8 = .returned (Value.tuple #[Value.agg #[Value.bool b8, s8.v, Value.int .i64 x12], Value.int .i64 x13]) ∧ Ahead w14 w15 ∧
            (∀ w16, Ext w15 w16 → Ahead w w16 →
             (Calls Tryd.prog 21 #[Value.agg #[Value.bool t9_0, t9_1.v, Value.int .i64 t9_2], Value.agg #[Value.bool t8_0, t8_1.v, Value.int .i64 t8_2]] w16 fun e9 w17 =>
              ∃ b9 : Bool, ∃ s9 : Slc, ∃ x14 : Int, ∃ x15 : Int, e9 = .returned (Value.tuple #[Value.agg #[Value.bool b9, s9.v, Value.int .i64 x14], Value.int .i64 x15]) ∧ Ahead w16 w17 ∧
              (∀ w18, Ext w17 w18 → Ahead w w18 →
               (Calls Tryd.prog 22 #[Value.agg #[Value.bool t7_0, t7_1.v, Value.int .i64 t7_2], Value.agg #[Value.bool t8_0, t8_1.v, Value.int .i64 t8_2]] w18 fun e10 w19 =>
                ∃ b10 : Bool, ∃ s10 : Slc, ∃ x16 : Int, ∃ x17 : Int, e10 = .returned (Value.tuple #[Value.agg #[Value.bool b10, s10.v, Value.int .i64 x16], Value.int .i64 x17]) ∧ Ahead w18 w19 ∧
                (∀ w20, Ext w19 w20 → Ahead w w20 →
                 (Calls Tryd.prog 23 #[Value.agg #[Value.bool t7_0, t7_1.v, Value.int .i64 t7_2], Value.agg #[Value.bool t8_0, t8_1.v, Value.int .i64 t8_2]] w20 fun e11 w21 =>
                  ∃ x18 : Int, ∃ x19 : Int, e11 = .returned (Value.tuple #[Value.int .i64 x18, Value.int .i64 x19]) ∧ Ahead w20 w21 ∧
                  (newC w21 #[Value.int .i64 x5, Value.int .i64 x7, Value.int .i64 x9, Value.int .i64 x11, Value.int .i64 x13, Value.int .i64 x15, Value.int .i64 x17, Value.int .i64 x19] 40 fun ad1 w22 =>
                   Calls Tryd.prog 24 #[(⟨some ad1, 8, 8⟩ : Slc).v] w22 fun e12 w23 =>
                   ∃ b11 : Bool, e12 = .returned (Value.bool b11) ∧ Ahead w22 w23 ∧
                   (br (!b11)
                    (Calls Tryd.prog 8 #[] w23 fun e13 w24 =>
                     ∃ b12 : Bool, e13 = .returned (Value.bool b12) ∧ Ahead w23 w24 ∧
                     (R (.returned (Value.bool b12)) w24))
                    (Calls Tryd.prog 11 #[Value.agg #[Value.bool b4, s4.v, Value.int .i64 x4], Value.agg #[Value.bool t9_0, t9_1.v, Value.int .i64 t9_2]] w23 fun e14 w25 =>
                     ∃ b13 : Bool, ∃ s11 : Slc, ∃ x20 : Int, ∃ x21 : Int, e14 = .returned (Value.tuple #[Value.agg #[Value.bool b13, s11.v, Value.int .i64 x20], Value.int .i64 x21]) ∧ Ahead w23 w25 ∧
                     (∀ w26, Ext w25 w26 → Ahead w w26 →
                      (Calls Tryd.prog 11 #[Value.agg #[Value.bool t7_0, t7_1.v, Value.int .i64 t7_2], Value.agg #[Value.bool b7, s7.v, Value.int .i64 x10]] w26 fun e15 w27 =>
                       ∃ b14 : Bool, ∃ s12 : Slc, ∃ x22 : Int, ∃ x23 : Int, e15 = .returned (Value.tuple #[Value.agg #[Value.bool b14, s12.v, Value.int .i64 x22], Value.int .i64 x23]) ∧ Ahead w26 w27 ∧
                       (∀ w28, Ext w27 w28 → Ahead w w28 →
                        (Calls Tryd.prog 11 #[Value.agg #[Value.bool t7_0, t7_1.v, Value.int .i64 t7_2], Value.agg #[Value.bool b8, s8.v, Value.int .i64 x12]] w28 fun e16 w29 =>
                         ∃ b15 : Bool, ∃ s13 : Slc, ∃ x24 : Int, ∃ x25 : Int, e16 = .returned (Value.tuple #[Value.agg #[Value.bool b15, s13.v, Value.int .i64 x24], Value.int .i64 x25]) ∧ Ahead w28 w29 ∧
                         (∀ w30, Ext w29 w30 → Ahead w w30 →
                          (Calls Tryd.prog 21 #[Value.agg #[Value.bool b4, s4.v, Value.int .i64 x4], Value.agg #[Value.bool b6, s6.v, Value.int .i64 x8]] w30 fun e17 w31 =>
                           ∃ b16 : Bool, ∃ s14 : Slc, ∃ x26 : Int, ∃ x27 : Int, e17 = .returned (Value.tuple #[Value.agg #[Value.bool b16, s14.v, Value.int .i64 x26], Value.int .i64 x27]) ∧ Ahead w30 w31 ∧
                           (∀ w32, Ext w31 w32 → Ahead w w32 →
                            (Calls Tryd.prog 21 #[Value.agg #[Value.bool b10, s10.v, Value.int .i64 x16], Value.agg #[Value.bool t8_0, t8_1.v, Value.int .i64 t8_2]] w32 fun e18 w33 =>
                             ∃ b17 : Bool, ∃ s15 : Slc, ∃ x28 : Int, ∃ x29 : Int, e18 = .returned (Value.tuple #[Value.agg #[Value.bool b17, s15.v, Value.int .i64 x28], Value.int .i64 x29]) ∧ Ahead w32 w33 ∧
                             (∀ w34, Ext w33 w34 → Ahead w w34 →
                              (Calls Tryd.prog 25 #[Value.agg #[Value.bool t7_0, t7_1.v, Value.int .i64 t7_2], Value.int .i64 0] w34 fun e19 w35 =>
                               ∃ b18 : Bool, ∃ s16 : Slc, ∃ x30 : Int, ∃ x31 : Int, e19 = .returned (Value.tuple #[Value.agg #[Value.bool b18, s16.v, Value.int .i64 x30], Value.int .i64 x31]) ∧ Ahead w34 w35 ∧
                               (∀ w36, Ext w35 w36 → Ahead w w36 →
                                (newC w36 #[Value.int .i64 x21, Value.int .i64 x23, Value.int .i64 x25, Value.int .i64 x27, Value.int .i64 x29, Value.int .i64 x31] 40 fun ad2 w37 =>
                                 Calls Tryd.prog 24 #[(⟨some ad2, 6, 6⟩ : Slc).v] w37 fun e20 w38 =>
                                 ∃ b19 : Bool, e20 = .returned (Value.bool b19) ∧ Ahead w37 w38 ∧
                                 (br (!b19)
                                  (Calls Tryd.prog 26 #[Value.agg #[Value.bool b4, s4.v, Value.int .i64 x4], Value.agg #[Value.bool b5, s5.v, Value.int .i64 x6]] w38 fun e21 w39 =>
                                   ∃ b20 : Bool, e21 = .returned (Value.bool b20) ∧ Ahead w38 w39 ∧
                                   (br b20
                                    (Calls Tryd.prog 26 #[Value.agg #[Value.bool b8, s8.v, Value.int .i64 x12], Value.agg #[Value.bool b9, s9.v, Value.int .i64 x14]] w39 fun e22 w40 =>
                                     ∃ b21 : Bool, e22 = .returned (Value.bool b21) ∧ Ahead w39 w40 ∧
                                     (br b21
                                      (Calls Tryd.prog 27 #[Value.agg #[Value.bool b10, s10.v, Value.int .i64 x16]] w40 fun e23 w41 =>
                                       ∃ x32 : Int, e23 = .returned (Value.int .i64 x32) ∧ Ahead w40 w41 ∧
                                       (br (x18 == x32)
                                        (Calls Tryd.prog 8 #[] w41 fun e24 w42 =>
                                         ∃ b22 : Bool, e24 = .returned (Value.bool b22) ∧ Ahead w41 w42 ∧
                                         (R (.returned (Value.bool b22)) w42))
                                        (R (.returned (Value.bool false)) w41)))
                                      (R (.returned (Value.bool false)) w40)))
                                    (R (.returned (Value.bool false)) w39)))
                                  (Calls Tryd.prog 26 #[Value.agg #[Value.bool b4, s4.v, Value.int .i64 x4], Value.agg #[Value.bool b5, s5.v, Value.int .i64 x6]] w38 fun e25 w43 =>
                                   ∃ b23 : Bool, e25 = .returned (Value.bool b23) ∧ Ahead w38 w43 ∧
                                   (br b23
                                    (Calls Tryd.prog 26 #[Value.agg #[Value.bool b8, s8.v, Value.int .i64 x12], Value.agg #[Value.bool b9, s9.v, Value.int .i64 x14]] w43 fun e26 w44 =>
                                     ∃ b24 : Bool, e26 = .returned (Value.bool b24) ∧ Ahead w43 w44 ∧
                                     (br b24
                                      (Calls Tryd.prog 27 #[Value.agg #[Value.bool b10, s10.v, Value.int .i64 x16]] w44 fun e27 w45 =>
                                       ∃ x33 : Int, e27 = .returned (Value.int .i64 x33) ∧ Ahead w44 w45 ∧
                                       (br (x18 == x33)
                                        (Calls Tryd.prog 26 #[Value.agg #[Value.bool b13, s11.v, Value.int .i64 x20], Value.agg #[Value.bool b14, s12.v, Value.int .i64 x22]] w45 fun e28 w46 =>
                                         ∃ b25 : Bool, e28 = .returned (Value.bool b25) ∧ Ahead w45 w46 ∧
                                         (br b25
                                          (Calls Tryd.prog 26 #[Value.agg #[Value.bool b15, s13.v, Value.int .i64 x24], Value.agg #[Value.bool b16, s14.v, Value.int .i64 x26]] w46 fun e29 w47 =>
                                           ∃ b26 : Bool, e29 = .returned (Value.bool b26) ∧ Ahead w46 w47 ∧
                                           (br b26
                                            (Calls Tryd.prog 26 #[Value.agg #[Value.bool b17, s15.v, Value.int .i64 x28], Value.agg #[Value.bool b18, s16.v, Value.int .i64 x30]] w47 fun e30 w48 =>
                                             ∃ b27 : Bool, e30 = .returned (Value.bool b27) ∧ Ahead w47 w48 ∧
                                             (br b27
                                              (Calls Tryd.prog 8 #[] w48 fun e31 w49 =>
                                               ∃ b28 : Bool, e31 = .returned (Value.bool b28) ∧ Ahead w48 w49 ∧
                                               (R (.returned (Value.bool b28)) w49))
                                              (R (.returned (Value.bool false)) w48)))
                                            (R (.returned (Value.bool false)) w47)))
                                          (R (.returned (Value.bool false)) w46)))
                                        (R (.returned (Value.bool false)) w45)))
                                      (R (.returned (Value.bool false)) w44)))
                                    (R (.returned (Value.bool false)) w43)))))))))))))))))))))))))))))))))) :
    Calls Tryd.prog 4 #[Value.agg #[Value.bool a0_0, a0_1.v, Value.int .i64 a0_2], Value.agg #[Value.bool a1_0, a1_1.v, Value.int .i64 a1_2], Value.agg #[Value.bool a2_0, a2_1.v, Value.int .i64 a2_2]] w (fun e_ w_ => Ahead w w_ ∧ R e_ w_) := by
  refine surdlaw08_DyadicRing_vc a0_0 a0_1 a0_2 a1_0 a1_1 a1_2 a2_0 a2_1 a2_2 w _ (fun t7 t8 t9 w_ => ∃ c7_ : Nat, ∃ c8_ : Nat, ∃ c9_ : Nat, ∃ t7_0 : Bool, ∃ t7_1 : Slc, ∃ t7_2 : Int, ∃ t8_0 : Bool, ∃ t8_1 : Slc, ∃ t8_2 : Int, ∃ t9_0 : Bool, ∃ t9_1 : Slc, ∃ t9_2 : Int, t7 = ⟨c7_, 0, none⟩ ∧ Blt w_ c7_ 39 #[Value.bool t7_0, t7_1.v, Value.int .i64 t7_2] ∧ w.heap.size ≤ c7_ ∧ t8 = ⟨c8_, 0, none⟩ ∧ Blt w_ c8_ 39 #[Value.bool t8_0, t8_1.v, Value.int .i64 t8_2] ∧ w.heap.size ≤ c8_ ∧ t9 = ⟨c9_, 0, none⟩ ∧ Blt w_ c9_ 39 #[Value.bool t9_0, t9_1.v, Value.int .i64 t9_2] ∧ w.heap.size ≤ c9_ ∧ c7_ ≠ c8_ ∧ c7_ ≠ c9_ ∧ c8_ ≠ c9_ ∧ Ahead w w_ ∧ K3 t7_0 t7_1 t7_2 t8_0 t8_1 t8_2 t9_0 t9_1 t9_2 w_) ?_ ?_
  · have A : Ahead w w := Ahead.refl w
    have X : Ext w w := Ext.refl w
    refine newC_t fun bk1 u1 hb1 ha_u1 _ B1 => ?_
    have g1 := le_eq A.size hb1
    obtain ⟨A, X⟩ := axa2 ha_u1 A X
    refine newC_t fun bk2 u2 hb2 ha_u2 _ B2 => ?_
    have g2 := le_eq A.size hb2
    have l1_2 := lt1 hb2 B1
    replace B1 := B1.ahead ha_u2
    obtain ⟨A, X⟩ := axa2 ha_u2 A X
    refine newC_t fun bk3 u3 hb3 ha_u3 _ B3 => ?_
    have g3 := le_eq A.size hb3
    have l1_3 := lt2 hb3 B1 B2
    obtain ⟨B1, B2⟩ := ah2 ha_u3 B1 B2
    obtain ⟨A, X⟩ := axa2 ha_u3 A X
    have hd_ := Sp.Ahead.drew u3
    obtain ⟨B1, B2, B3⟩ := ah3 hd_ B1 B2 B3
    obtain ⟨A, X⟩ := axa2 hd_ A X
    clear hd_
    have z1 := B1.lt
    have z2 := B2.lt
    have z3 := B3.lt
    let V_ : Nat → Nat → Prop := fun (q_ k : Nat) => (k < 0 ∨ u3.drew.heap.size ≤ k) ∧ 0 ≤ k
    refine ⟨V_, ?_⟩
    have Y_ : u3.drew.heap.size ≤ u3.drew.heap.size := Nat.le_refl _
    refine out_t (b := bk1) (i := 0) (by first | rfl | exact Sp.add_off) (fun hv_ => (by replace hv_ : _ ∧ _ := hv_; omega)) ?_
    refine ldB_t 0 B1 rfl ?_
    refine ldS_t 1 B1 rfl ?_
    refine ldI_t 2 B1 rfl ?_
    refine out_t (b := bk2) (i := 0) (by first | rfl | exact Sp.add_off) (fun hv_ => (by replace hv_ : _ ∧ _ := hv_; omega)) ?_
    refine ldB_t 0 B2 rfl ?_
    refine ldS_t 1 B2 rfl ?_
    refine ldI_t 2 B2 rfl ?_
    refine out_t (b := bk3) (i := 0) (by first | rfl | exact Sp.add_off) (fun hv_ => (by replace hv_ : _ ∧ _ := hv_; omega)) ?_
    refine ldB_t 0 B3 rfl ?_
    refine ldS_t 1 B3 rfl ?_
    refine ldI_t 2 B3 rfl ?_
    refine ⟨?_, ?_⟩
    ·replace h := h _ X A
     refine Calls.mono h ?_
     clear h
     rintro e1 w2 ⟨b1, s1, x1, he_, ha_w2, h⟩
     refine ⟨b1, s1, x1, he_, ?_⟩
     clear he_
     obtain ⟨B1, B2, B3⟩ := ah3 ha_w2 B1 B2 B3
     obtain ⟨A, X, Y_⟩ := axa3 ha_w2 A X Y_
     replace X : Ext w2 w2 := Ext.refl _
     refine bb2 ha_w2 ?_
     refine ⟨?_, ?_⟩
     ·replace h := h _ X A
      refine Calls.mono h ?_
      clear h
      rintro e2 w4 ⟨b2, s2, x2, he_, ha_w4, h⟩
      refine ⟨b2, s2, x2, he_, ?_⟩
      clear he_
      obtain ⟨B1, B2, B3⟩ := ah3 ha_w4 B1 B2 B3
      obtain ⟨A, X, Y_⟩ := axa3 ha_w4 A X Y_
      replace X : Ext w4 w4 := Ext.refl _
      refine ⟨(Bar.of_ahead ha_w4), ?_⟩
      refine ⟨?_, ?_⟩
      ·replace h := h _ X A
       refine Calls.mono h ?_
       clear h
       rintro e3 w6 ⟨b3, s3, x3, he_, ha_w6, h⟩
       refine ⟨b3, s3, x3, he_, ?_⟩
       clear he_
       obtain ⟨B1, B2, B3⟩ := ah3 ha_w6 B1 B2 B3
       obtain ⟨A, X, Y_⟩ := axa3 ha_w6 A X Y_
       replace X : Ext w6 w6 := Ext.refl _
       refine ⟨?_, ?_⟩
       ·refine newC_t fun bk4 u4 hb4 ha_u4 _ B4 => ?_
        have g4 := le_eq A.size hb4
        have l1_4 := lt3 hb4 B1 B2 B3
        have y4 := le_eq Y_ hb4
        obtain ⟨B1, B2, B3⟩ := ah3 ha_u4 B1 B2 B3
        obtain ⟨A, X, Y_⟩ := axa3 ha_u4 A X Y_
        refine bb3 ha_u4 ?_
        refine ⟨?_, ?_⟩
        ·refine newC_t fun bk5 u5 hb5 ha_u5 _ B5 => ?_
         have g5 := le_eq A.size hb5
         have l1_5 := lt4 hb5 B1 B2 B3 B4
         have y5 := le_eq Y_ hb5
         obtain ⟨B1, B2, B3, B4⟩ := ah4 ha_u5 B1 B2 B3 B4
         obtain ⟨A, X, Y_⟩ := axa3 ha_u5 A X Y_
         refine bb3 ha_u5 ?_
         refine newC_t fun bk6 u6 hb6 ha_u6 _ B6 => ?_
         have g6 := le_eq A.size hb6
         have l1_6 := lt5 hb6 B1 B2 B3 B4 B5
         have y6 := le_eq Y_ hb6
         obtain ⟨B1, B2, B3, B4, B5⟩ := ah5 ha_u6 B1 B2 B3 B4 B5
         obtain ⟨A, X, Y_⟩ := axa3 ha_u6 A X Y_
         refine bb3 ha_u6 ?_
         refine st3_t B4 rfl rfl rfl rfl fun u7 k_u7 B4 => ?_
         obtain ⟨B1, B2, B3, B5, B6⟩ := up5 k_u7 B1 B2 B3 B5 B6 (by omega)
         obtain ⟨A, X, Y_⟩ := axu3 k_u7 g4 A X Y_
         refine st3_t B5 rfl rfl rfl rfl fun u8 k_u8 B5 => ?_
         obtain ⟨B1, B2, B3, B4, B6⟩ := up5 k_u8 B1 B2 B3 B4 B6 (by omega)
         obtain ⟨A, X, Y_⟩ := axu3 k_u8 g5 A X Y_
         refine st3_t B6 rfl rfl rfl rfl fun u9 k_u9 B6 => ?_
         obtain ⟨B1, B2, B3, B4, B5⟩ := up5 k_u9 B1 B2 B3 B4 B5 (by omega)
         obtain ⟨A, X, Y_⟩ := axu3 k_u9 g6 A X Y_
         replace h := h _ X A
         exact ⟨bk4, bk5, bk6, b1, s1, x1, b2, s2, x2, b3, s3, x3, rfl, B4, g4, rfl, B5, g5, rfl, B6, g6, (by omega), (by omega), (by omega), A, h⟩
        ·refine newC_t fun bk20 u36 hb20 ha_u36 _ B20 => ?_
         have g20 := le_eq A.size hb20
         have l1_20 := lt4 hb20 B1 B2 B3 B4
         have y20 := le_eq Y_ hb20
         obtain ⟨B1, B2, B3, B4⟩ := ah4 ha_u36 B1 B2 B3 B4
         obtain ⟨A, X, Y_⟩ := axa3 ha_u36 A X Y_
         refine bb3 ha_u36 ?_
         refine newC_t fun bk21 u37 hb21 ha_u37 _ B21 => ?_
         have g21 := le_eq A.size hb21
         have l1_21 := lt5 hb21 B1 B2 B3 B4 B20
         have y21 := le_eq Y_ hb21
         obtain ⟨B1, B2, B3, B4, B20⟩ := ah5 ha_u37 B1 B2 B3 B4 B20
         obtain ⟨A, X, Y_⟩ := axa3 ha_u37 A X Y_
         refine bb3 ha_u37 ?_
         refine st3_t B4 rfl rfl rfl rfl fun u38 k_u38 B4 => ?_
         obtain ⟨B1, B2, B3, B20, B21⟩ := up5 k_u38 B1 B2 B3 B20 B21 (by omega)
         obtain ⟨A, X, Y_⟩ := axu3 k_u38 g4 A X Y_
         refine st3_t B21 rfl rfl rfl rfl fun u39 k_u39 B21 => ?_
         obtain ⟨B1, B2, B3, B4, B20⟩ := up5 k_u39 B1 B2 B3 B4 B20 (by omega)
         obtain ⟨A, X, Y_⟩ := axu3 k_u39 g21 A X Y_
         refine st3_t B20 rfl rfl rfl rfl fun u40 k_u40 B20 => ?_
         obtain ⟨B1, B2, B3, B4, B21⟩ := up5 k_u40 B1 B2 B3 B4 B21 (by omega)
         obtain ⟨A, X, Y_⟩ := axu3 k_u40 g20 A X Y_
         replace h := h _ X A
         exact ⟨bk4, bk21, bk20, b1, s1, x1, b2, s2, x2, b3, s3, x3, rfl, B4, g4, rfl, B21, g21, rfl, B20, g20, (by omega), (by omega), (by omega), A, h⟩
       ·refine ⟨?_, ?_⟩
        ·refine newC_t fun bk22 u41 hb22 ha_u41 _ B22 => ?_
         have g22 := le_eq A.size hb22
         have l1_22 := lt3 hb22 B1 B2 B3
         have y22 := le_eq Y_ hb22
         obtain ⟨B1, B2, B3⟩ := ah3 ha_u41 B1 B2 B3
         obtain ⟨A, X, Y_⟩ := axa3 ha_u41 A X Y_
         refine bb3 ha_u41 ?_
         refine ⟨?_, ?_⟩
         ·refine newC_t fun bk23 u42 hb23 ha_u42 _ B23 => ?_
          have g23 := le_eq A.size hb23
          have l1_23 := lt4 hb23 B1 B2 B3 B22
          have y23 := le_eq Y_ hb23
          obtain ⟨B1, B2, B3, B22⟩ := ah4 ha_u42 B1 B2 B3 B22
          obtain ⟨A, X, Y_⟩ := axa3 ha_u42 A X Y_
          refine bb3 ha_u42 ?_
          refine newC_t fun bk24 u43 hb24 ha_u43 _ B24 => ?_
          have g24 := le_eq A.size hb24
          have l1_24 := lt5 hb24 B1 B2 B3 B22 B23
          have y24 := le_eq Y_ hb24
          obtain ⟨B1, B2, B3, B22, B23⟩ := ah5 ha_u43 B1 B2 B3 B22 B23
          obtain ⟨A, X, Y_⟩ := axa3 ha_u43 A X Y_
          refine bb3 ha_u43 ?_
          refine st3_t B23 rfl rfl rfl rfl fun u44 k_u44 B23 => ?_
          obtain ⟨B1, B2, B3, B22, B24⟩ := up5 k_u44 B1 B2 B3 B22 B24 (by omega)
          obtain ⟨A, X, Y_⟩ := axu3 k_u44 g23 A X Y_
          refine st3_t B22 rfl rfl rfl rfl fun u45 k_u45 B22 => ?_
          obtain ⟨B1, B2, B3, B23, B24⟩ := up5 k_u45 B1 B2 B3 B23 B24 (by omega)
          obtain ⟨A, X, Y_⟩ := axu3 k_u45 g22 A X Y_
          refine st3_t B24 rfl rfl rfl rfl fun u46 k_u46 B24 => ?_
          obtain ⟨B1, B2, B3, B22, B23⟩ := up5 k_u46 B1 B2 B3 B22 B23 (by omega)
          obtain ⟨A, X, Y_⟩ := axu3 k_u46 g24 A X Y_
          replace h := h _ X A
          exact ⟨bk23, bk22, bk24, b1, s1, x1, b2, s2, x2, b3, s3, x3, rfl, B23, g23, rfl, B22, g22, rfl, B24, g24, (by omega), (by omega), (by omega), A, h⟩
         ·refine newC_t fun bk25 u47 hb25 ha_u47 _ B25 => ?_
          have g25 := le_eq A.size hb25
          have l1_25 := lt4 hb25 B1 B2 B3 B22
          have y25 := le_eq Y_ hb25
          obtain ⟨B1, B2, B3, B22⟩ := ah4 ha_u47 B1 B2 B3 B22
          obtain ⟨A, X, Y_⟩ := axa3 ha_u47 A X Y_
          refine bb3 ha_u47 ?_
          refine newC_t fun bk26 u48 hb26 ha_u48 _ B26 => ?_
          have g26 := le_eq A.size hb26
          have l1_26 := lt5 hb26 B1 B2 B3 B22 B25
          have y26 := le_eq Y_ hb26
          obtain ⟨B1, B2, B3, B22, B25⟩ := ah5 ha_u48 B1 B2 B3 B22 B25
          obtain ⟨A, X, Y_⟩ := axa3 ha_u48 A X Y_
          refine bb3 ha_u48 ?_
          refine st3_t B26 rfl rfl rfl rfl fun u49 k_u49 B26 => ?_
          obtain ⟨B1, B2, B3, B22, B25⟩ := up5 k_u49 B1 B2 B3 B22 B25 (by omega)
          obtain ⟨A, X, Y_⟩ := axu3 k_u49 g26 A X Y_
          refine st3_t B22 rfl rfl rfl rfl fun u50 k_u50 B22 => ?_
          obtain ⟨B1, B2, B3, B25, B26⟩ := up5 k_u50 B1 B2 B3 B25 B26 (by omega)
          obtain ⟨A, X, Y_⟩ := axu3 k_u50 g22 A X Y_
          refine st3_t B25 rfl rfl rfl rfl fun u51 k_u51 B25 => ?_
          obtain ⟨B1, B2, B3, B22, B26⟩ := up5 k_u51 B1 B2 B3 B22 B26 (by omega)
          obtain ⟨A, X, Y_⟩ := axu3 k_u51 g25 A X Y_
          replace h := h _ X A
          exact ⟨bk26, bk22, bk25, b1, s1, x1, b2, s2, x2, b3, s3, x3, rfl, B26, g26, rfl, B22, g22, rfl, B25, g25, (by omega), (by omega), (by omega), A, h⟩
        ·refine newC_t fun bk27 u52 hb27 ha_u52 _ B27 => ?_
         have g27 := le_eq A.size hb27
         have l1_27 := lt3 hb27 B1 B2 B3
         have y27 := le_eq Y_ hb27
         obtain ⟨B1, B2, B3⟩ := ah3 ha_u52 B1 B2 B3
         obtain ⟨A, X, Y_⟩ := axa3 ha_u52 A X Y_
         refine bb3 ha_u52 ?_
         refine ⟨?_, ?_⟩
         ·refine newC_t fun bk28 u53 hb28 ha_u53 _ B28 => ?_
          have g28 := le_eq A.size hb28
          have l1_28 := lt4 hb28 B1 B2 B3 B27
          have y28 := le_eq Y_ hb28
          obtain ⟨B1, B2, B3, B27⟩ := ah4 ha_u53 B1 B2 B3 B27
          obtain ⟨A, X, Y_⟩ := axa3 ha_u53 A X Y_
          refine bb3 ha_u53 ?_
          refine newC_t fun bk29 u54 hb29 ha_u54 _ B29 => ?_
          have g29 := le_eq A.size hb29
          have l1_29 := lt5 hb29 B1 B2 B3 B27 B28
          have y29 := le_eq Y_ hb29
          obtain ⟨B1, B2, B3, B27, B28⟩ := ah5 ha_u54 B1 B2 B3 B27 B28
          obtain ⟨A, X, Y_⟩ := axa3 ha_u54 A X Y_
          refine bb3 ha_u54 ?_
          refine st3_t B28 rfl rfl rfl rfl fun u55 k_u55 B28 => ?_
          obtain ⟨B1, B2, B3, B27, B29⟩ := up5 k_u55 B1 B2 B3 B27 B29 (by omega)
          obtain ⟨A, X, Y_⟩ := axu3 k_u55 g28 A X Y_
          refine st3_t B29 rfl rfl rfl rfl fun u56 k_u56 B29 => ?_
          obtain ⟨B1, B2, B3, B27, B28⟩ := up5 k_u56 B1 B2 B3 B27 B28 (by omega)
          obtain ⟨A, X, Y_⟩ := axu3 k_u56 g29 A X Y_
          refine st3_t B27 rfl rfl rfl rfl fun u57 k_u57 B27 => ?_
          obtain ⟨B1, B2, B3, B28, B29⟩ := up5 k_u57 B1 B2 B3 B28 B29 (by omega)
          obtain ⟨A, X, Y_⟩ := axu3 k_u57 g27 A X Y_
          replace h := h _ X A
          exact ⟨bk28, bk29, bk27, b1, s1, x1, b2, s2, x2, b3, s3, x3, rfl, B28, g28, rfl, B29, g29, rfl, B27, g27, (by omega), (by omega), (by omega), A, h⟩
         ·refine newC_t fun bk30 u58 hb30 ha_u58 _ B30 => ?_
          have g30 := le_eq A.size hb30
          have l1_30 := lt4 hb30 B1 B2 B3 B27
          have y30 := le_eq Y_ hb30
          obtain ⟨B1, B2, B3, B27⟩ := ah4 ha_u58 B1 B2 B3 B27
          obtain ⟨A, X, Y_⟩ := axa3 ha_u58 A X Y_
          refine bb3 ha_u58 ?_
          refine newC_t fun bk31 u59 hb31 ha_u59 _ B31 => ?_
          have g31 := le_eq A.size hb31
          have l1_31 := lt5 hb31 B1 B2 B3 B27 B30
          have y31 := le_eq Y_ hb31
          obtain ⟨B1, B2, B3, B27, B30⟩ := ah5 ha_u59 B1 B2 B3 B27 B30
          obtain ⟨A, X, Y_⟩ := axa3 ha_u59 A X Y_
          refine bb3 ha_u59 ?_
          refine st3_t B31 rfl rfl rfl rfl fun u60 k_u60 B31 => ?_
          obtain ⟨B1, B2, B3, B27, B30⟩ := up5 k_u60 B1 B2 B3 B27 B30 (by omega)
          obtain ⟨A, X, Y_⟩ := axu3 k_u60 g31 A X Y_
          refine st3_t B30 rfl rfl rfl rfl fun u61 k_u61 B30 => ?_
          obtain ⟨B1, B2, B3, B27, B31⟩ := up5 k_u61 B1 B2 B3 B27 B31 (by omega)
          obtain ⟨A, X, Y_⟩ := axu3 k_u61 g30 A X Y_
          refine st3_t B27 rfl rfl rfl rfl fun u62 k_u62 B27 => ?_
          obtain ⟨B1, B2, B3, B30, B31⟩ := up5 k_u62 B1 B2 B3 B30 B31 (by omega)
          obtain ⟨A, X, Y_⟩ := axu3 k_u62 g27 A X Y_
          replace h := h _ X A
          exact ⟨bk31, bk30, bk27, b1, s1, x1, b2, s2, x2, b3, s3, x3, rfl, B31, g31, rfl, B30, g30, rfl, B27, g27, (by omega), (by omega), (by omega), A, h⟩
      ·refine ⟨?_, ?_⟩
       ·refine newC_t fun bk32 u63 hb32 ha_u63 _ B32 => ?_
        have g32 := le_eq A.size hb32
        have l1_32 := lt3 hb32 B1 B2 B3
        have y32 := le_eq Y_ hb32
        obtain ⟨B1, B2, B3⟩ := ah3 ha_u63 B1 B2 B3
        obtain ⟨A, X, Y_⟩ := axa3 ha_u63 A X Y_
        refine bb3 ha_u63 ?_
        refine ⟨?_, ?_⟩
        ·replace h := h _ X A
         refine Calls.mono h ?_
         clear h
         rintro e32 w57 ⟨b29, s17, x34, he_, ha_w57, h⟩
         refine ⟨b29, s17, x34, he_, ?_⟩
         clear he_
         obtain ⟨B1, B2, B3, B32⟩ := ah4 ha_w57 B1 B2 B3 B32
         obtain ⟨A, X, Y_⟩ := axa3 ha_w57 A X Y_
         replace X : Ext w57 w57 := Ext.refl _
         refine ⟨?_, ?_⟩
         ·refine newC_t fun bk33 u64 hb33 ha_u64 _ B33 => ?_
          have g33 := le_eq A.size hb33
          have l1_33 := lt4 hb33 B1 B2 B3 B32
          have y33 := le_eq Y_ hb33
          obtain ⟨B1, B2, B3, B32⟩ := ah4 ha_u64 B1 B2 B3 B32
          obtain ⟨A, X, Y_⟩ := axa3 ha_u64 A X Y_
          refine bb3 ha_u64 ?_
          refine newC_t fun bk34 u65 hb34 ha_u65 _ B34 => ?_
          have g34 := le_eq A.size hb34
          have l1_34 := lt5 hb34 B1 B2 B3 B32 B33
          have y34 := le_eq Y_ hb34
          obtain ⟨B1, B2, B3, B32, B33⟩ := ah5 ha_u65 B1 B2 B3 B32 B33
          obtain ⟨A, X, Y_⟩ := axa3 ha_u65 A X Y_
          refine bb3 ha_u65 ?_
          refine st3_t B32 rfl rfl rfl rfl fun u66 k_u66 B32 => ?_
          obtain ⟨B1, B2, B3, B33, B34⟩ := up5 k_u66 B1 B2 B3 B33 B34 (by omega)
          obtain ⟨A, X, Y_⟩ := axu3 k_u66 g32 A X Y_
          refine st3_t B33 rfl rfl rfl rfl fun u67 k_u67 B33 => ?_
          obtain ⟨B1, B2, B3, B32, B34⟩ := up5 k_u67 B1 B2 B3 B32 B34 (by omega)
          obtain ⟨A, X, Y_⟩ := axu3 k_u67 g33 A X Y_
          refine st3_t B34 rfl rfl rfl rfl fun u68 k_u68 B34 => ?_
          obtain ⟨B1, B2, B3, B32, B33⟩ := up5 k_u68 B1 B2 B3 B32 B33 (by omega)
          obtain ⟨A, X, Y_⟩ := axu3 k_u68 g34 A X Y_
          replace h := h _ X A
          exact ⟨bk32, bk33, bk34, b1, s1, x1, b2, s2, x2, b29, s17, x34, rfl, B32, g32, rfl, B33, g33, rfl, B34, g34, (by omega), (by omega), (by omega), A, h⟩
         ·refine newC_t fun bk35 u69 hb35 ha_u69 _ B35 => ?_
          have g35 := le_eq A.size hb35
          have l1_35 := lt4 hb35 B1 B2 B3 B32
          have y35 := le_eq Y_ hb35
          obtain ⟨B1, B2, B3, B32⟩ := ah4 ha_u69 B1 B2 B3 B32
          obtain ⟨A, X, Y_⟩ := axa3 ha_u69 A X Y_
          refine bb3 ha_u69 ?_
          refine newC_t fun bk36 u70 hb36 ha_u70 _ B36 => ?_
          have g36 := le_eq A.size hb36
          have l1_36 := lt5 hb36 B1 B2 B3 B32 B35
          have y36 := le_eq Y_ hb36
          obtain ⟨B1, B2, B3, B32, B35⟩ := ah5 ha_u70 B1 B2 B3 B32 B35
          obtain ⟨A, X, Y_⟩ := axa3 ha_u70 A X Y_
          refine bb3 ha_u70 ?_
          refine st3_t B32 rfl rfl rfl rfl fun u71 k_u71 B32 => ?_
          obtain ⟨B1, B2, B3, B35, B36⟩ := up5 k_u71 B1 B2 B3 B35 B36 (by omega)
          obtain ⟨A, X, Y_⟩ := axu3 k_u71 g32 A X Y_
          refine st3_t B36 rfl rfl rfl rfl fun u72 k_u72 B36 => ?_
          obtain ⟨B1, B2, B3, B32, B35⟩ := up5 k_u72 B1 B2 B3 B32 B35 (by omega)
          obtain ⟨A, X, Y_⟩ := axu3 k_u72 g36 A X Y_
          refine st3_t B35 rfl rfl rfl rfl fun u73 k_u73 B35 => ?_
          obtain ⟨B1, B2, B3, B32, B36⟩ := up5 k_u73 B1 B2 B3 B32 B36 (by omega)
          obtain ⟨A, X, Y_⟩ := axu3 k_u73 g35 A X Y_
          replace h := h _ X A
          exact ⟨bk32, bk36, bk35, b1, s1, x1, b2, s2, x2, b29, s17, x34, rfl, B32, g32, rfl, B36, g36, rfl, B35, g35, (by omega), (by omega), (by omega), A, h⟩
        ·refine ⟨?_, ?_⟩
         ·refine newC_t fun bk37 u74 hb37 ha_u74 _ B37 => ?_
          have g37 := le_eq A.size hb37
          have l1_37 := lt4 hb37 B1 B2 B3 B32
          have y37 := le_eq Y_ hb37
          obtain ⟨B1, B2, B3, B32⟩ := ah4 ha_u74 B1 B2 B3 B32
          obtain ⟨A, X, Y_⟩ := axa3 ha_u74 A X Y_
          refine bb3 ha_u74 ?_
          refine ⟨?_, ?_⟩
          ·replace h := h _ X A
           refine Calls.mono h ?_
           clear h
           rintro e33 w61 ⟨b30, s18, x35, he_, ha_w61, h⟩
           refine ⟨b30, s18, x35, he_, ?_⟩
           clear he_
           obtain ⟨B1, B2, B3, B32, B37⟩ := ah5 ha_w61 B1 B2 B3 B32 B37
           obtain ⟨A, X, Y_⟩ := axa3 ha_w61 A X Y_
           replace X : Ext w61 w61 := Ext.refl _
           refine newC_t fun bk38 u75 hb38 ha_u75 _ B38 => ?_
           have g38 := le_eq A.size hb38
           have l1_38 := lt5 hb38 B1 B2 B3 B32 B37
           have y38 := le_eq Y_ hb38
           obtain ⟨B1, B2, B3, B32, B37⟩ := ah5 ha_u75 B1 B2 B3 B32 B37
           obtain ⟨A, X, Y_⟩ := axa3 ha_u75 A X Y_
           refine bb3 ha_u75 ?_
           refine st3_t B32 rfl rfl rfl rfl fun u76 k_u76 B32 => ?_
           obtain ⟨B1, B2, B3, B37, B38⟩ := up5 k_u76 B1 B2 B3 B37 B38 (by omega)
           obtain ⟨A, X, Y_⟩ := axu3 k_u76 g32 A X Y_
           refine st3_t B37 rfl rfl rfl rfl fun u77 k_u77 B37 => ?_
           obtain ⟨B1, B2, B3, B32, B38⟩ := up5 k_u77 B1 B2 B3 B32 B38 (by omega)
           obtain ⟨A, X, Y_⟩ := axu3 k_u77 g37 A X Y_
           refine st3_t B38 rfl rfl rfl rfl fun u78 k_u78 B38 => ?_
           obtain ⟨B1, B2, B3, B32, B37⟩ := up5 k_u78 B1 B2 B3 B32 B37 (by omega)
           obtain ⟨A, X, Y_⟩ := axu3 k_u78 g38 A X Y_
           replace h := h _ X A
           exact ⟨bk32, bk37, bk38, b1, s1, x1, b2, s2, x2, b30, s18, x35, rfl, B32, g32, rfl, B37, g37, rfl, B38, g38, (by omega), (by omega), (by omega), A, h⟩
          ·refine newC_t fun bk39 u79 hb39 ha_u79 _ B39 => ?_
           have g39 := le_eq A.size hb39
           have l1_39 := lt5 hb39 B1 B2 B3 B32 B37
           have y39 := le_eq Y_ hb39
           obtain ⟨B1, B2, B3, B32, B37⟩ := ah5 ha_u79 B1 B2 B3 B32 B37
           obtain ⟨A, X, Y_⟩ := axa3 ha_u79 A X Y_
           refine bb3 ha_u79 ?_
           replace h := h _ X A
           refine Calls.mono h ?_
           clear h
           rintro e34 w64 ⟨b31, s19, x36, he_, ha_w64, h⟩
           refine ⟨b31, s19, x36, he_, ?_⟩
           clear he_
           obtain ⟨B1, B2, B3, B32, B37, B39⟩ := ah6 ha_w64 B1 B2 B3 B32 B37 B39
           obtain ⟨A, X, Y_⟩ := axa3 ha_w64 A X Y_
           replace X : Ext w64 w64 := Ext.refl _
           refine st3_t B32 rfl rfl rfl rfl fun u80 k_u80 B32 => ?_
           obtain ⟨B1, B2, B3, B37, B39⟩ := up5 k_u80 B1 B2 B3 B37 B39 (by omega)
           obtain ⟨A, X, Y_⟩ := axu3 k_u80 g32 A X Y_
           refine st3_t B37 rfl rfl rfl rfl fun u81 k_u81 B37 => ?_
           obtain ⟨B1, B2, B3, B32, B39⟩ := up5 k_u81 B1 B2 B3 B32 B39 (by omega)
           obtain ⟨A, X, Y_⟩ := axu3 k_u81 g37 A X Y_
           refine st3_t B39 rfl rfl rfl rfl fun u82 k_u82 B39 => ?_
           obtain ⟨B1, B2, B3, B32, B37⟩ := up5 k_u82 B1 B2 B3 B32 B37 (by omega)
           obtain ⟨A, X, Y_⟩ := axu3 k_u82 g39 A X Y_
           replace h := h _ X A
           exact ⟨bk32, bk37, bk39, b1, s1, x1, b2, s2, x2, b31, s19, x36, rfl, B32, g32, rfl, B37, g37, rfl, B39, g39, (by omega), (by omega), (by omega), A, h⟩
         ·refine newC_t fun bk40 u83 hb40 ha_u83 _ B40 => ?_
          have g40 := le_eq A.size hb40
          have l1_40 := lt4 hb40 B1 B2 B3 B32
          have y40 := le_eq Y_ hb40
          obtain ⟨B1, B2, B3, B32⟩ := ah4 ha_u83 B1 B2 B3 B32
          obtain ⟨A, X, Y_⟩ := axa3 ha_u83 A X Y_
          refine bb3 ha_u83 ?_
          refine ⟨?_, ?_⟩
          ·replace h := h _ X A
           refine Calls.mono h ?_
           clear h
           rintro e35 w67 ⟨b32, s20, x37, he_, ha_w67, h⟩
           refine ⟨b32, s20, x37, he_, ?_⟩
           clear he_
           obtain ⟨B1, B2, B3, B32, B40⟩ := ah5 ha_w67 B1 B2 B3 B32 B40
           obtain ⟨A, X, Y_⟩ := axa3 ha_w67 A X Y_
           replace X : Ext w67 w67 := Ext.refl _
           refine newC_t fun bk41 u84 hb41 ha_u84 _ B41 => ?_
           have g41 := le_eq A.size hb41
           have l1_41 := lt5 hb41 B1 B2 B3 B32 B40
           have y41 := le_eq Y_ hb41
           obtain ⟨B1, B2, B3, B32, B40⟩ := ah5 ha_u84 B1 B2 B3 B32 B40
           obtain ⟨A, X, Y_⟩ := axa3 ha_u84 A X Y_
           refine bb3 ha_u84 ?_
           refine st3_t B32 rfl rfl rfl rfl fun u85 k_u85 B32 => ?_
           obtain ⟨B1, B2, B3, B40, B41⟩ := up5 k_u85 B1 B2 B3 B40 B41 (by omega)
           obtain ⟨A, X, Y_⟩ := axu3 k_u85 g32 A X Y_
           refine st3_t B41 rfl rfl rfl rfl fun u86 k_u86 B41 => ?_
           obtain ⟨B1, B2, B3, B32, B40⟩ := up5 k_u86 B1 B2 B3 B32 B40 (by omega)
           obtain ⟨A, X, Y_⟩ := axu3 k_u86 g41 A X Y_
           refine st3_t B40 rfl rfl rfl rfl fun u87 k_u87 B40 => ?_
           obtain ⟨B1, B2, B3, B32, B41⟩ := up5 k_u87 B1 B2 B3 B32 B41 (by omega)
           obtain ⟨A, X, Y_⟩ := axu3 k_u87 g40 A X Y_
           replace h := h _ X A
           exact ⟨bk32, bk41, bk40, b1, s1, x1, b2, s2, x2, b32, s20, x37, rfl, B32, g32, rfl, B41, g41, rfl, B40, g40, (by omega), (by omega), (by omega), A, h⟩
          ·refine newC_t fun bk42 u88 hb42 ha_u88 _ B42 => ?_
           have g42 := le_eq A.size hb42
           have l1_42 := lt5 hb42 B1 B2 B3 B32 B40
           have y42 := le_eq Y_ hb42
           obtain ⟨B1, B2, B3, B32, B40⟩ := ah5 ha_u88 B1 B2 B3 B32 B40
           obtain ⟨A, X, Y_⟩ := axa3 ha_u88 A X Y_
           refine bb3 ha_u88 ?_
           replace h := h _ X A
           refine Calls.mono h ?_
           clear h
           rintro e36 w70 ⟨b33, s21, x38, he_, ha_w70, h⟩
           refine ⟨b33, s21, x38, he_, ?_⟩
           clear he_
           obtain ⟨B1, B2, B3, B32, B40, B42⟩ := ah6 ha_w70 B1 B2 B3 B32 B40 B42
           obtain ⟨A, X, Y_⟩ := axa3 ha_w70 A X Y_
           replace X : Ext w70 w70 := Ext.refl _
           refine st3_t B32 rfl rfl rfl rfl fun u89 k_u89 B32 => ?_
           obtain ⟨B1, B2, B3, B40, B42⟩ := up5 k_u89 B1 B2 B3 B40 B42 (by omega)
           obtain ⟨A, X, Y_⟩ := axu3 k_u89 g32 A X Y_
           refine st3_t B42 rfl rfl rfl rfl fun u90 k_u90 B42 => ?_
           obtain ⟨B1, B2, B3, B32, B40⟩ := up5 k_u90 B1 B2 B3 B32 B40 (by omega)
           obtain ⟨A, X, Y_⟩ := axu3 k_u90 g42 A X Y_
           refine st3_t B40 rfl rfl rfl rfl fun u91 k_u91 B40 => ?_
           obtain ⟨B1, B2, B3, B32, B42⟩ := up5 k_u91 B1 B2 B3 B32 B42 (by omega)
           obtain ⟨A, X, Y_⟩ := axu3 k_u91 g40 A X Y_
           replace h := h _ X A
           exact ⟨bk32, bk42, bk40, b1, s1, x1, b2, s2, x2, b33, s21, x38, rfl, B32, g32, rfl, B42, g42, rfl, B40, g40, (by omega), (by omega), (by omega), A, h⟩
       ·refine ⟨?_, ?_⟩
        ·refine newC_t fun bk43 u92 hb43 ha_u92 _ B43 => ?_
         have g43 := le_eq A.size hb43
         have l1_43 := lt3 hb43 B1 B2 B3
         have y43 := le_eq Y_ hb43
         obtain ⟨B1, B2, B3⟩ := ah3 ha_u92 B1 B2 B3
         obtain ⟨A, X, Y_⟩ := axa3 ha_u92 A X Y_
         refine bb3 ha_u92 ?_
         refine ⟨?_, ?_⟩
         ·replace h := h _ X A
          refine Calls.mono h ?_
          clear h
          rintro e37 w73 ⟨b34, s22, x39, he_, ha_w73, h⟩
          refine ⟨b34, s22, x39, he_, ?_⟩
          clear he_
          obtain ⟨B1, B2, B3, B43⟩ := ah4 ha_w73 B1 B2 B3 B43
          obtain ⟨A, X, Y_⟩ := axa3 ha_w73 A X Y_
          replace X : Ext w73 w73 := Ext.refl _
          refine ⟨?_, ?_⟩
          ·refine newC_t fun bk44 u93 hb44 ha_u93 _ B44 => ?_
           have g44 := le_eq A.size hb44
           have l1_44 := lt4 hb44 B1 B2 B3 B43
           have y44 := le_eq Y_ hb44
           obtain ⟨B1, B2, B3, B43⟩ := ah4 ha_u93 B1 B2 B3 B43
           obtain ⟨A, X, Y_⟩ := axa3 ha_u93 A X Y_
           refine bb3 ha_u93 ?_
           refine newC_t fun bk45 u94 hb45 ha_u94 _ B45 => ?_
           have g45 := le_eq A.size hb45
           have l1_45 := lt5 hb45 B1 B2 B3 B43 B44
           have y45 := le_eq Y_ hb45
           obtain ⟨B1, B2, B3, B43, B44⟩ := ah5 ha_u94 B1 B2 B3 B43 B44
           obtain ⟨A, X, Y_⟩ := axa3 ha_u94 A X Y_
           refine bb3 ha_u94 ?_
           refine st3_t B44 rfl rfl rfl rfl fun u95 k_u95 B44 => ?_
           obtain ⟨B1, B2, B3, B43, B45⟩ := up5 k_u95 B1 B2 B3 B43 B45 (by omega)
           obtain ⟨A, X, Y_⟩ := axu3 k_u95 g44 A X Y_
           refine st3_t B43 rfl rfl rfl rfl fun u96 k_u96 B43 => ?_
           obtain ⟨B1, B2, B3, B44, B45⟩ := up5 k_u96 B1 B2 B3 B44 B45 (by omega)
           obtain ⟨A, X, Y_⟩ := axu3 k_u96 g43 A X Y_
           refine st3_t B45 rfl rfl rfl rfl fun u97 k_u97 B45 => ?_
           obtain ⟨B1, B2, B3, B43, B44⟩ := up5 k_u97 B1 B2 B3 B43 B44 (by omega)
           obtain ⟨A, X, Y_⟩ := axu3 k_u97 g45 A X Y_
           replace h := h _ X A
           exact ⟨bk44, bk43, bk45, b1, s1, x1, b2, s2, x2, b34, s22, x39, rfl, B44, g44, rfl, B43, g43, rfl, B45, g45, (by omega), (by omega), (by omega), A, h⟩
          ·refine newC_t fun bk46 u98 hb46 ha_u98 _ B46 => ?_
           have g46 := le_eq A.size hb46
           have l1_46 := lt4 hb46 B1 B2 B3 B43
           have y46 := le_eq Y_ hb46
           obtain ⟨B1, B2, B3, B43⟩ := ah4 ha_u98 B1 B2 B3 B43
           obtain ⟨A, X, Y_⟩ := axa3 ha_u98 A X Y_
           refine bb3 ha_u98 ?_
           refine newC_t fun bk47 u99 hb47 ha_u99 _ B47 => ?_
           have g47 := le_eq A.size hb47
           have l1_47 := lt5 hb47 B1 B2 B3 B43 B46
           have y47 := le_eq Y_ hb47
           obtain ⟨B1, B2, B3, B43, B46⟩ := ah5 ha_u99 B1 B2 B3 B43 B46
           obtain ⟨A, X, Y_⟩ := axa3 ha_u99 A X Y_
           refine bb3 ha_u99 ?_
           refine st3_t B47 rfl rfl rfl rfl fun u100 k_u100 B47 => ?_
           obtain ⟨B1, B2, B3, B43, B46⟩ := up5 k_u100 B1 B2 B3 B43 B46 (by omega)
           obtain ⟨A, X, Y_⟩ := axu3 k_u100 g47 A X Y_
           refine st3_t B43 rfl rfl rfl rfl fun u101 k_u101 B43 => ?_
           obtain ⟨B1, B2, B3, B46, B47⟩ := up5 k_u101 B1 B2 B3 B46 B47 (by omega)
           obtain ⟨A, X, Y_⟩ := axu3 k_u101 g43 A X Y_
           refine st3_t B46 rfl rfl rfl rfl fun u102 k_u102 B46 => ?_
           obtain ⟨B1, B2, B3, B43, B47⟩ := up5 k_u102 B1 B2 B3 B43 B47 (by omega)
           obtain ⟨A, X, Y_⟩ := axu3 k_u102 g46 A X Y_
           replace h := h _ X A
           exact ⟨bk47, bk43, bk46, b1, s1, x1, b2, s2, x2, b34, s22, x39, rfl, B47, g47, rfl, B43, g43, rfl, B46, g46, (by omega), (by omega), (by omega), A, h⟩
         ·refine ⟨?_, ?_⟩
          ·refine newC_t fun bk48 u103 hb48 ha_u103 _ B48 => ?_
           have g48 := le_eq A.size hb48
           have l1_48 := lt4 hb48 B1 B2 B3 B43
           have y48 := le_eq Y_ hb48
           obtain ⟨B1, B2, B3, B43⟩ := ah4 ha_u103 B1 B2 B3 B43
           obtain ⟨A, X, Y_⟩ := axa3 ha_u103 A X Y_
           refine bb3 ha_u103 ?_
           refine ⟨?_, ?_⟩
           ·replace h := h _ X A
            refine Calls.mono h ?_
            clear h
            rintro e38 w77 ⟨b35, s23, x40, he_, ha_w77, h⟩
            refine ⟨b35, s23, x40, he_, ?_⟩
            clear he_
            obtain ⟨B1, B2, B3, B43, B48⟩ := ah5 ha_w77 B1 B2 B3 B43 B48
            obtain ⟨A, X, Y_⟩ := axa3 ha_w77 A X Y_
            replace X : Ext w77 w77 := Ext.refl _
            refine newC_t fun bk49 u104 hb49 ha_u104 _ B49 => ?_
            have g49 := le_eq A.size hb49
            have l1_49 := lt5 hb49 B1 B2 B3 B43 B48
            have y49 := le_eq Y_ hb49
            obtain ⟨B1, B2, B3, B43, B48⟩ := ah5 ha_u104 B1 B2 B3 B43 B48
            obtain ⟨A, X, Y_⟩ := axa3 ha_u104 A X Y_
            refine bb3 ha_u104 ?_
            refine st3_t B48 rfl rfl rfl rfl fun u105 k_u105 B48 => ?_
            obtain ⟨B1, B2, B3, B43, B49⟩ := up5 k_u105 B1 B2 B3 B43 B49 (by omega)
            obtain ⟨A, X, Y_⟩ := axu3 k_u105 g48 A X Y_
            refine st3_t B43 rfl rfl rfl rfl fun u106 k_u106 B43 => ?_
            obtain ⟨B1, B2, B3, B48, B49⟩ := up5 k_u106 B1 B2 B3 B48 B49 (by omega)
            obtain ⟨A, X, Y_⟩ := axu3 k_u106 g43 A X Y_
            refine st3_t B49 rfl rfl rfl rfl fun u107 k_u107 B49 => ?_
            obtain ⟨B1, B2, B3, B43, B48⟩ := up5 k_u107 B1 B2 B3 B43 B48 (by omega)
            obtain ⟨A, X, Y_⟩ := axu3 k_u107 g49 A X Y_
            replace h := h _ X A
            exact ⟨bk48, bk43, bk49, b1, s1, x1, b2, s2, x2, b35, s23, x40, rfl, B48, g48, rfl, B43, g43, rfl, B49, g49, (by omega), (by omega), (by omega), A, h⟩
           ·refine newC_t fun bk50 u108 hb50 ha_u108 _ B50 => ?_
            have g50 := le_eq A.size hb50
            have l1_50 := lt5 hb50 B1 B2 B3 B43 B48
            have y50 := le_eq Y_ hb50
            obtain ⟨B1, B2, B3, B43, B48⟩ := ah5 ha_u108 B1 B2 B3 B43 B48
            obtain ⟨A, X, Y_⟩ := axa3 ha_u108 A X Y_
            refine bb3 ha_u108 ?_
            replace h := h _ X A
            refine Calls.mono h ?_
            clear h
            rintro e39 w80 ⟨b36, s24, x41, he_, ha_w80, h⟩
            refine ⟨b36, s24, x41, he_, ?_⟩
            clear he_
            obtain ⟨B1, B2, B3, B43, B48, B50⟩ := ah6 ha_w80 B1 B2 B3 B43 B48 B50
            obtain ⟨A, X, Y_⟩ := axa3 ha_w80 A X Y_
            replace X : Ext w80 w80 := Ext.refl _
            refine st3_t B48 rfl rfl rfl rfl fun u109 k_u109 B48 => ?_
            obtain ⟨B1, B2, B3, B43, B50⟩ := up5 k_u109 B1 B2 B3 B43 B50 (by omega)
            obtain ⟨A, X, Y_⟩ := axu3 k_u109 g48 A X Y_
            refine st3_t B43 rfl rfl rfl rfl fun u110 k_u110 B43 => ?_
            obtain ⟨B1, B2, B3, B48, B50⟩ := up5 k_u110 B1 B2 B3 B48 B50 (by omega)
            obtain ⟨A, X, Y_⟩ := axu3 k_u110 g43 A X Y_
            refine st3_t B50 rfl rfl rfl rfl fun u111 k_u111 B50 => ?_
            obtain ⟨B1, B2, B3, B43, B48⟩ := up5 k_u111 B1 B2 B3 B43 B48 (by omega)
            obtain ⟨A, X, Y_⟩ := axu3 k_u111 g50 A X Y_
            replace h := h _ X A
            exact ⟨bk48, bk43, bk50, b1, s1, x1, b2, s2, x2, b36, s24, x41, rfl, B48, g48, rfl, B43, g43, rfl, B50, g50, (by omega), (by omega), (by omega), A, h⟩
          ·refine newC_t fun bk51 u112 hb51 ha_u112 _ B51 => ?_
           have g51 := le_eq A.size hb51
           have l1_51 := lt4 hb51 B1 B2 B3 B43
           have y51 := le_eq Y_ hb51
           obtain ⟨B1, B2, B3, B43⟩ := ah4 ha_u112 B1 B2 B3 B43
           obtain ⟨A, X, Y_⟩ := axa3 ha_u112 A X Y_
           refine bb3 ha_u112 ?_
           refine ⟨?_, ?_⟩
           ·replace h := h _ X A
            refine Calls.mono h ?_
            clear h
            rintro e40 w83 ⟨b37, s25, x42, he_, ha_w83, h⟩
            refine ⟨b37, s25, x42, he_, ?_⟩
            clear he_
            obtain ⟨B1, B2, B3, B43, B51⟩ := ah5 ha_w83 B1 B2 B3 B43 B51
            obtain ⟨A, X, Y_⟩ := axa3 ha_w83 A X Y_
            replace X : Ext w83 w83 := Ext.refl _
            refine newC_t fun bk52 u113 hb52 ha_u113 _ B52 => ?_
            have g52 := le_eq A.size hb52
            have l1_52 := lt5 hb52 B1 B2 B3 B43 B51
            have y52 := le_eq Y_ hb52
            obtain ⟨B1, B2, B3, B43, B51⟩ := ah5 ha_u113 B1 B2 B3 B43 B51
            obtain ⟨A, X, Y_⟩ := axa3 ha_u113 A X Y_
            refine bb3 ha_u113 ?_
            refine st3_t B52 rfl rfl rfl rfl fun u114 k_u114 B52 => ?_
            obtain ⟨B1, B2, B3, B43, B51⟩ := up5 k_u114 B1 B2 B3 B43 B51 (by omega)
            obtain ⟨A, X, Y_⟩ := axu3 k_u114 g52 A X Y_
            refine st3_t B43 rfl rfl rfl rfl fun u115 k_u115 B43 => ?_
            obtain ⟨B1, B2, B3, B51, B52⟩ := up5 k_u115 B1 B2 B3 B51 B52 (by omega)
            obtain ⟨A, X, Y_⟩ := axu3 k_u115 g43 A X Y_
            refine st3_t B51 rfl rfl rfl rfl fun u116 k_u116 B51 => ?_
            obtain ⟨B1, B2, B3, B43, B52⟩ := up5 k_u116 B1 B2 B3 B43 B52 (by omega)
            obtain ⟨A, X, Y_⟩ := axu3 k_u116 g51 A X Y_
            replace h := h _ X A
            exact ⟨bk52, bk43, bk51, b1, s1, x1, b2, s2, x2, b37, s25, x42, rfl, B52, g52, rfl, B43, g43, rfl, B51, g51, (by omega), (by omega), (by omega), A, h⟩
           ·refine newC_t fun bk53 u117 hb53 ha_u117 _ B53 => ?_
            have g53 := le_eq A.size hb53
            have l1_53 := lt5 hb53 B1 B2 B3 B43 B51
            have y53 := le_eq Y_ hb53
            obtain ⟨B1, B2, B3, B43, B51⟩ := ah5 ha_u117 B1 B2 B3 B43 B51
            obtain ⟨A, X, Y_⟩ := axa3 ha_u117 A X Y_
            refine bb3 ha_u117 ?_
            replace h := h _ X A
            refine Calls.mono h ?_
            clear h
            rintro e41 w86 ⟨b38, s26, x43, he_, ha_w86, h⟩
            refine ⟨b38, s26, x43, he_, ?_⟩
            clear he_
            obtain ⟨B1, B2, B3, B43, B51, B53⟩ := ah6 ha_w86 B1 B2 B3 B43 B51 B53
            obtain ⟨A, X, Y_⟩ := axa3 ha_w86 A X Y_
            replace X : Ext w86 w86 := Ext.refl _
            refine st3_t B53 rfl rfl rfl rfl fun u118 k_u118 B53 => ?_
            obtain ⟨B1, B2, B3, B43, B51⟩ := up5 k_u118 B1 B2 B3 B43 B51 (by omega)
            obtain ⟨A, X, Y_⟩ := axu3 k_u118 g53 A X Y_
            refine st3_t B43 rfl rfl rfl rfl fun u119 k_u119 B43 => ?_
            obtain ⟨B1, B2, B3, B51, B53⟩ := up5 k_u119 B1 B2 B3 B51 B53 (by omega)
            obtain ⟨A, X, Y_⟩ := axu3 k_u119 g43 A X Y_
            refine st3_t B51 rfl rfl rfl rfl fun u120 k_u120 B51 => ?_
            obtain ⟨B1, B2, B3, B43, B53⟩ := up5 k_u120 B1 B2 B3 B43 B53 (by omega)
            obtain ⟨A, X, Y_⟩ := axu3 k_u120 g51 A X Y_
            replace h := h _ X A
            exact ⟨bk53, bk43, bk51, b1, s1, x1, b2, s2, x2, b38, s26, x43, rfl, B53, g53, rfl, B43, g43, rfl, B51, g51, (by omega), (by omega), (by omega), A, h⟩
        ·refine newC_t fun bk54 u121 hb54 ha_u121 _ B54 => ?_
         have g54 := le_eq A.size hb54
         have l1_54 := lt3 hb54 B1 B2 B3
         have y54 := le_eq Y_ hb54
         obtain ⟨B1, B2, B3⟩ := ah3 ha_u121 B1 B2 B3
         obtain ⟨A, X, Y_⟩ := axa3 ha_u121 A X Y_
         refine bb3 ha_u121 ?_
         refine ⟨?_, ?_⟩
         ·replace h := h _ X A
          refine Calls.mono h ?_
          clear h
          rintro e42 w89 ⟨b39, s27, x44, he_, ha_w89, h⟩
          refine ⟨b39, s27, x44, he_, ?_⟩
          clear he_
          obtain ⟨B1, B2, B3, B54⟩ := ah4 ha_w89 B1 B2 B3 B54
          obtain ⟨A, X, Y_⟩ := axa3 ha_w89 A X Y_
          replace X : Ext w89 w89 := Ext.refl _
          refine ⟨?_, ?_⟩
          ·refine newC_t fun bk55 u122 hb55 ha_u122 _ B55 => ?_
           have g55 := le_eq A.size hb55
           have l1_55 := lt4 hb55 B1 B2 B3 B54
           have y55 := le_eq Y_ hb55
           obtain ⟨B1, B2, B3, B54⟩ := ah4 ha_u122 B1 B2 B3 B54
           obtain ⟨A, X, Y_⟩ := axa3 ha_u122 A X Y_
           refine bb3 ha_u122 ?_
           refine newC_t fun bk56 u123 hb56 ha_u123 _ B56 => ?_
           have g56 := le_eq A.size hb56
           have l1_56 := lt5 hb56 B1 B2 B3 B54 B55
           have y56 := le_eq Y_ hb56
           obtain ⟨B1, B2, B3, B54, B55⟩ := ah5 ha_u123 B1 B2 B3 B54 B55
           obtain ⟨A, X, Y_⟩ := axa3 ha_u123 A X Y_
           refine bb3 ha_u123 ?_
           refine st3_t B55 rfl rfl rfl rfl fun u124 k_u124 B55 => ?_
           obtain ⟨B1, B2, B3, B54, B56⟩ := up5 k_u124 B1 B2 B3 B54 B56 (by omega)
           obtain ⟨A, X, Y_⟩ := axu3 k_u124 g55 A X Y_
           refine st3_t B56 rfl rfl rfl rfl fun u125 k_u125 B56 => ?_
           obtain ⟨B1, B2, B3, B54, B55⟩ := up5 k_u125 B1 B2 B3 B54 B55 (by omega)
           obtain ⟨A, X, Y_⟩ := axu3 k_u125 g56 A X Y_
           refine st3_t B54 rfl rfl rfl rfl fun u126 k_u126 B54 => ?_
           obtain ⟨B1, B2, B3, B55, B56⟩ := up5 k_u126 B1 B2 B3 B55 B56 (by omega)
           obtain ⟨A, X, Y_⟩ := axu3 k_u126 g54 A X Y_
           replace h := h _ X A
           exact ⟨bk55, bk56, bk54, b1, s1, x1, b2, s2, x2, b39, s27, x44, rfl, B55, g55, rfl, B56, g56, rfl, B54, g54, (by omega), (by omega), (by omega), A, h⟩
          ·refine newC_t fun bk57 u127 hb57 ha_u127 _ B57 => ?_
           have g57 := le_eq A.size hb57
           have l1_57 := lt4 hb57 B1 B2 B3 B54
           have y57 := le_eq Y_ hb57
           obtain ⟨B1, B2, B3, B54⟩ := ah4 ha_u127 B1 B2 B3 B54
           obtain ⟨A, X, Y_⟩ := axa3 ha_u127 A X Y_
           refine bb3 ha_u127 ?_
           refine newC_t fun bk58 u128 hb58 ha_u128 _ B58 => ?_
           have g58 := le_eq A.size hb58
           have l1_58 := lt5 hb58 B1 B2 B3 B54 B57
           have y58 := le_eq Y_ hb58
           obtain ⟨B1, B2, B3, B54, B57⟩ := ah5 ha_u128 B1 B2 B3 B54 B57
           obtain ⟨A, X, Y_⟩ := axa3 ha_u128 A X Y_
           refine bb3 ha_u128 ?_
           refine st3_t B58 rfl rfl rfl rfl fun u129 k_u129 B58 => ?_
           obtain ⟨B1, B2, B3, B54, B57⟩ := up5 k_u129 B1 B2 B3 B54 B57 (by omega)
           obtain ⟨A, X, Y_⟩ := axu3 k_u129 g58 A X Y_
           refine st3_t B57 rfl rfl rfl rfl fun u130 k_u130 B57 => ?_
           obtain ⟨B1, B2, B3, B54, B58⟩ := up5 k_u130 B1 B2 B3 B54 B58 (by omega)
           obtain ⟨A, X, Y_⟩ := axu3 k_u130 g57 A X Y_
           refine st3_t B54 rfl rfl rfl rfl fun u131 k_u131 B54 => ?_
           obtain ⟨B1, B2, B3, B57, B58⟩ := up5 k_u131 B1 B2 B3 B57 B58 (by omega)
           obtain ⟨A, X, Y_⟩ := axu3 k_u131 g54 A X Y_
           replace h := h _ X A
           exact ⟨bk58, bk57, bk54, b1, s1, x1, b2, s2, x2, b39, s27, x44, rfl, B58, g58, rfl, B57, g57, rfl, B54, g54, (by omega), (by omega), (by omega), A, h⟩
         ·refine ⟨?_, ?_⟩
          ·refine newC_t fun bk59 u132 hb59 ha_u132 _ B59 => ?_
           have g59 := le_eq A.size hb59
           have l1_59 := lt4 hb59 B1 B2 B3 B54
           have y59 := le_eq Y_ hb59
           obtain ⟨B1, B2, B3, B54⟩ := ah4 ha_u132 B1 B2 B3 B54
           obtain ⟨A, X, Y_⟩ := axa3 ha_u132 A X Y_
           refine bb3 ha_u132 ?_
           refine ⟨?_, ?_⟩
           ·replace h := h _ X A
            refine Calls.mono h ?_
            clear h
            rintro e43 w93 ⟨b40, s28, x45, he_, ha_w93, h⟩
            refine ⟨b40, s28, x45, he_, ?_⟩
            clear he_
            obtain ⟨B1, B2, B3, B54, B59⟩ := ah5 ha_w93 B1 B2 B3 B54 B59
            obtain ⟨A, X, Y_⟩ := axa3 ha_w93 A X Y_
            replace X : Ext w93 w93 := Ext.refl _
            refine newC_t fun bk60 u133 hb60 ha_u133 _ B60 => ?_
            have g60 := le_eq A.size hb60
            have l1_60 := lt5 hb60 B1 B2 B3 B54 B59
            have y60 := le_eq Y_ hb60
            obtain ⟨B1, B2, B3, B54, B59⟩ := ah5 ha_u133 B1 B2 B3 B54 B59
            obtain ⟨A, X, Y_⟩ := axa3 ha_u133 A X Y_
            refine bb3 ha_u133 ?_
            refine st3_t B59 rfl rfl rfl rfl fun u134 k_u134 B59 => ?_
            obtain ⟨B1, B2, B3, B54, B60⟩ := up5 k_u134 B1 B2 B3 B54 B60 (by omega)
            obtain ⟨A, X, Y_⟩ := axu3 k_u134 g59 A X Y_
            refine st3_t B60 rfl rfl rfl rfl fun u135 k_u135 B60 => ?_
            obtain ⟨B1, B2, B3, B54, B59⟩ := up5 k_u135 B1 B2 B3 B54 B59 (by omega)
            obtain ⟨A, X, Y_⟩ := axu3 k_u135 g60 A X Y_
            refine st3_t B54 rfl rfl rfl rfl fun u136 k_u136 B54 => ?_
            obtain ⟨B1, B2, B3, B59, B60⟩ := up5 k_u136 B1 B2 B3 B59 B60 (by omega)
            obtain ⟨A, X, Y_⟩ := axu3 k_u136 g54 A X Y_
            replace h := h _ X A
            exact ⟨bk59, bk60, bk54, b1, s1, x1, b2, s2, x2, b40, s28, x45, rfl, B59, g59, rfl, B60, g60, rfl, B54, g54, (by omega), (by omega), (by omega), A, h⟩
           ·refine newC_t fun bk61 u137 hb61 ha_u137 _ B61 => ?_
            have g61 := le_eq A.size hb61
            have l1_61 := lt5 hb61 B1 B2 B3 B54 B59
            have y61 := le_eq Y_ hb61
            obtain ⟨B1, B2, B3, B54, B59⟩ := ah5 ha_u137 B1 B2 B3 B54 B59
            obtain ⟨A, X, Y_⟩ := axa3 ha_u137 A X Y_
            refine bb3 ha_u137 ?_
            replace h := h _ X A
            refine Calls.mono h ?_
            clear h
            rintro e44 w96 ⟨b41, s29, x46, he_, ha_w96, h⟩
            refine ⟨b41, s29, x46, he_, ?_⟩
            clear he_
            obtain ⟨B1, B2, B3, B54, B59, B61⟩ := ah6 ha_w96 B1 B2 B3 B54 B59 B61
            obtain ⟨A, X, Y_⟩ := axa3 ha_w96 A X Y_
            replace X : Ext w96 w96 := Ext.refl _
            refine st3_t B59 rfl rfl rfl rfl fun u138 k_u138 B59 => ?_
            obtain ⟨B1, B2, B3, B54, B61⟩ := up5 k_u138 B1 B2 B3 B54 B61 (by omega)
            obtain ⟨A, X, Y_⟩ := axu3 k_u138 g59 A X Y_
            refine st3_t B61 rfl rfl rfl rfl fun u139 k_u139 B61 => ?_
            obtain ⟨B1, B2, B3, B54, B59⟩ := up5 k_u139 B1 B2 B3 B54 B59 (by omega)
            obtain ⟨A, X, Y_⟩ := axu3 k_u139 g61 A X Y_
            refine st3_t B54 rfl rfl rfl rfl fun u140 k_u140 B54 => ?_
            obtain ⟨B1, B2, B3, B59, B61⟩ := up5 k_u140 B1 B2 B3 B59 B61 (by omega)
            obtain ⟨A, X, Y_⟩ := axu3 k_u140 g54 A X Y_
            replace h := h _ X A
            exact ⟨bk59, bk61, bk54, b1, s1, x1, b2, s2, x2, b41, s29, x46, rfl, B59, g59, rfl, B61, g61, rfl, B54, g54, (by omega), (by omega), (by omega), A, h⟩
          ·refine newC_t fun bk62 u141 hb62 ha_u141 _ B62 => ?_
           have g62 := le_eq A.size hb62
           have l1_62 := lt4 hb62 B1 B2 B3 B54
           have y62 := le_eq Y_ hb62
           obtain ⟨B1, B2, B3, B54⟩ := ah4 ha_u141 B1 B2 B3 B54
           obtain ⟨A, X, Y_⟩ := axa3 ha_u141 A X Y_
           refine bb3 ha_u141 ?_
           refine ⟨?_, ?_⟩
           ·replace h := h _ X A
            refine Calls.mono h ?_
            clear h
            rintro e45 w99 ⟨b42, s30, x47, he_, ha_w99, h⟩
            refine ⟨b42, s30, x47, he_, ?_⟩
            clear he_
            obtain ⟨B1, B2, B3, B54, B62⟩ := ah5 ha_w99 B1 B2 B3 B54 B62
            obtain ⟨A, X, Y_⟩ := axa3 ha_w99 A X Y_
            replace X : Ext w99 w99 := Ext.refl _
            refine newC_t fun bk63 u142 hb63 ha_u142 _ B63 => ?_
            have g63 := le_eq A.size hb63
            have l1_63 := lt5 hb63 B1 B2 B3 B54 B62
            have y63 := le_eq Y_ hb63
            obtain ⟨B1, B2, B3, B54, B62⟩ := ah5 ha_u142 B1 B2 B3 B54 B62
            obtain ⟨A, X, Y_⟩ := axa3 ha_u142 A X Y_
            refine bb3 ha_u142 ?_
            refine st3_t B63 rfl rfl rfl rfl fun u143 k_u143 B63 => ?_
            obtain ⟨B1, B2, B3, B54, B62⟩ := up5 k_u143 B1 B2 B3 B54 B62 (by omega)
            obtain ⟨A, X, Y_⟩ := axu3 k_u143 g63 A X Y_
            refine st3_t B62 rfl rfl rfl rfl fun u144 k_u144 B62 => ?_
            obtain ⟨B1, B2, B3, B54, B63⟩ := up5 k_u144 B1 B2 B3 B54 B63 (by omega)
            obtain ⟨A, X, Y_⟩ := axu3 k_u144 g62 A X Y_
            refine st3_t B54 rfl rfl rfl rfl fun u145 k_u145 B54 => ?_
            obtain ⟨B1, B2, B3, B62, B63⟩ := up5 k_u145 B1 B2 B3 B62 B63 (by omega)
            obtain ⟨A, X, Y_⟩ := axu3 k_u145 g54 A X Y_
            replace h := h _ X A
            exact ⟨bk63, bk62, bk54, b1, s1, x1, b2, s2, x2, b42, s30, x47, rfl, B63, g63, rfl, B62, g62, rfl, B54, g54, (by omega), (by omega), (by omega), A, h⟩
           ·refine newC_t fun bk64 u146 hb64 ha_u146 _ B64 => ?_
            have g64 := le_eq A.size hb64
            have l1_64 := lt5 hb64 B1 B2 B3 B54 B62
            have y64 := le_eq Y_ hb64
            obtain ⟨B1, B2, B3, B54, B62⟩ := ah5 ha_u146 B1 B2 B3 B54 B62
            obtain ⟨A, X, Y_⟩ := axa3 ha_u146 A X Y_
            refine bb3 ha_u146 ?_
            replace h := h _ X A
            refine Calls.mono h ?_
            clear h
            rintro e46 w102 ⟨b43, s31, x48, he_, ha_w102, h⟩
            refine ⟨b43, s31, x48, he_, ?_⟩
            clear he_
            obtain ⟨B1, B2, B3, B54, B62, B64⟩ := ah6 ha_w102 B1 B2 B3 B54 B62 B64
            obtain ⟨A, X, Y_⟩ := axa3 ha_w102 A X Y_
            replace X : Ext w102 w102 := Ext.refl _
            refine st3_t B64 rfl rfl rfl rfl fun u147 k_u147 B64 => ?_
            obtain ⟨B1, B2, B3, B54, B62⟩ := up5 k_u147 B1 B2 B3 B54 B62 (by omega)
            obtain ⟨A, X, Y_⟩ := axu3 k_u147 g64 A X Y_
            refine st3_t B62 rfl rfl rfl rfl fun u148 k_u148 B62 => ?_
            obtain ⟨B1, B2, B3, B54, B64⟩ := up5 k_u148 B1 B2 B3 B54 B64 (by omega)
            obtain ⟨A, X, Y_⟩ := axu3 k_u148 g62 A X Y_
            refine st3_t B54 rfl rfl rfl rfl fun u149 k_u149 B54 => ?_
            obtain ⟨B1, B2, B3, B62, B64⟩ := up5 k_u149 B1 B2 B3 B62 B64 (by omega)
            obtain ⟨A, X, Y_⟩ := axu3 k_u149 g54 A X Y_
            replace h := h _ X A
            exact ⟨bk64, bk62, bk54, b1, s1, x1, b2, s2, x2, b43, s31, x48, rfl, B64, g64, rfl, B62, g62, rfl, B54, g54, (by omega), (by omega), (by omega), A, h⟩
     ·refine ⟨?_, ?_⟩
      ·refine newC_t fun bk65 u150 hb65 ha_u150 _ B65 => ?_
       have g65 := le_eq A.size hb65
       have l1_65 := lt3 hb65 B1 B2 B3
       have y65 := le_eq Y_ hb65
       obtain ⟨B1, B2, B3⟩ := ah3 ha_u150 B1 B2 B3
       obtain ⟨A, X, Y_⟩ := axa3 ha_u150 A X Y_
       refine bb3 ha_u150 ?_
       refine ⟨?_, ?_⟩
       ·replace h := h _ X A
        refine Calls.mono h ?_
        clear h
        rintro e47 w105 ⟨b44, s32, x49, he_, ha_w105, h⟩
        refine ⟨b44, s32, x49, he_, ?_⟩
        clear he_
        obtain ⟨B1, B2, B3, B65⟩ := ah4 ha_w105 B1 B2 B3 B65
        obtain ⟨A, X, Y_⟩ := axa3 ha_w105 A X Y_
        replace X : Ext w105 w105 := Ext.refl _
        refine ⟨(Bar.of_ahead ha_w105), ?_⟩
        refine ⟨?_, ?_⟩
        ·replace h := h _ X A
         refine Calls.mono h ?_
         clear h
         rintro e48 w107 ⟨b45, s33, x50, he_, ha_w107, h⟩
         refine ⟨b45, s33, x50, he_, ?_⟩
         clear he_
         obtain ⟨B1, B2, B3, B65⟩ := ah4 ha_w107 B1 B2 B3 B65
         obtain ⟨A, X, Y_⟩ := axa3 ha_w107 A X Y_
         replace X : Ext w107 w107 := Ext.refl _
         refine ⟨?_, ?_⟩
         ·refine newC_t fun bk66 u151 hb66 ha_u151 _ B66 => ?_
          have g66 := le_eq A.size hb66
          have l1_66 := lt4 hb66 B1 B2 B3 B65
          have y66 := le_eq Y_ hb66
          obtain ⟨B1, B2, B3, B65⟩ := ah4 ha_u151 B1 B2 B3 B65
          obtain ⟨A, X, Y_⟩ := axa3 ha_u151 A X Y_
          refine bb3 ha_u151 ?_
          refine newC_t fun bk67 u152 hb67 ha_u152 _ B67 => ?_
          have g67 := le_eq A.size hb67
          have l1_67 := lt5 hb67 B1 B2 B3 B65 B66
          have y67 := le_eq Y_ hb67
          obtain ⟨B1, B2, B3, B65, B66⟩ := ah5 ha_u152 B1 B2 B3 B65 B66
          obtain ⟨A, X, Y_⟩ := axa3 ha_u152 A X Y_
          refine bb3 ha_u152 ?_
          refine st3_t B65 rfl rfl rfl rfl fun u153 k_u153 B65 => ?_
          obtain ⟨B1, B2, B3, B66, B67⟩ := up5 k_u153 B1 B2 B3 B66 B67 (by omega)
          obtain ⟨A, X, Y_⟩ := axu3 k_u153 g65 A X Y_
          refine st3_t B66 rfl rfl rfl rfl fun u154 k_u154 B66 => ?_
          obtain ⟨B1, B2, B3, B65, B67⟩ := up5 k_u154 B1 B2 B3 B65 B67 (by omega)
          obtain ⟨A, X, Y_⟩ := axu3 k_u154 g66 A X Y_
          refine st3_t B67 rfl rfl rfl rfl fun u155 k_u155 B67 => ?_
          obtain ⟨B1, B2, B3, B65, B66⟩ := up5 k_u155 B1 B2 B3 B65 B66 (by omega)
          obtain ⟨A, X, Y_⟩ := axu3 k_u155 g67 A X Y_
          replace h := h _ X A
          exact ⟨bk65, bk66, bk67, b1, s1, x1, b44, s32, x49, b45, s33, x50, rfl, B65, g65, rfl, B66, g66, rfl, B67, g67, (by omega), (by omega), (by omega), A, h⟩
         ·refine newC_t fun bk68 u156 hb68 ha_u156 _ B68 => ?_
          have g68 := le_eq A.size hb68
          have l1_68 := lt4 hb68 B1 B2 B3 B65
          have y68 := le_eq Y_ hb68
          obtain ⟨B1, B2, B3, B65⟩ := ah4 ha_u156 B1 B2 B3 B65
          obtain ⟨A, X, Y_⟩ := axa3 ha_u156 A X Y_
          refine bb3 ha_u156 ?_
          refine newC_t fun bk69 u157 hb69 ha_u157 _ B69 => ?_
          have g69 := le_eq A.size hb69
          have l1_69 := lt5 hb69 B1 B2 B3 B65 B68
          have y69 := le_eq Y_ hb69
          obtain ⟨B1, B2, B3, B65, B68⟩ := ah5 ha_u157 B1 B2 B3 B65 B68
          obtain ⟨A, X, Y_⟩ := axa3 ha_u157 A X Y_
          refine bb3 ha_u157 ?_
          refine st3_t B65 rfl rfl rfl rfl fun u158 k_u158 B65 => ?_
          obtain ⟨B1, B2, B3, B68, B69⟩ := up5 k_u158 B1 B2 B3 B68 B69 (by omega)
          obtain ⟨A, X, Y_⟩ := axu3 k_u158 g65 A X Y_
          refine st3_t B69 rfl rfl rfl rfl fun u159 k_u159 B69 => ?_
          obtain ⟨B1, B2, B3, B65, B68⟩ := up5 k_u159 B1 B2 B3 B65 B68 (by omega)
          obtain ⟨A, X, Y_⟩ := axu3 k_u159 g69 A X Y_
          refine st3_t B68 rfl rfl rfl rfl fun u160 k_u160 B68 => ?_
          obtain ⟨B1, B2, B3, B65, B69⟩ := up5 k_u160 B1 B2 B3 B65 B69 (by omega)
          obtain ⟨A, X, Y_⟩ := axu3 k_u160 g68 A X Y_
          replace h := h _ X A
          exact ⟨bk65, bk69, bk68, b1, s1, x1, b44, s32, x49, b45, s33, x50, rfl, B65, g65, rfl, B69, g69, rfl, B68, g68, (by omega), (by omega), (by omega), A, h⟩
        ·refine ⟨?_, ?_⟩
         ·refine newC_t fun bk70 u161 hb70 ha_u161 _ B70 => ?_
          have g70 := le_eq A.size hb70
          have l1_70 := lt4 hb70 B1 B2 B3 B65
          have y70 := le_eq Y_ hb70
          obtain ⟨B1, B2, B3, B65⟩ := ah4 ha_u161 B1 B2 B3 B65
          obtain ⟨A, X, Y_⟩ := axa3 ha_u161 A X Y_
          refine bb3 ha_u161 ?_
          refine ⟨?_, ?_⟩
          ·replace h := h _ X A
           refine Calls.mono h ?_
           clear h
           rintro e49 w111 ⟨b46, s34, x51, he_, ha_w111, h⟩
           refine ⟨b46, s34, x51, he_, ?_⟩
           clear he_
           obtain ⟨B1, B2, B3, B65, B70⟩ := ah5 ha_w111 B1 B2 B3 B65 B70
           obtain ⟨A, X, Y_⟩ := axa3 ha_w111 A X Y_
           replace X : Ext w111 w111 := Ext.refl _
           refine newC_t fun bk71 u162 hb71 ha_u162 _ B71 => ?_
           have g71 := le_eq A.size hb71
           have l1_71 := lt5 hb71 B1 B2 B3 B65 B70
           have y71 := le_eq Y_ hb71
           obtain ⟨B1, B2, B3, B65, B70⟩ := ah5 ha_u162 B1 B2 B3 B65 B70
           obtain ⟨A, X, Y_⟩ := axa3 ha_u162 A X Y_
           refine bb3 ha_u162 ?_
           refine st3_t B65 rfl rfl rfl rfl fun u163 k_u163 B65 => ?_
           obtain ⟨B1, B2, B3, B70, B71⟩ := up5 k_u163 B1 B2 B3 B70 B71 (by omega)
           obtain ⟨A, X, Y_⟩ := axu3 k_u163 g65 A X Y_
           refine st3_t B70 rfl rfl rfl rfl fun u164 k_u164 B70 => ?_
           obtain ⟨B1, B2, B3, B65, B71⟩ := up5 k_u164 B1 B2 B3 B65 B71 (by omega)
           obtain ⟨A, X, Y_⟩ := axu3 k_u164 g70 A X Y_
           refine st3_t B71 rfl rfl rfl rfl fun u165 k_u165 B71 => ?_
           obtain ⟨B1, B2, B3, B65, B70⟩ := up5 k_u165 B1 B2 B3 B65 B70 (by omega)
           obtain ⟨A, X, Y_⟩ := axu3 k_u165 g71 A X Y_
           replace h := h _ X A
           exact ⟨bk65, bk70, bk71, b1, s1, x1, b44, s32, x49, b46, s34, x51, rfl, B65, g65, rfl, B70, g70, rfl, B71, g71, (by omega), (by omega), (by omega), A, h⟩
          ·refine newC_t fun bk72 u166 hb72 ha_u166 _ B72 => ?_
           have g72 := le_eq A.size hb72
           have l1_72 := lt5 hb72 B1 B2 B3 B65 B70
           have y72 := le_eq Y_ hb72
           obtain ⟨B1, B2, B3, B65, B70⟩ := ah5 ha_u166 B1 B2 B3 B65 B70
           obtain ⟨A, X, Y_⟩ := axa3 ha_u166 A X Y_
           refine bb3 ha_u166 ?_
           replace h := h _ X A
           refine Calls.mono h ?_
           clear h
           rintro e50 w114 ⟨b47, s35, x52, he_, ha_w114, h⟩
           refine ⟨b47, s35, x52, he_, ?_⟩
           clear he_
           obtain ⟨B1, B2, B3, B65, B70, B72⟩ := ah6 ha_w114 B1 B2 B3 B65 B70 B72
           obtain ⟨A, X, Y_⟩ := axa3 ha_w114 A X Y_
           replace X : Ext w114 w114 := Ext.refl _
           refine st3_t B65 rfl rfl rfl rfl fun u167 k_u167 B65 => ?_
           obtain ⟨B1, B2, B3, B70, B72⟩ := up5 k_u167 B1 B2 B3 B70 B72 (by omega)
           obtain ⟨A, X, Y_⟩ := axu3 k_u167 g65 A X Y_
           refine st3_t B70 rfl rfl rfl rfl fun u168 k_u168 B70 => ?_
           obtain ⟨B1, B2, B3, B65, B72⟩ := up5 k_u168 B1 B2 B3 B65 B72 (by omega)
           obtain ⟨A, X, Y_⟩ := axu3 k_u168 g70 A X Y_
           refine st3_t B72 rfl rfl rfl rfl fun u169 k_u169 B72 => ?_
           obtain ⟨B1, B2, B3, B65, B70⟩ := up5 k_u169 B1 B2 B3 B65 B70 (by omega)
           obtain ⟨A, X, Y_⟩ := axu3 k_u169 g72 A X Y_
           replace h := h _ X A
           exact ⟨bk65, bk70, bk72, b1, s1, x1, b44, s32, x49, b47, s35, x52, rfl, B65, g65, rfl, B70, g70, rfl, B72, g72, (by omega), (by omega), (by omega), A, h⟩
         ·refine newC_t fun bk73 u170 hb73 ha_u170 _ B73 => ?_
          have g73 := le_eq A.size hb73
          have l1_73 := lt4 hb73 B1 B2 B3 B65
          have y73 := le_eq Y_ hb73
          obtain ⟨B1, B2, B3, B65⟩ := ah4 ha_u170 B1 B2 B3 B65
          obtain ⟨A, X, Y_⟩ := axa3 ha_u170 A X Y_
          refine bb3 ha_u170 ?_
          refine ⟨?_, ?_⟩
          ·replace h := h _ X A
           refine Calls.mono h ?_
           clear h
           rintro e51 w117 ⟨b48, s36, x53, he_, ha_w117, h⟩
           refine ⟨b48, s36, x53, he_, ?_⟩
           clear he_
           obtain ⟨B1, B2, B3, B65, B73⟩ := ah5 ha_w117 B1 B2 B3 B65 B73
           obtain ⟨A, X, Y_⟩ := axa3 ha_w117 A X Y_
           replace X : Ext w117 w117 := Ext.refl _
           refine newC_t fun bk74 u171 hb74 ha_u171 _ B74 => ?_
           have g74 := le_eq A.size hb74
           have l1_74 := lt5 hb74 B1 B2 B3 B65 B73
           have y74 := le_eq Y_ hb74
           obtain ⟨B1, B2, B3, B65, B73⟩ := ah5 ha_u171 B1 B2 B3 B65 B73
           obtain ⟨A, X, Y_⟩ := axa3 ha_u171 A X Y_
           refine bb3 ha_u171 ?_
           refine st3_t B65 rfl rfl rfl rfl fun u172 k_u172 B65 => ?_
           obtain ⟨B1, B2, B3, B73, B74⟩ := up5 k_u172 B1 B2 B3 B73 B74 (by omega)
           obtain ⟨A, X, Y_⟩ := axu3 k_u172 g65 A X Y_
           refine st3_t B74 rfl rfl rfl rfl fun u173 k_u173 B74 => ?_
           obtain ⟨B1, B2, B3, B65, B73⟩ := up5 k_u173 B1 B2 B3 B65 B73 (by omega)
           obtain ⟨A, X, Y_⟩ := axu3 k_u173 g74 A X Y_
           refine st3_t B73 rfl rfl rfl rfl fun u174 k_u174 B73 => ?_
           obtain ⟨B1, B2, B3, B65, B74⟩ := up5 k_u174 B1 B2 B3 B65 B74 (by omega)
           obtain ⟨A, X, Y_⟩ := axu3 k_u174 g73 A X Y_
           replace h := h _ X A
           exact ⟨bk65, bk74, bk73, b1, s1, x1, b44, s32, x49, b48, s36, x53, rfl, B65, g65, rfl, B74, g74, rfl, B73, g73, (by omega), (by omega), (by omega), A, h⟩
          ·refine newC_t fun bk75 u175 hb75 ha_u175 _ B75 => ?_
           have g75 := le_eq A.size hb75
           have l1_75 := lt5 hb75 B1 B2 B3 B65 B73
           have y75 := le_eq Y_ hb75
           obtain ⟨B1, B2, B3, B65, B73⟩ := ah5 ha_u175 B1 B2 B3 B65 B73
           obtain ⟨A, X, Y_⟩ := axa3 ha_u175 A X Y_
           refine bb3 ha_u175 ?_
           replace h := h _ X A
           refine Calls.mono h ?_
           clear h
           rintro e52 w120 ⟨b49, s37, x54, he_, ha_w120, h⟩
           refine ⟨b49, s37, x54, he_, ?_⟩
           clear he_
           obtain ⟨B1, B2, B3, B65, B73, B75⟩ := ah6 ha_w120 B1 B2 B3 B65 B73 B75
           obtain ⟨A, X, Y_⟩ := axa3 ha_w120 A X Y_
           replace X : Ext w120 w120 := Ext.refl _
           refine st3_t B65 rfl rfl rfl rfl fun u176 k_u176 B65 => ?_
           obtain ⟨B1, B2, B3, B73, B75⟩ := up5 k_u176 B1 B2 B3 B73 B75 (by omega)
           obtain ⟨A, X, Y_⟩ := axu3 k_u176 g65 A X Y_
           refine st3_t B75 rfl rfl rfl rfl fun u177 k_u177 B75 => ?_
           obtain ⟨B1, B2, B3, B65, B73⟩ := up5 k_u177 B1 B2 B3 B65 B73 (by omega)
           obtain ⟨A, X, Y_⟩ := axu3 k_u177 g75 A X Y_
           refine st3_t B73 rfl rfl rfl rfl fun u178 k_u178 B73 => ?_
           obtain ⟨B1, B2, B3, B65, B75⟩ := up5 k_u178 B1 B2 B3 B65 B75 (by omega)
           obtain ⟨A, X, Y_⟩ := axu3 k_u178 g73 A X Y_
           replace h := h _ X A
           exact ⟨bk65, bk75, bk73, b1, s1, x1, b44, s32, x49, b49, s37, x54, rfl, B65, g65, rfl, B75, g75, rfl, B73, g73, (by omega), (by omega), (by omega), A, h⟩
       ·refine ⟨?_, ?_⟩
        ·refine newC_t fun bk76 u179 hb76 ha_u179 _ B76 => ?_
         have g76 := le_eq A.size hb76
         have l1_76 := lt4 hb76 B1 B2 B3 B65
         have y76 := le_eq Y_ hb76
         obtain ⟨B1, B2, B3, B65⟩ := ah4 ha_u179 B1 B2 B3 B65
         obtain ⟨A, X, Y_⟩ := axa3 ha_u179 A X Y_
         refine bb3 ha_u179 ?_
         refine ⟨?_, ?_⟩
         ·replace h := h _ X A
          refine Calls.mono h ?_
          clear h
          rintro e53 w123 ⟨b50, s38, x55, he_, ha_w123, h⟩
          refine ⟨b50, s38, x55, he_, ?_⟩
          clear he_
          obtain ⟨B1, B2, B3, B65, B76⟩ := ah5 ha_w123 B1 B2 B3 B65 B76
          obtain ⟨A, X, Y_⟩ := axa3 ha_w123 A X Y_
          replace X : Ext w123 w123 := Ext.refl _
          refine ⟨(Bar.of_ahead ha_w123), ?_⟩
          refine ⟨?_, ?_⟩
          ·replace h := h _ X A
           refine Calls.mono h ?_
           clear h
           rintro e54 w125 ⟨b51, s39, x56, he_, ha_w125, h⟩
           refine ⟨b51, s39, x56, he_, ?_⟩
           clear he_
           obtain ⟨B1, B2, B3, B65, B76⟩ := ah5 ha_w125 B1 B2 B3 B65 B76
           obtain ⟨A, X, Y_⟩ := axa3 ha_w125 A X Y_
           replace X : Ext w125 w125 := Ext.refl _
           refine newC_t fun bk77 u180 hb77 ha_u180 _ B77 => ?_
           have g77 := le_eq A.size hb77
           have l1_77 := lt5 hb77 B1 B2 B3 B65 B76
           have y77 := le_eq Y_ hb77
           obtain ⟨B1, B2, B3, B65, B76⟩ := ah5 ha_u180 B1 B2 B3 B65 B76
           obtain ⟨A, X, Y_⟩ := axa3 ha_u180 A X Y_
           refine bb3 ha_u180 ?_
           refine st3_t B65 rfl rfl rfl rfl fun u181 k_u181 B65 => ?_
           obtain ⟨B1, B2, B3, B76, B77⟩ := up5 k_u181 B1 B2 B3 B76 B77 (by omega)
           obtain ⟨A, X, Y_⟩ := axu3 k_u181 g65 A X Y_
           refine st3_t B76 rfl rfl rfl rfl fun u182 k_u182 B76 => ?_
           obtain ⟨B1, B2, B3, B65, B77⟩ := up5 k_u182 B1 B2 B3 B65 B77 (by omega)
           obtain ⟨A, X, Y_⟩ := axu3 k_u182 g76 A X Y_
           refine st3_t B77 rfl rfl rfl rfl fun u183 k_u183 B77 => ?_
           obtain ⟨B1, B2, B3, B65, B76⟩ := up5 k_u183 B1 B2 B3 B65 B76 (by omega)
           obtain ⟨A, X, Y_⟩ := axu3 k_u183 g77 A X Y_
           replace h := h _ X A
           exact ⟨bk65, bk76, bk77, b1, s1, x1, b50, s38, x55, b51, s39, x56, rfl, B65, g65, rfl, B76, g76, rfl, B77, g77, (by omega), (by omega), (by omega), A, h⟩
          ·refine newC_t fun bk78 u184 hb78 ha_u184 _ B78 => ?_
           have g78 := le_eq A.size hb78
           have l1_78 := lt5 hb78 B1 B2 B3 B65 B76
           have y78 := le_eq Y_ hb78
           obtain ⟨B1, B2, B3, B65, B76⟩ := ah5 ha_u184 B1 B2 B3 B65 B76
           obtain ⟨A, X, Y_⟩ := axa3 ha_u184 A X Y_
           refine bb3 ha_u184 ?_
           replace h := h _ X A
           refine Calls.mono h ?_
           clear h
           rintro e55 w128 ⟨b52, s40, x57, he_, ha_w128, h⟩
           refine ⟨b52, s40, x57, he_, ?_⟩
           clear he_
           obtain ⟨B1, B2, B3, B65, B76, B78⟩ := ah6 ha_w128 B1 B2 B3 B65 B76 B78
           obtain ⟨A, X, Y_⟩ := axa3 ha_w128 A X Y_
           replace X : Ext w128 w128 := Ext.refl _
           refine st3_t B65 rfl rfl rfl rfl fun u185 k_u185 B65 => ?_
           obtain ⟨B1, B2, B3, B76, B78⟩ := up5 k_u185 B1 B2 B3 B76 B78 (by omega)
           obtain ⟨A, X, Y_⟩ := axu3 k_u185 g65 A X Y_
           refine st3_t B76 rfl rfl rfl rfl fun u186 k_u186 B76 => ?_
           obtain ⟨B1, B2, B3, B65, B78⟩ := up5 k_u186 B1 B2 B3 B65 B78 (by omega)
           obtain ⟨A, X, Y_⟩ := axu3 k_u186 g76 A X Y_
           refine st3_t B78 rfl rfl rfl rfl fun u187 k_u187 B78 => ?_
           obtain ⟨B1, B2, B3, B65, B76⟩ := up5 k_u187 B1 B2 B3 B65 B76 (by omega)
           obtain ⟨A, X, Y_⟩ := axu3 k_u187 g78 A X Y_
           replace h := h _ X A
           exact ⟨bk65, bk76, bk78, b1, s1, x1, b50, s38, x55, b52, s40, x57, rfl, B65, g65, rfl, B76, g76, rfl, B78, g78, (by omega), (by omega), (by omega), A, h⟩
         ·refine newC_t fun bk79 u188 hb79 ha_u188 _ B79 => ?_
          have g79 := le_eq A.size hb79
          have l1_79 := lt5 hb79 B1 B2 B3 B65 B76
          have y79 := le_eq Y_ hb79
          obtain ⟨B1, B2, B3, B65, B76⟩ := ah5 ha_u188 B1 B2 B3 B65 B76
          obtain ⟨A, X, Y_⟩ := axa3 ha_u188 A X Y_
          refine bb3 ha_u188 ?_
          replace h := h _ X A
          refine Calls.mono h ?_
          clear h
          rintro e56 w131 ⟨b53, s41, x58, he_, ha_w131, h⟩
          refine ⟨b53, s41, x58, he_, ?_⟩
          clear he_
          obtain ⟨B1, B2, B3, B65, B76, B79⟩ := ah6 ha_w131 B1 B2 B3 B65 B76 B79
          obtain ⟨A, X, Y_⟩ := axa3 ha_w131 A X Y_
          replace X : Ext w131 w131 := Ext.refl _
          refine ⟨(Bar.of_ahead ha_w131), ?_⟩
          replace h := h _ X A
          refine Calls.mono h ?_
          clear h
          rintro e57 w133 ⟨b54, s42, x59, he_, ha_w133, h⟩
          refine ⟨b54, s42, x59, he_, ?_⟩
          clear he_
          obtain ⟨B1, B2, B3, B65, B76, B79⟩ := ah6 ha_w133 B1 B2 B3 B65 B76 B79
          obtain ⟨A, X, Y_⟩ := axa3 ha_w133 A X Y_
          replace X : Ext w133 w133 := Ext.refl _
          refine st3_t B65 rfl rfl rfl rfl fun u189 k_u189 B65 => ?_
          obtain ⟨B1, B2, B3, B76, B79⟩ := up5 k_u189 B1 B2 B3 B76 B79 (by omega)
          obtain ⟨A, X, Y_⟩ := axu3 k_u189 g65 A X Y_
          refine st3_t B76 rfl rfl rfl rfl fun u190 k_u190 B76 => ?_
          obtain ⟨B1, B2, B3, B65, B79⟩ := up5 k_u190 B1 B2 B3 B65 B79 (by omega)
          obtain ⟨A, X, Y_⟩ := axu3 k_u190 g76 A X Y_
          refine st3_t B79 rfl rfl rfl rfl fun u191 k_u191 B79 => ?_
          obtain ⟨B1, B2, B3, B65, B76⟩ := up5 k_u191 B1 B2 B3 B65 B76 (by omega)
          obtain ⟨A, X, Y_⟩ := axu3 k_u191 g79 A X Y_
          replace h := h _ X A
          exact ⟨bk65, bk76, bk79, b1, s1, x1, b53, s41, x58, b54, s42, x59, rfl, B65, g65, rfl, B76, g76, rfl, B79, g79, (by omega), (by omega), (by omega), A, h⟩
        ·refine newC_t fun bk80 u192 hb80 ha_u192 _ B80 => ?_
         have g80 := le_eq A.size hb80
         have l1_80 := lt4 hb80 B1 B2 B3 B65
         have y80 := le_eq Y_ hb80
         obtain ⟨B1, B2, B3, B65⟩ := ah4 ha_u192 B1 B2 B3 B65
         obtain ⟨A, X, Y_⟩ := axa3 ha_u192 A X Y_
         refine bb3 ha_u192 ?_
         refine ⟨?_, ?_⟩
         ·replace h := h _ X A
          refine Calls.mono h ?_
          clear h
          rintro e58 w136 ⟨b55, s43, x60, he_, ha_w136, h⟩
          refine ⟨b55, s43, x60, he_, ?_⟩
          clear he_
          obtain ⟨B1, B2, B3, B65, B80⟩ := ah5 ha_w136 B1 B2 B3 B65 B80
          obtain ⟨A, X, Y_⟩ := axa3 ha_w136 A X Y_
          replace X : Ext w136 w136 := Ext.refl _
          refine ⟨(Bar.of_ahead ha_w136), ?_⟩
          refine ⟨?_, ?_⟩
          ·replace h := h _ X A
           refine Calls.mono h ?_
           clear h
           rintro e59 w138 ⟨b56, s44, x61, he_, ha_w138, h⟩
           refine ⟨b56, s44, x61, he_, ?_⟩
           clear he_
           obtain ⟨B1, B2, B3, B65, B80⟩ := ah5 ha_w138 B1 B2 B3 B65 B80
           obtain ⟨A, X, Y_⟩ := axa3 ha_w138 A X Y_
           replace X : Ext w138 w138 := Ext.refl _
           refine newC_t fun bk81 u193 hb81 ha_u193 _ B81 => ?_
           have g81 := le_eq A.size hb81
           have l1_81 := lt5 hb81 B1 B2 B3 B65 B80
           have y81 := le_eq Y_ hb81
           obtain ⟨B1, B2, B3, B65, B80⟩ := ah5 ha_u193 B1 B2 B3 B65 B80
           obtain ⟨A, X, Y_⟩ := axa3 ha_u193 A X Y_
           refine bb3 ha_u193 ?_
           refine st3_t B65 rfl rfl rfl rfl fun u194 k_u194 B65 => ?_
           obtain ⟨B1, B2, B3, B80, B81⟩ := up5 k_u194 B1 B2 B3 B80 B81 (by omega)
           obtain ⟨A, X, Y_⟩ := axu3 k_u194 g65 A X Y_
           refine st3_t B81 rfl rfl rfl rfl fun u195 k_u195 B81 => ?_
           obtain ⟨B1, B2, B3, B65, B80⟩ := up5 k_u195 B1 B2 B3 B65 B80 (by omega)
           obtain ⟨A, X, Y_⟩ := axu3 k_u195 g81 A X Y_
           refine st3_t B80 rfl rfl rfl rfl fun u196 k_u196 B80 => ?_
           obtain ⟨B1, B2, B3, B65, B81⟩ := up5 k_u196 B1 B2 B3 B65 B81 (by omega)
           obtain ⟨A, X, Y_⟩ := axu3 k_u196 g80 A X Y_
           replace h := h _ X A
           exact ⟨bk65, bk81, bk80, b1, s1, x1, b55, s43, x60, b56, s44, x61, rfl, B65, g65, rfl, B81, g81, rfl, B80, g80, (by omega), (by omega), (by omega), A, h⟩
          ·refine newC_t fun bk82 u197 hb82 ha_u197 _ B82 => ?_
           have g82 := le_eq A.size hb82
           have l1_82 := lt5 hb82 B1 B2 B3 B65 B80
           have y82 := le_eq Y_ hb82
           obtain ⟨B1, B2, B3, B65, B80⟩ := ah5 ha_u197 B1 B2 B3 B65 B80
           obtain ⟨A, X, Y_⟩ := axa3 ha_u197 A X Y_
           refine bb3 ha_u197 ?_
           replace h := h _ X A
           refine Calls.mono h ?_
           clear h
           rintro e60 w141 ⟨b57, s45, x62, he_, ha_w141, h⟩
           refine ⟨b57, s45, x62, he_, ?_⟩
           clear he_
           obtain ⟨B1, B2, B3, B65, B80, B82⟩ := ah6 ha_w141 B1 B2 B3 B65 B80 B82
           obtain ⟨A, X, Y_⟩ := axa3 ha_w141 A X Y_
           replace X : Ext w141 w141 := Ext.refl _
           refine st3_t B65 rfl rfl rfl rfl fun u198 k_u198 B65 => ?_
           obtain ⟨B1, B2, B3, B80, B82⟩ := up5 k_u198 B1 B2 B3 B80 B82 (by omega)
           obtain ⟨A, X, Y_⟩ := axu3 k_u198 g65 A X Y_
           refine st3_t B82 rfl rfl rfl rfl fun u199 k_u199 B82 => ?_
           obtain ⟨B1, B2, B3, B65, B80⟩ := up5 k_u199 B1 B2 B3 B65 B80 (by omega)
           obtain ⟨A, X, Y_⟩ := axu3 k_u199 g82 A X Y_
           refine st3_t B80 rfl rfl rfl rfl fun u200 k_u200 B80 => ?_
           obtain ⟨B1, B2, B3, B65, B82⟩ := up5 k_u200 B1 B2 B3 B65 B82 (by omega)
           obtain ⟨A, X, Y_⟩ := axu3 k_u200 g80 A X Y_
           replace h := h _ X A
           exact ⟨bk65, bk82, bk80, b1, s1, x1, b55, s43, x60, b57, s45, x62, rfl, B65, g65, rfl, B82, g82, rfl, B80, g80, (by omega), (by omega), (by omega), A, h⟩
         ·refine newC_t fun bk83 u201 hb83 ha_u201 _ B83 => ?_
          have g83 := le_eq A.size hb83
          have l1_83 := lt5 hb83 B1 B2 B3 B65 B80
          have y83 := le_eq Y_ hb83
          obtain ⟨B1, B2, B3, B65, B80⟩ := ah5 ha_u201 B1 B2 B3 B65 B80
          obtain ⟨A, X, Y_⟩ := axa3 ha_u201 A X Y_
          refine bb3 ha_u201 ?_
          replace h := h _ X A
          refine Calls.mono h ?_
          clear h
          rintro e61 w144 ⟨b58, s46, x63, he_, ha_w144, h⟩
          refine ⟨b58, s46, x63, he_, ?_⟩
          clear he_
          obtain ⟨B1, B2, B3, B65, B80, B83⟩ := ah6 ha_w144 B1 B2 B3 B65 B80 B83
          obtain ⟨A, X, Y_⟩ := axa3 ha_w144 A X Y_
          replace X : Ext w144 w144 := Ext.refl _
          refine ⟨(Bar.of_ahead ha_w144), ?_⟩
          replace h := h _ X A
          refine Calls.mono h ?_
          clear h
          rintro e62 w146 ⟨b59, s47, x64, he_, ha_w146, h⟩
          refine ⟨b59, s47, x64, he_, ?_⟩
          clear he_
          obtain ⟨B1, B2, B3, B65, B80, B83⟩ := ah6 ha_w146 B1 B2 B3 B65 B80 B83
          obtain ⟨A, X, Y_⟩ := axa3 ha_w146 A X Y_
          replace X : Ext w146 w146 := Ext.refl _
          refine st3_t B65 rfl rfl rfl rfl fun u202 k_u202 B65 => ?_
          obtain ⟨B1, B2, B3, B80, B83⟩ := up5 k_u202 B1 B2 B3 B80 B83 (by omega)
          obtain ⟨A, X, Y_⟩ := axu3 k_u202 g65 A X Y_
          refine st3_t B83 rfl rfl rfl rfl fun u203 k_u203 B83 => ?_
          obtain ⟨B1, B2, B3, B65, B80⟩ := up5 k_u203 B1 B2 B3 B65 B80 (by omega)
          obtain ⟨A, X, Y_⟩ := axu3 k_u203 g83 A X Y_
          refine st3_t B80 rfl rfl rfl rfl fun u204 k_u204 B80 => ?_
          obtain ⟨B1, B2, B3, B65, B83⟩ := up5 k_u204 B1 B2 B3 B65 B83 (by omega)
          obtain ⟨A, X, Y_⟩ := axu3 k_u204 g80 A X Y_
          replace h := h _ X A
          exact ⟨bk65, bk83, bk80, b1, s1, x1, b58, s46, x63, b59, s47, x64, rfl, B65, g65, rfl, B83, g83, rfl, B80, g80, (by omega), (by omega), (by omega), A, h⟩
      ·refine ⟨?_, ?_⟩
       ·refine newC_t fun bk84 u205 hb84 ha_u205 _ B84 => ?_
        have g84 := le_eq A.size hb84
        have l1_84 := lt3 hb84 B1 B2 B3
        have y84 := le_eq Y_ hb84
        obtain ⟨B1, B2, B3⟩ := ah3 ha_u205 B1 B2 B3
        obtain ⟨A, X, Y_⟩ := axa3 ha_u205 A X Y_
        refine bb3 ha_u205 ?_
        refine ⟨?_, ?_⟩
        ·replace h := h _ X A
         refine Calls.mono h ?_
         clear h
         rintro e63 w149 ⟨b60, s48, x65, he_, ha_w149, h⟩
         refine ⟨b60, s48, x65, he_, ?_⟩
         clear he_
         obtain ⟨B1, B2, B3, B84⟩ := ah4 ha_w149 B1 B2 B3 B84
         obtain ⟨A, X, Y_⟩ := axa3 ha_w149 A X Y_
         replace X : Ext w149 w149 := Ext.refl _
         refine ⟨(Bar.of_ahead ha_w149), ?_⟩
         refine ⟨?_, ?_⟩
         ·replace h := h _ X A
          refine Calls.mono h ?_
          clear h
          rintro e64 w151 ⟨b61, s49, x66, he_, ha_w151, h⟩
          refine ⟨b61, s49, x66, he_, ?_⟩
          clear he_
          obtain ⟨B1, B2, B3, B84⟩ := ah4 ha_w151 B1 B2 B3 B84
          obtain ⟨A, X, Y_⟩ := axa3 ha_w151 A X Y_
          replace X : Ext w151 w151 := Ext.refl _
          refine ⟨?_, ?_⟩
          ·refine newC_t fun bk85 u206 hb85 ha_u206 _ B85 => ?_
           have g85 := le_eq A.size hb85
           have l1_85 := lt4 hb85 B1 B2 B3 B84
           have y85 := le_eq Y_ hb85
           obtain ⟨B1, B2, B3, B84⟩ := ah4 ha_u206 B1 B2 B3 B84
           obtain ⟨A, X, Y_⟩ := axa3 ha_u206 A X Y_
           refine bb3 ha_u206 ?_
           refine newC_t fun bk86 u207 hb86 ha_u207 _ B86 => ?_
           have g86 := le_eq A.size hb86
           have l1_86 := lt5 hb86 B1 B2 B3 B84 B85
           have y86 := le_eq Y_ hb86
           obtain ⟨B1, B2, B3, B84, B85⟩ := ah5 ha_u207 B1 B2 B3 B84 B85
           obtain ⟨A, X, Y_⟩ := axa3 ha_u207 A X Y_
           refine bb3 ha_u207 ?_
           refine st3_t B85 rfl rfl rfl rfl fun u208 k_u208 B85 => ?_
           obtain ⟨B1, B2, B3, B84, B86⟩ := up5 k_u208 B1 B2 B3 B84 B86 (by omega)
           obtain ⟨A, X, Y_⟩ := axu3 k_u208 g85 A X Y_
           refine st3_t B84 rfl rfl rfl rfl fun u209 k_u209 B84 => ?_
           obtain ⟨B1, B2, B3, B85, B86⟩ := up5 k_u209 B1 B2 B3 B85 B86 (by omega)
           obtain ⟨A, X, Y_⟩ := axu3 k_u209 g84 A X Y_
           refine st3_t B86 rfl rfl rfl rfl fun u210 k_u210 B86 => ?_
           obtain ⟨B1, B2, B3, B84, B85⟩ := up5 k_u210 B1 B2 B3 B84 B85 (by omega)
           obtain ⟨A, X, Y_⟩ := axu3 k_u210 g86 A X Y_
           replace h := h _ X A
           exact ⟨bk85, bk84, bk86, b1, s1, x1, b60, s48, x65, b61, s49, x66, rfl, B85, g85, rfl, B84, g84, rfl, B86, g86, (by omega), (by omega), (by omega), A, h⟩
          ·refine newC_t fun bk87 u211 hb87 ha_u211 _ B87 => ?_
           have g87 := le_eq A.size hb87
           have l1_87 := lt4 hb87 B1 B2 B3 B84
           have y87 := le_eq Y_ hb87
           obtain ⟨B1, B2, B3, B84⟩ := ah4 ha_u211 B1 B2 B3 B84
           obtain ⟨A, X, Y_⟩ := axa3 ha_u211 A X Y_
           refine bb3 ha_u211 ?_
           refine newC_t fun bk88 u212 hb88 ha_u212 _ B88 => ?_
           have g88 := le_eq A.size hb88
           have l1_88 := lt5 hb88 B1 B2 B3 B84 B87
           have y88 := le_eq Y_ hb88
           obtain ⟨B1, B2, B3, B84, B87⟩ := ah5 ha_u212 B1 B2 B3 B84 B87
           obtain ⟨A, X, Y_⟩ := axa3 ha_u212 A X Y_
           refine bb3 ha_u212 ?_
           refine st3_t B88 rfl rfl rfl rfl fun u213 k_u213 B88 => ?_
           obtain ⟨B1, B2, B3, B84, B87⟩ := up5 k_u213 B1 B2 B3 B84 B87 (by omega)
           obtain ⟨A, X, Y_⟩ := axu3 k_u213 g88 A X Y_
           refine st3_t B84 rfl rfl rfl rfl fun u214 k_u214 B84 => ?_
           obtain ⟨B1, B2, B3, B87, B88⟩ := up5 k_u214 B1 B2 B3 B87 B88 (by omega)
           obtain ⟨A, X, Y_⟩ := axu3 k_u214 g84 A X Y_
           refine st3_t B87 rfl rfl rfl rfl fun u215 k_u215 B87 => ?_
           obtain ⟨B1, B2, B3, B84, B88⟩ := up5 k_u215 B1 B2 B3 B84 B88 (by omega)
           obtain ⟨A, X, Y_⟩ := axu3 k_u215 g87 A X Y_
           replace h := h _ X A
           exact ⟨bk88, bk84, bk87, b1, s1, x1, b60, s48, x65, b61, s49, x66, rfl, B88, g88, rfl, B84, g84, rfl, B87, g87, (by omega), (by omega), (by omega), A, h⟩
         ·refine ⟨?_, ?_⟩
          ·refine newC_t fun bk89 u216 hb89 ha_u216 _ B89 => ?_
           have g89 := le_eq A.size hb89
           have l1_89 := lt4 hb89 B1 B2 B3 B84
           have y89 := le_eq Y_ hb89
           obtain ⟨B1, B2, B3, B84⟩ := ah4 ha_u216 B1 B2 B3 B84
           obtain ⟨A, X, Y_⟩ := axa3 ha_u216 A X Y_
           refine bb3 ha_u216 ?_
           refine ⟨?_, ?_⟩
           ·replace h := h _ X A
            refine Calls.mono h ?_
            clear h
            rintro e65 w155 ⟨b62, s50, x67, he_, ha_w155, h⟩
            refine ⟨b62, s50, x67, he_, ?_⟩
            clear he_
            obtain ⟨B1, B2, B3, B84, B89⟩ := ah5 ha_w155 B1 B2 B3 B84 B89
            obtain ⟨A, X, Y_⟩ := axa3 ha_w155 A X Y_
            replace X : Ext w155 w155 := Ext.refl _
            refine newC_t fun bk90 u217 hb90 ha_u217 _ B90 => ?_
            have g90 := le_eq A.size hb90
            have l1_90 := lt5 hb90 B1 B2 B3 B84 B89
            have y90 := le_eq Y_ hb90
            obtain ⟨B1, B2, B3, B84, B89⟩ := ah5 ha_u217 B1 B2 B3 B84 B89
            obtain ⟨A, X, Y_⟩ := axa3 ha_u217 A X Y_
            refine bb3 ha_u217 ?_
            refine st3_t B89 rfl rfl rfl rfl fun u218 k_u218 B89 => ?_
            obtain ⟨B1, B2, B3, B84, B90⟩ := up5 k_u218 B1 B2 B3 B84 B90 (by omega)
            obtain ⟨A, X, Y_⟩ := axu3 k_u218 g89 A X Y_
            refine st3_t B84 rfl rfl rfl rfl fun u219 k_u219 B84 => ?_
            obtain ⟨B1, B2, B3, B89, B90⟩ := up5 k_u219 B1 B2 B3 B89 B90 (by omega)
            obtain ⟨A, X, Y_⟩ := axu3 k_u219 g84 A X Y_
            refine st3_t B90 rfl rfl rfl rfl fun u220 k_u220 B90 => ?_
            obtain ⟨B1, B2, B3, B84, B89⟩ := up5 k_u220 B1 B2 B3 B84 B89 (by omega)
            obtain ⟨A, X, Y_⟩ := axu3 k_u220 g90 A X Y_
            replace h := h _ X A
            exact ⟨bk89, bk84, bk90, b1, s1, x1, b60, s48, x65, b62, s50, x67, rfl, B89, g89, rfl, B84, g84, rfl, B90, g90, (by omega), (by omega), (by omega), A, h⟩
           ·refine newC_t fun bk91 u221 hb91 ha_u221 _ B91 => ?_
            have g91 := le_eq A.size hb91
            have l1_91 := lt5 hb91 B1 B2 B3 B84 B89
            have y91 := le_eq Y_ hb91
            obtain ⟨B1, B2, B3, B84, B89⟩ := ah5 ha_u221 B1 B2 B3 B84 B89
            obtain ⟨A, X, Y_⟩ := axa3 ha_u221 A X Y_
            refine bb3 ha_u221 ?_
            replace h := h _ X A
            refine Calls.mono h ?_
            clear h
            rintro e66 w158 ⟨b63, s51, x68, he_, ha_w158, h⟩
            refine ⟨b63, s51, x68, he_, ?_⟩
            clear he_
            obtain ⟨B1, B2, B3, B84, B89, B91⟩ := ah6 ha_w158 B1 B2 B3 B84 B89 B91
            obtain ⟨A, X, Y_⟩ := axa3 ha_w158 A X Y_
            replace X : Ext w158 w158 := Ext.refl _
            refine st3_t B89 rfl rfl rfl rfl fun u222 k_u222 B89 => ?_
            obtain ⟨B1, B2, B3, B84, B91⟩ := up5 k_u222 B1 B2 B3 B84 B91 (by omega)
            obtain ⟨A, X, Y_⟩ := axu3 k_u222 g89 A X Y_
            refine st3_t B84 rfl rfl rfl rfl fun u223 k_u223 B84 => ?_
            obtain ⟨B1, B2, B3, B89, B91⟩ := up5 k_u223 B1 B2 B3 B89 B91 (by omega)
            obtain ⟨A, X, Y_⟩ := axu3 k_u223 g84 A X Y_
            refine st3_t B91 rfl rfl rfl rfl fun u224 k_u224 B91 => ?_
            obtain ⟨B1, B2, B3, B84, B89⟩ := up5 k_u224 B1 B2 B3 B84 B89 (by omega)
            obtain ⟨A, X, Y_⟩ := axu3 k_u224 g91 A X Y_
            replace h := h _ X A
            exact ⟨bk89, bk84, bk91, b1, s1, x1, b60, s48, x65, b63, s51, x68, rfl, B89, g89, rfl, B84, g84, rfl, B91, g91, (by omega), (by omega), (by omega), A, h⟩
          ·refine newC_t fun bk92 u225 hb92 ha_u225 _ B92 => ?_
           have g92 := le_eq A.size hb92
           have l1_92 := lt4 hb92 B1 B2 B3 B84
           have y92 := le_eq Y_ hb92
           obtain ⟨B1, B2, B3, B84⟩ := ah4 ha_u225 B1 B2 B3 B84
           obtain ⟨A, X, Y_⟩ := axa3 ha_u225 A X Y_
           refine bb3 ha_u225 ?_
           refine ⟨?_, ?_⟩
           ·replace h := h _ X A
            refine Calls.mono h ?_
            clear h
            rintro e67 w161 ⟨b64, s52, x69, he_, ha_w161, h⟩
            refine ⟨b64, s52, x69, he_, ?_⟩
            clear he_
            obtain ⟨B1, B2, B3, B84, B92⟩ := ah5 ha_w161 B1 B2 B3 B84 B92
            obtain ⟨A, X, Y_⟩ := axa3 ha_w161 A X Y_
            replace X : Ext w161 w161 := Ext.refl _
            refine newC_t fun bk93 u226 hb93 ha_u226 _ B93 => ?_
            have g93 := le_eq A.size hb93
            have l1_93 := lt5 hb93 B1 B2 B3 B84 B92
            have y93 := le_eq Y_ hb93
            obtain ⟨B1, B2, B3, B84, B92⟩ := ah5 ha_u226 B1 B2 B3 B84 B92
            obtain ⟨A, X, Y_⟩ := axa3 ha_u226 A X Y_
            refine bb3 ha_u226 ?_
            refine st3_t B93 rfl rfl rfl rfl fun u227 k_u227 B93 => ?_
            obtain ⟨B1, B2, B3, B84, B92⟩ := up5 k_u227 B1 B2 B3 B84 B92 (by omega)
            obtain ⟨A, X, Y_⟩ := axu3 k_u227 g93 A X Y_
            refine st3_t B84 rfl rfl rfl rfl fun u228 k_u228 B84 => ?_
            obtain ⟨B1, B2, B3, B92, B93⟩ := up5 k_u228 B1 B2 B3 B92 B93 (by omega)
            obtain ⟨A, X, Y_⟩ := axu3 k_u228 g84 A X Y_
            refine st3_t B92 rfl rfl rfl rfl fun u229 k_u229 B92 => ?_
            obtain ⟨B1, B2, B3, B84, B93⟩ := up5 k_u229 B1 B2 B3 B84 B93 (by omega)
            obtain ⟨A, X, Y_⟩ := axu3 k_u229 g92 A X Y_
            replace h := h _ X A
            exact ⟨bk93, bk84, bk92, b1, s1, x1, b60, s48, x65, b64, s52, x69, rfl, B93, g93, rfl, B84, g84, rfl, B92, g92, (by omega), (by omega), (by omega), A, h⟩
           ·refine newC_t fun bk94 u230 hb94 ha_u230 _ B94 => ?_
            have g94 := le_eq A.size hb94
            have l1_94 := lt5 hb94 B1 B2 B3 B84 B92
            have y94 := le_eq Y_ hb94
            obtain ⟨B1, B2, B3, B84, B92⟩ := ah5 ha_u230 B1 B2 B3 B84 B92
            obtain ⟨A, X, Y_⟩ := axa3 ha_u230 A X Y_
            refine bb3 ha_u230 ?_
            replace h := h _ X A
            refine Calls.mono h ?_
            clear h
            rintro e68 w164 ⟨b65, s53, x70, he_, ha_w164, h⟩
            refine ⟨b65, s53, x70, he_, ?_⟩
            clear he_
            obtain ⟨B1, B2, B3, B84, B92, B94⟩ := ah6 ha_w164 B1 B2 B3 B84 B92 B94
            obtain ⟨A, X, Y_⟩ := axa3 ha_w164 A X Y_
            replace X : Ext w164 w164 := Ext.refl _
            refine st3_t B94 rfl rfl rfl rfl fun u231 k_u231 B94 => ?_
            obtain ⟨B1, B2, B3, B84, B92⟩ := up5 k_u231 B1 B2 B3 B84 B92 (by omega)
            obtain ⟨A, X, Y_⟩ := axu3 k_u231 g94 A X Y_
            refine st3_t B84 rfl rfl rfl rfl fun u232 k_u232 B84 => ?_
            obtain ⟨B1, B2, B3, B92, B94⟩ := up5 k_u232 B1 B2 B3 B92 B94 (by omega)
            obtain ⟨A, X, Y_⟩ := axu3 k_u232 g84 A X Y_
            refine st3_t B92 rfl rfl rfl rfl fun u233 k_u233 B92 => ?_
            obtain ⟨B1, B2, B3, B84, B94⟩ := up5 k_u233 B1 B2 B3 B84 B94 (by omega)
            obtain ⟨A, X, Y_⟩ := axu3 k_u233 g92 A X Y_
            replace h := h _ X A
            exact ⟨bk94, bk84, bk92, b1, s1, x1, b60, s48, x65, b65, s53, x70, rfl, B94, g94, rfl, B84, g84, rfl, B92, g92, (by omega), (by omega), (by omega), A, h⟩
        ·refine ⟨?_, ?_⟩
         ·refine newC_t fun bk95 u234 hb95 ha_u234 _ B95 => ?_
          have g95 := le_eq A.size hb95
          have l1_95 := lt4 hb95 B1 B2 B3 B84
          have y95 := le_eq Y_ hb95
          obtain ⟨B1, B2, B3, B84⟩ := ah4 ha_u234 B1 B2 B3 B84
          obtain ⟨A, X, Y_⟩ := axa3 ha_u234 A X Y_
          refine bb3 ha_u234 ?_
          refine ⟨?_, ?_⟩
          ·replace h := h _ X A
           refine Calls.mono h ?_
           clear h
           rintro e69 w167 ⟨b66, s54, x71, he_, ha_w167, h⟩
           refine ⟨b66, s54, x71, he_, ?_⟩
           clear he_
           obtain ⟨B1, B2, B3, B84, B95⟩ := ah5 ha_w167 B1 B2 B3 B84 B95
           obtain ⟨A, X, Y_⟩ := axa3 ha_w167 A X Y_
           replace X : Ext w167 w167 := Ext.refl _
           refine ⟨(Bar.of_ahead ha_w167), ?_⟩
           refine ⟨?_, ?_⟩
           ·replace h := h _ X A
            refine Calls.mono h ?_
            clear h
            rintro e70 w169 ⟨b67, s55, x72, he_, ha_w169, h⟩
            refine ⟨b67, s55, x72, he_, ?_⟩
            clear he_
            obtain ⟨B1, B2, B3, B84, B95⟩ := ah5 ha_w169 B1 B2 B3 B84 B95
            obtain ⟨A, X, Y_⟩ := axa3 ha_w169 A X Y_
            replace X : Ext w169 w169 := Ext.refl _
            refine newC_t fun bk96 u235 hb96 ha_u235 _ B96 => ?_
            have g96 := le_eq A.size hb96
            have l1_96 := lt5 hb96 B1 B2 B3 B84 B95
            have y96 := le_eq Y_ hb96
            obtain ⟨B1, B2, B3, B84, B95⟩ := ah5 ha_u235 B1 B2 B3 B84 B95
            obtain ⟨A, X, Y_⟩ := axa3 ha_u235 A X Y_
            refine bb3 ha_u235 ?_
            refine st3_t B95 rfl rfl rfl rfl fun u236 k_u236 B95 => ?_
            obtain ⟨B1, B2, B3, B84, B96⟩ := up5 k_u236 B1 B2 B3 B84 B96 (by omega)
            obtain ⟨A, X, Y_⟩ := axu3 k_u236 g95 A X Y_
            refine st3_t B84 rfl rfl rfl rfl fun u237 k_u237 B84 => ?_
            obtain ⟨B1, B2, B3, B95, B96⟩ := up5 k_u237 B1 B2 B3 B95 B96 (by omega)
            obtain ⟨A, X, Y_⟩ := axu3 k_u237 g84 A X Y_
            refine st3_t B96 rfl rfl rfl rfl fun u238 k_u238 B96 => ?_
            obtain ⟨B1, B2, B3, B84, B95⟩ := up5 k_u238 B1 B2 B3 B84 B95 (by omega)
            obtain ⟨A, X, Y_⟩ := axu3 k_u238 g96 A X Y_
            replace h := h _ X A
            exact ⟨bk95, bk84, bk96, b1, s1, x1, b66, s54, x71, b67, s55, x72, rfl, B95, g95, rfl, B84, g84, rfl, B96, g96, (by omega), (by omega), (by omega), A, h⟩
           ·refine newC_t fun bk97 u239 hb97 ha_u239 _ B97 => ?_
            have g97 := le_eq A.size hb97
            have l1_97 := lt5 hb97 B1 B2 B3 B84 B95
            have y97 := le_eq Y_ hb97
            obtain ⟨B1, B2, B3, B84, B95⟩ := ah5 ha_u239 B1 B2 B3 B84 B95
            obtain ⟨A, X, Y_⟩ := axa3 ha_u239 A X Y_
            refine bb3 ha_u239 ?_
            replace h := h _ X A
            refine Calls.mono h ?_
            clear h
            rintro e71 w172 ⟨b68, s56, x73, he_, ha_w172, h⟩
            refine ⟨b68, s56, x73, he_, ?_⟩
            clear he_
            obtain ⟨B1, B2, B3, B84, B95, B97⟩ := ah6 ha_w172 B1 B2 B3 B84 B95 B97
            obtain ⟨A, X, Y_⟩ := axa3 ha_w172 A X Y_
            replace X : Ext w172 w172 := Ext.refl _
            refine st3_t B95 rfl rfl rfl rfl fun u240 k_u240 B95 => ?_
            obtain ⟨B1, B2, B3, B84, B97⟩ := up5 k_u240 B1 B2 B3 B84 B97 (by omega)
            obtain ⟨A, X, Y_⟩ := axu3 k_u240 g95 A X Y_
            refine st3_t B84 rfl rfl rfl rfl fun u241 k_u241 B84 => ?_
            obtain ⟨B1, B2, B3, B95, B97⟩ := up5 k_u241 B1 B2 B3 B95 B97 (by omega)
            obtain ⟨A, X, Y_⟩ := axu3 k_u241 g84 A X Y_
            refine st3_t B97 rfl rfl rfl rfl fun u242 k_u242 B97 => ?_
            obtain ⟨B1, B2, B3, B84, B95⟩ := up5 k_u242 B1 B2 B3 B84 B95 (by omega)
            obtain ⟨A, X, Y_⟩ := axu3 k_u242 g97 A X Y_
            replace h := h _ X A
            exact ⟨bk95, bk84, bk97, b1, s1, x1, b66, s54, x71, b68, s56, x73, rfl, B95, g95, rfl, B84, g84, rfl, B97, g97, (by omega), (by omega), (by omega), A, h⟩
          ·refine newC_t fun bk98 u243 hb98 ha_u243 _ B98 => ?_
           have g98 := le_eq A.size hb98
           have l1_98 := lt5 hb98 B1 B2 B3 B84 B95
           have y98 := le_eq Y_ hb98
           obtain ⟨B1, B2, B3, B84, B95⟩ := ah5 ha_u243 B1 B2 B3 B84 B95
           obtain ⟨A, X, Y_⟩ := axa3 ha_u243 A X Y_
           refine bb3 ha_u243 ?_
           replace h := h _ X A
           refine Calls.mono h ?_
           clear h
           rintro e72 w175 ⟨b69, s57, x74, he_, ha_w175, h⟩
           refine ⟨b69, s57, x74, he_, ?_⟩
           clear he_
           obtain ⟨B1, B2, B3, B84, B95, B98⟩ := ah6 ha_w175 B1 B2 B3 B84 B95 B98
           obtain ⟨A, X, Y_⟩ := axa3 ha_w175 A X Y_
           replace X : Ext w175 w175 := Ext.refl _
           refine ⟨(Bar.of_ahead ha_w175), ?_⟩
           replace h := h _ X A
           refine Calls.mono h ?_
           clear h
           rintro e73 w177 ⟨b70, s58, x75, he_, ha_w177, h⟩
           refine ⟨b70, s58, x75, he_, ?_⟩
           clear he_
           obtain ⟨B1, B2, B3, B84, B95, B98⟩ := ah6 ha_w177 B1 B2 B3 B84 B95 B98
           obtain ⟨A, X, Y_⟩ := axa3 ha_w177 A X Y_
           replace X : Ext w177 w177 := Ext.refl _
           refine st3_t B95 rfl rfl rfl rfl fun u244 k_u244 B95 => ?_
           obtain ⟨B1, B2, B3, B84, B98⟩ := up5 k_u244 B1 B2 B3 B84 B98 (by omega)
           obtain ⟨A, X, Y_⟩ := axu3 k_u244 g95 A X Y_
           refine st3_t B84 rfl rfl rfl rfl fun u245 k_u245 B84 => ?_
           obtain ⟨B1, B2, B3, B95, B98⟩ := up5 k_u245 B1 B2 B3 B95 B98 (by omega)
           obtain ⟨A, X, Y_⟩ := axu3 k_u245 g84 A X Y_
           refine st3_t B98 rfl rfl rfl rfl fun u246 k_u246 B98 => ?_
           obtain ⟨B1, B2, B3, B84, B95⟩ := up5 k_u246 B1 B2 B3 B84 B95 (by omega)
           obtain ⟨A, X, Y_⟩ := axu3 k_u246 g98 A X Y_
           replace h := h _ X A
           exact ⟨bk95, bk84, bk98, b1, s1, x1, b69, s57, x74, b70, s58, x75, rfl, B95, g95, rfl, B84, g84, rfl, B98, g98, (by omega), (by omega), (by omega), A, h⟩
         ·refine newC_t fun bk99 u247 hb99 ha_u247 _ B99 => ?_
          have g99 := le_eq A.size hb99
          have l1_99 := lt4 hb99 B1 B2 B3 B84
          have y99 := le_eq Y_ hb99
          obtain ⟨B1, B2, B3, B84⟩ := ah4 ha_u247 B1 B2 B3 B84
          obtain ⟨A, X, Y_⟩ := axa3 ha_u247 A X Y_
          refine bb3 ha_u247 ?_
          refine ⟨?_, ?_⟩
          ·replace h := h _ X A
           refine Calls.mono h ?_
           clear h
           rintro e74 w180 ⟨b71, s59, x76, he_, ha_w180, h⟩
           refine ⟨b71, s59, x76, he_, ?_⟩
           clear he_
           obtain ⟨B1, B2, B3, B84, B99⟩ := ah5 ha_w180 B1 B2 B3 B84 B99
           obtain ⟨A, X, Y_⟩ := axa3 ha_w180 A X Y_
           replace X : Ext w180 w180 := Ext.refl _
           refine ⟨(Bar.of_ahead ha_w180), ?_⟩
           refine ⟨?_, ?_⟩
           ·replace h := h _ X A
            refine Calls.mono h ?_
            clear h
            rintro e75 w182 ⟨b72, s60, x77, he_, ha_w182, h⟩
            refine ⟨b72, s60, x77, he_, ?_⟩
            clear he_
            obtain ⟨B1, B2, B3, B84, B99⟩ := ah5 ha_w182 B1 B2 B3 B84 B99
            obtain ⟨A, X, Y_⟩ := axa3 ha_w182 A X Y_
            replace X : Ext w182 w182 := Ext.refl _
            refine newC_t fun bk100 u248 hb100 ha_u248 _ B100 => ?_
            have g100 := le_eq A.size hb100
            have l1_100 := lt5 hb100 B1 B2 B3 B84 B99
            have y100 := le_eq Y_ hb100
            obtain ⟨B1, B2, B3, B84, B99⟩ := ah5 ha_u248 B1 B2 B3 B84 B99
            obtain ⟨A, X, Y_⟩ := axa3 ha_u248 A X Y_
            refine bb3 ha_u248 ?_
            refine st3_t B100 rfl rfl rfl rfl fun u249 k_u249 B100 => ?_
            obtain ⟨B1, B2, B3, B84, B99⟩ := up5 k_u249 B1 B2 B3 B84 B99 (by omega)
            obtain ⟨A, X, Y_⟩ := axu3 k_u249 g100 A X Y_
            refine st3_t B84 rfl rfl rfl rfl fun u250 k_u250 B84 => ?_
            obtain ⟨B1, B2, B3, B99, B100⟩ := up5 k_u250 B1 B2 B3 B99 B100 (by omega)
            obtain ⟨A, X, Y_⟩ := axu3 k_u250 g84 A X Y_
            refine st3_t B99 rfl rfl rfl rfl fun u251 k_u251 B99 => ?_
            obtain ⟨B1, B2, B3, B84, B100⟩ := up5 k_u251 B1 B2 B3 B84 B100 (by omega)
            obtain ⟨A, X, Y_⟩ := axu3 k_u251 g99 A X Y_
            replace h := h _ X A
            exact ⟨bk100, bk84, bk99, b1, s1, x1, b71, s59, x76, b72, s60, x77, rfl, B100, g100, rfl, B84, g84, rfl, B99, g99, (by omega), (by omega), (by omega), A, h⟩
           ·refine newC_t fun bk101 u252 hb101 ha_u252 _ B101 => ?_
            have g101 := le_eq A.size hb101
            have l1_101 := lt5 hb101 B1 B2 B3 B84 B99
            have y101 := le_eq Y_ hb101
            obtain ⟨B1, B2, B3, B84, B99⟩ := ah5 ha_u252 B1 B2 B3 B84 B99
            obtain ⟨A, X, Y_⟩ := axa3 ha_u252 A X Y_
            refine bb3 ha_u252 ?_
            replace h := h _ X A
            refine Calls.mono h ?_
            clear h
            rintro e76 w185 ⟨b73, s61, x78, he_, ha_w185, h⟩
            refine ⟨b73, s61, x78, he_, ?_⟩
            clear he_
            obtain ⟨B1, B2, B3, B84, B99, B101⟩ := ah6 ha_w185 B1 B2 B3 B84 B99 B101
            obtain ⟨A, X, Y_⟩ := axa3 ha_w185 A X Y_
            replace X : Ext w185 w185 := Ext.refl _
            refine st3_t B101 rfl rfl rfl rfl fun u253 k_u253 B101 => ?_
            obtain ⟨B1, B2, B3, B84, B99⟩ := up5 k_u253 B1 B2 B3 B84 B99 (by omega)
            obtain ⟨A, X, Y_⟩ := axu3 k_u253 g101 A X Y_
            refine st3_t B84 rfl rfl rfl rfl fun u254 k_u254 B84 => ?_
            obtain ⟨B1, B2, B3, B99, B101⟩ := up5 k_u254 B1 B2 B3 B99 B101 (by omega)
            obtain ⟨A, X, Y_⟩ := axu3 k_u254 g84 A X Y_
            refine st3_t B99 rfl rfl rfl rfl fun u255 k_u255 B99 => ?_
            obtain ⟨B1, B2, B3, B84, B101⟩ := up5 k_u255 B1 B2 B3 B84 B101 (by omega)
            obtain ⟨A, X, Y_⟩ := axu3 k_u255 g99 A X Y_
            replace h := h _ X A
            exact ⟨bk101, bk84, bk99, b1, s1, x1, b71, s59, x76, b73, s61, x78, rfl, B101, g101, rfl, B84, g84, rfl, B99, g99, (by omega), (by omega), (by omega), A, h⟩
          ·refine newC_t fun bk102 u256 hb102 ha_u256 _ B102 => ?_
           have g102 := le_eq A.size hb102
           have l1_102 := lt5 hb102 B1 B2 B3 B84 B99
           have y102 := le_eq Y_ hb102
           obtain ⟨B1, B2, B3, B84, B99⟩ := ah5 ha_u256 B1 B2 B3 B84 B99
           obtain ⟨A, X, Y_⟩ := axa3 ha_u256 A X Y_
           refine bb3 ha_u256 ?_
           replace h := h _ X A
           refine Calls.mono h ?_
           clear h
           rintro e77 w188 ⟨b74, s62, x79, he_, ha_w188, h⟩
           refine ⟨b74, s62, x79, he_, ?_⟩
           clear he_
           obtain ⟨B1, B2, B3, B84, B99, B102⟩ := ah6 ha_w188 B1 B2 B3 B84 B99 B102
           obtain ⟨A, X, Y_⟩ := axa3 ha_w188 A X Y_
           replace X : Ext w188 w188 := Ext.refl _
           refine ⟨(Bar.of_ahead ha_w188), ?_⟩
           replace h := h _ X A
           refine Calls.mono h ?_
           clear h
           rintro e78 w190 ⟨b75, s63, x80, he_, ha_w190, h⟩
           refine ⟨b75, s63, x80, he_, ?_⟩
           clear he_
           obtain ⟨B1, B2, B3, B84, B99, B102⟩ := ah6 ha_w190 B1 B2 B3 B84 B99 B102
           obtain ⟨A, X, Y_⟩ := axa3 ha_w190 A X Y_
           replace X : Ext w190 w190 := Ext.refl _
           refine st3_t B102 rfl rfl rfl rfl fun u257 k_u257 B102 => ?_
           obtain ⟨B1, B2, B3, B84, B99⟩ := up5 k_u257 B1 B2 B3 B84 B99 (by omega)
           obtain ⟨A, X, Y_⟩ := axu3 k_u257 g102 A X Y_
           refine st3_t B84 rfl rfl rfl rfl fun u258 k_u258 B84 => ?_
           obtain ⟨B1, B2, B3, B99, B102⟩ := up5 k_u258 B1 B2 B3 B99 B102 (by omega)
           obtain ⟨A, X, Y_⟩ := axu3 k_u258 g84 A X Y_
           refine st3_t B99 rfl rfl rfl rfl fun u259 k_u259 B99 => ?_
           obtain ⟨B1, B2, B3, B84, B102⟩ := up5 k_u259 B1 B2 B3 B84 B102 (by omega)
           obtain ⟨A, X, Y_⟩ := axu3 k_u259 g99 A X Y_
           replace h := h _ X A
           exact ⟨bk102, bk84, bk99, b1, s1, x1, b74, s62, x79, b75, s63, x80, rfl, B102, g102, rfl, B84, g84, rfl, B99, g99, (by omega), (by omega), (by omega), A, h⟩
       ·refine newC_t fun bk103 u260 hb103 ha_u260 _ B103 => ?_
        have g103 := le_eq A.size hb103
        have l1_103 := lt3 hb103 B1 B2 B3
        have y103 := le_eq Y_ hb103
        obtain ⟨B1, B2, B3⟩ := ah3 ha_u260 B1 B2 B3
        obtain ⟨A, X, Y_⟩ := axa3 ha_u260 A X Y_
        refine bb3 ha_u260 ?_
        refine ⟨?_, ?_⟩
        ·replace h := h _ X A
         refine Calls.mono h ?_
         clear h
         rintro e79 w193 ⟨b76, s64, x81, he_, ha_w193, h⟩
         refine ⟨b76, s64, x81, he_, ?_⟩
         clear he_
         obtain ⟨B1, B2, B3, B103⟩ := ah4 ha_w193 B1 B2 B3 B103
         obtain ⟨A, X, Y_⟩ := axa3 ha_w193 A X Y_
         replace X : Ext w193 w193 := Ext.refl _
         refine ⟨(Bar.of_ahead ha_w193), ?_⟩
         refine ⟨?_, ?_⟩
         ·replace h := h _ X A
          refine Calls.mono h ?_
          clear h
          rintro e80 w195 ⟨b77, s65, x82, he_, ha_w195, h⟩
          refine ⟨b77, s65, x82, he_, ?_⟩
          clear he_
          obtain ⟨B1, B2, B3, B103⟩ := ah4 ha_w195 B1 B2 B3 B103
          obtain ⟨A, X, Y_⟩ := axa3 ha_w195 A X Y_
          replace X : Ext w195 w195 := Ext.refl _
          refine ⟨?_, ?_⟩
          ·refine newC_t fun bk104 u261 hb104 ha_u261 _ B104 => ?_
           have g104 := le_eq A.size hb104
           have l1_104 := lt4 hb104 B1 B2 B3 B103
           have y104 := le_eq Y_ hb104
           obtain ⟨B1, B2, B3, B103⟩ := ah4 ha_u261 B1 B2 B3 B103
           obtain ⟨A, X, Y_⟩ := axa3 ha_u261 A X Y_
           refine bb3 ha_u261 ?_
           refine newC_t fun bk105 u262 hb105 ha_u262 _ B105 => ?_
           have g105 := le_eq A.size hb105
           have l1_105 := lt5 hb105 B1 B2 B3 B103 B104
           have y105 := le_eq Y_ hb105
           obtain ⟨B1, B2, B3, B103, B104⟩ := ah5 ha_u262 B1 B2 B3 B103 B104
           obtain ⟨A, X, Y_⟩ := axa3 ha_u262 A X Y_
           refine bb3 ha_u262 ?_
           refine st3_t B104 rfl rfl rfl rfl fun u263 k_u263 B104 => ?_
           obtain ⟨B1, B2, B3, B103, B105⟩ := up5 k_u263 B1 B2 B3 B103 B105 (by omega)
           obtain ⟨A, X, Y_⟩ := axu3 k_u263 g104 A X Y_
           refine st3_t B105 rfl rfl rfl rfl fun u264 k_u264 B105 => ?_
           obtain ⟨B1, B2, B3, B103, B104⟩ := up5 k_u264 B1 B2 B3 B103 B104 (by omega)
           obtain ⟨A, X, Y_⟩ := axu3 k_u264 g105 A X Y_
           refine st3_t B103 rfl rfl rfl rfl fun u265 k_u265 B103 => ?_
           obtain ⟨B1, B2, B3, B104, B105⟩ := up5 k_u265 B1 B2 B3 B104 B105 (by omega)
           obtain ⟨A, X, Y_⟩ := axu3 k_u265 g103 A X Y_
           replace h := h _ X A
           exact ⟨bk104, bk105, bk103, b1, s1, x1, b76, s64, x81, b77, s65, x82, rfl, B104, g104, rfl, B105, g105, rfl, B103, g103, (by omega), (by omega), (by omega), A, h⟩
          ·refine newC_t fun bk106 u266 hb106 ha_u266 _ B106 => ?_
           have g106 := le_eq A.size hb106
           have l1_106 := lt4 hb106 B1 B2 B3 B103
           have y106 := le_eq Y_ hb106
           obtain ⟨B1, B2, B3, B103⟩ := ah4 ha_u266 B1 B2 B3 B103
           obtain ⟨A, X, Y_⟩ := axa3 ha_u266 A X Y_
           refine bb3 ha_u266 ?_
           refine newC_t fun bk107 u267 hb107 ha_u267 _ B107 => ?_
           have g107 := le_eq A.size hb107
           have l1_107 := lt5 hb107 B1 B2 B3 B103 B106
           have y107 := le_eq Y_ hb107
           obtain ⟨B1, B2, B3, B103, B106⟩ := ah5 ha_u267 B1 B2 B3 B103 B106
           obtain ⟨A, X, Y_⟩ := axa3 ha_u267 A X Y_
           refine bb3 ha_u267 ?_
           refine st3_t B107 rfl rfl rfl rfl fun u268 k_u268 B107 => ?_
           obtain ⟨B1, B2, B3, B103, B106⟩ := up5 k_u268 B1 B2 B3 B103 B106 (by omega)
           obtain ⟨A, X, Y_⟩ := axu3 k_u268 g107 A X Y_
           refine st3_t B106 rfl rfl rfl rfl fun u269 k_u269 B106 => ?_
           obtain ⟨B1, B2, B3, B103, B107⟩ := up5 k_u269 B1 B2 B3 B103 B107 (by omega)
           obtain ⟨A, X, Y_⟩ := axu3 k_u269 g106 A X Y_
           refine st3_t B103 rfl rfl rfl rfl fun u270 k_u270 B103 => ?_
           obtain ⟨B1, B2, B3, B106, B107⟩ := up5 k_u270 B1 B2 B3 B106 B107 (by omega)
           obtain ⟨A, X, Y_⟩ := axu3 k_u270 g103 A X Y_
           replace h := h _ X A
           exact ⟨bk107, bk106, bk103, b1, s1, x1, b76, s64, x81, b77, s65, x82, rfl, B107, g107, rfl, B106, g106, rfl, B103, g103, (by omega), (by omega), (by omega), A, h⟩
         ·refine ⟨?_, ?_⟩
          ·refine newC_t fun bk108 u271 hb108 ha_u271 _ B108 => ?_
           have g108 := le_eq A.size hb108
           have l1_108 := lt4 hb108 B1 B2 B3 B103
           have y108 := le_eq Y_ hb108
           obtain ⟨B1, B2, B3, B103⟩ := ah4 ha_u271 B1 B2 B3 B103
           obtain ⟨A, X, Y_⟩ := axa3 ha_u271 A X Y_
           refine bb3 ha_u271 ?_
           refine ⟨?_, ?_⟩
           ·replace h := h _ X A
            refine Calls.mono h ?_
            clear h
            rintro e81 w199 ⟨b78, s66, x83, he_, ha_w199, h⟩
            refine ⟨b78, s66, x83, he_, ?_⟩
            clear he_
            obtain ⟨B1, B2, B3, B103, B108⟩ := ah5 ha_w199 B1 B2 B3 B103 B108
            obtain ⟨A, X, Y_⟩ := axa3 ha_w199 A X Y_
            replace X : Ext w199 w199 := Ext.refl _
            refine newC_t fun bk109 u272 hb109 ha_u272 _ B109 => ?_
            have g109 := le_eq A.size hb109
            have l1_109 := lt5 hb109 B1 B2 B3 B103 B108
            have y109 := le_eq Y_ hb109
            obtain ⟨B1, B2, B3, B103, B108⟩ := ah5 ha_u272 B1 B2 B3 B103 B108
            obtain ⟨A, X, Y_⟩ := axa3 ha_u272 A X Y_
            refine bb3 ha_u272 ?_
            refine st3_t B108 rfl rfl rfl rfl fun u273 k_u273 B108 => ?_
            obtain ⟨B1, B2, B3, B103, B109⟩ := up5 k_u273 B1 B2 B3 B103 B109 (by omega)
            obtain ⟨A, X, Y_⟩ := axu3 k_u273 g108 A X Y_
            refine st3_t B109 rfl rfl rfl rfl fun u274 k_u274 B109 => ?_
            obtain ⟨B1, B2, B3, B103, B108⟩ := up5 k_u274 B1 B2 B3 B103 B108 (by omega)
            obtain ⟨A, X, Y_⟩ := axu3 k_u274 g109 A X Y_
            refine st3_t B103 rfl rfl rfl rfl fun u275 k_u275 B103 => ?_
            obtain ⟨B1, B2, B3, B108, B109⟩ := up5 k_u275 B1 B2 B3 B108 B109 (by omega)
            obtain ⟨A, X, Y_⟩ := axu3 k_u275 g103 A X Y_
            replace h := h _ X A
            exact ⟨bk108, bk109, bk103, b1, s1, x1, b76, s64, x81, b78, s66, x83, rfl, B108, g108, rfl, B109, g109, rfl, B103, g103, (by omega), (by omega), (by omega), A, h⟩
           ·refine newC_t fun bk110 u276 hb110 ha_u276 _ B110 => ?_
            have g110 := le_eq A.size hb110
            have l1_110 := lt5 hb110 B1 B2 B3 B103 B108
            have y110 := le_eq Y_ hb110
            obtain ⟨B1, B2, B3, B103, B108⟩ := ah5 ha_u276 B1 B2 B3 B103 B108
            obtain ⟨A, X, Y_⟩ := axa3 ha_u276 A X Y_
            refine bb3 ha_u276 ?_
            replace h := h _ X A
            refine Calls.mono h ?_
            clear h
            rintro e82 w202 ⟨b79, s67, x84, he_, ha_w202, h⟩
            refine ⟨b79, s67, x84, he_, ?_⟩
            clear he_
            obtain ⟨B1, B2, B3, B103, B108, B110⟩ := ah6 ha_w202 B1 B2 B3 B103 B108 B110
            obtain ⟨A, X, Y_⟩ := axa3 ha_w202 A X Y_
            replace X : Ext w202 w202 := Ext.refl _
            refine st3_t B108 rfl rfl rfl rfl fun u277 k_u277 B108 => ?_
            obtain ⟨B1, B2, B3, B103, B110⟩ := up5 k_u277 B1 B2 B3 B103 B110 (by omega)
            obtain ⟨A, X, Y_⟩ := axu3 k_u277 g108 A X Y_
            refine st3_t B110 rfl rfl rfl rfl fun u278 k_u278 B110 => ?_
            obtain ⟨B1, B2, B3, B103, B108⟩ := up5 k_u278 B1 B2 B3 B103 B108 (by omega)
            obtain ⟨A, X, Y_⟩ := axu3 k_u278 g110 A X Y_
            refine st3_t B103 rfl rfl rfl rfl fun u279 k_u279 B103 => ?_
            obtain ⟨B1, B2, B3, B108, B110⟩ := up5 k_u279 B1 B2 B3 B108 B110 (by omega)
            obtain ⟨A, X, Y_⟩ := axu3 k_u279 g103 A X Y_
            replace h := h _ X A
            exact ⟨bk108, bk110, bk103, b1, s1, x1, b76, s64, x81, b79, s67, x84, rfl, B108, g108, rfl, B110, g110, rfl, B103, g103, (by omega), (by omega), (by omega), A, h⟩
          ·refine newC_t fun bk111 u280 hb111 ha_u280 _ B111 => ?_
           have g111 := le_eq A.size hb111
           have l1_111 := lt4 hb111 B1 B2 B3 B103
           have y111 := le_eq Y_ hb111
           obtain ⟨B1, B2, B3, B103⟩ := ah4 ha_u280 B1 B2 B3 B103
           obtain ⟨A, X, Y_⟩ := axa3 ha_u280 A X Y_
           refine bb3 ha_u280 ?_
           refine ⟨?_, ?_⟩
           ·replace h := h _ X A
            refine Calls.mono h ?_
            clear h
            rintro e83 w205 ⟨b80, s68, x85, he_, ha_w205, h⟩
            refine ⟨b80, s68, x85, he_, ?_⟩
            clear he_
            obtain ⟨B1, B2, B3, B103, B111⟩ := ah5 ha_w205 B1 B2 B3 B103 B111
            obtain ⟨A, X, Y_⟩ := axa3 ha_w205 A X Y_
            replace X : Ext w205 w205 := Ext.refl _
            refine newC_t fun bk112 u281 hb112 ha_u281 _ B112 => ?_
            have g112 := le_eq A.size hb112
            have l1_112 := lt5 hb112 B1 B2 B3 B103 B111
            have y112 := le_eq Y_ hb112
            obtain ⟨B1, B2, B3, B103, B111⟩ := ah5 ha_u281 B1 B2 B3 B103 B111
            obtain ⟨A, X, Y_⟩ := axa3 ha_u281 A X Y_
            refine bb3 ha_u281 ?_
            refine st3_t B112 rfl rfl rfl rfl fun u282 k_u282 B112 => ?_
            obtain ⟨B1, B2, B3, B103, B111⟩ := up5 k_u282 B1 B2 B3 B103 B111 (by omega)
            obtain ⟨A, X, Y_⟩ := axu3 k_u282 g112 A X Y_
            refine st3_t B111 rfl rfl rfl rfl fun u283 k_u283 B111 => ?_
            obtain ⟨B1, B2, B3, B103, B112⟩ := up5 k_u283 B1 B2 B3 B103 B112 (by omega)
            obtain ⟨A, X, Y_⟩ := axu3 k_u283 g111 A X Y_
            refine st3_t B103 rfl rfl rfl rfl fun u284 k_u284 B103 => ?_
            obtain ⟨B1, B2, B3, B111, B112⟩ := up5 k_u284 B1 B2 B3 B111 B112 (by omega)
            obtain ⟨A, X, Y_⟩ := axu3 k_u284 g103 A X Y_
            replace h := h _ X A
            exact ⟨bk112, bk111, bk103, b1, s1, x1, b76, s64, x81, b80, s68, x85, rfl, B112, g112, rfl, B111, g111, rfl, B103, g103, (by omega), (by omega), (by omega), A, h⟩
           ·refine newC_t fun bk113 u285 hb113 ha_u285 _ B113 => ?_
            have g113 := le_eq A.size hb113
            have l1_113 := lt5 hb113 B1 B2 B3 B103 B111
            have y113 := le_eq Y_ hb113
            obtain ⟨B1, B2, B3, B103, B111⟩ := ah5 ha_u285 B1 B2 B3 B103 B111
            obtain ⟨A, X, Y_⟩ := axa3 ha_u285 A X Y_
            refine bb3 ha_u285 ?_
            replace h := h _ X A
            refine Calls.mono h ?_
            clear h
            rintro e84 w208 ⟨b81, s69, x86, he_, ha_w208, h⟩
            refine ⟨b81, s69, x86, he_, ?_⟩
            clear he_
            obtain ⟨B1, B2, B3, B103, B111, B113⟩ := ah6 ha_w208 B1 B2 B3 B103 B111 B113
            obtain ⟨A, X, Y_⟩ := axa3 ha_w208 A X Y_
            replace X : Ext w208 w208 := Ext.refl _
            refine st3_t B113 rfl rfl rfl rfl fun u286 k_u286 B113 => ?_
            obtain ⟨B1, B2, B3, B103, B111⟩ := up5 k_u286 B1 B2 B3 B103 B111 (by omega)
            obtain ⟨A, X, Y_⟩ := axu3 k_u286 g113 A X Y_
            refine st3_t B111 rfl rfl rfl rfl fun u287 k_u287 B111 => ?_
            obtain ⟨B1, B2, B3, B103, B113⟩ := up5 k_u287 B1 B2 B3 B103 B113 (by omega)
            obtain ⟨A, X, Y_⟩ := axu3 k_u287 g111 A X Y_
            refine st3_t B103 rfl rfl rfl rfl fun u288 k_u288 B103 => ?_
            obtain ⟨B1, B2, B3, B111, B113⟩ := up5 k_u288 B1 B2 B3 B111 B113 (by omega)
            obtain ⟨A, X, Y_⟩ := axu3 k_u288 g103 A X Y_
            replace h := h _ X A
            exact ⟨bk113, bk111, bk103, b1, s1, x1, b76, s64, x81, b81, s69, x86, rfl, B113, g113, rfl, B111, g111, rfl, B103, g103, (by omega), (by omega), (by omega), A, h⟩
        ·refine ⟨?_, ?_⟩
         ·refine newC_t fun bk114 u289 hb114 ha_u289 _ B114 => ?_
          have g114 := le_eq A.size hb114
          have l1_114 := lt4 hb114 B1 B2 B3 B103
          have y114 := le_eq Y_ hb114
          obtain ⟨B1, B2, B3, B103⟩ := ah4 ha_u289 B1 B2 B3 B103
          obtain ⟨A, X, Y_⟩ := axa3 ha_u289 A X Y_
          refine bb3 ha_u289 ?_
          refine ⟨?_, ?_⟩
          ·replace h := h _ X A
           refine Calls.mono h ?_
           clear h
           rintro e85 w211 ⟨b82, s70, x87, he_, ha_w211, h⟩
           refine ⟨b82, s70, x87, he_, ?_⟩
           clear he_
           obtain ⟨B1, B2, B3, B103, B114⟩ := ah5 ha_w211 B1 B2 B3 B103 B114
           obtain ⟨A, X, Y_⟩ := axa3 ha_w211 A X Y_
           replace X : Ext w211 w211 := Ext.refl _
           refine ⟨(Bar.of_ahead ha_w211), ?_⟩
           refine ⟨?_, ?_⟩
           ·replace h := h _ X A
            refine Calls.mono h ?_
            clear h
            rintro e86 w213 ⟨b83, s71, x88, he_, ha_w213, h⟩
            refine ⟨b83, s71, x88, he_, ?_⟩
            clear he_
            obtain ⟨B1, B2, B3, B103, B114⟩ := ah5 ha_w213 B1 B2 B3 B103 B114
            obtain ⟨A, X, Y_⟩ := axa3 ha_w213 A X Y_
            replace X : Ext w213 w213 := Ext.refl _
            refine newC_t fun bk115 u290 hb115 ha_u290 _ B115 => ?_
            have g115 := le_eq A.size hb115
            have l1_115 := lt5 hb115 B1 B2 B3 B103 B114
            have y115 := le_eq Y_ hb115
            obtain ⟨B1, B2, B3, B103, B114⟩ := ah5 ha_u290 B1 B2 B3 B103 B114
            obtain ⟨A, X, Y_⟩ := axa3 ha_u290 A X Y_
            refine bb3 ha_u290 ?_
            refine st3_t B114 rfl rfl rfl rfl fun u291 k_u291 B114 => ?_
            obtain ⟨B1, B2, B3, B103, B115⟩ := up5 k_u291 B1 B2 B3 B103 B115 (by omega)
            obtain ⟨A, X, Y_⟩ := axu3 k_u291 g114 A X Y_
            refine st3_t B115 rfl rfl rfl rfl fun u292 k_u292 B115 => ?_
            obtain ⟨B1, B2, B3, B103, B114⟩ := up5 k_u292 B1 B2 B3 B103 B114 (by omega)
            obtain ⟨A, X, Y_⟩ := axu3 k_u292 g115 A X Y_
            refine st3_t B103 rfl rfl rfl rfl fun u293 k_u293 B103 => ?_
            obtain ⟨B1, B2, B3, B114, B115⟩ := up5 k_u293 B1 B2 B3 B114 B115 (by omega)
            obtain ⟨A, X, Y_⟩ := axu3 k_u293 g103 A X Y_
            replace h := h _ X A
            exact ⟨bk114, bk115, bk103, b1, s1, x1, b82, s70, x87, b83, s71, x88, rfl, B114, g114, rfl, B115, g115, rfl, B103, g103, (by omega), (by omega), (by omega), A, h⟩
           ·refine newC_t fun bk116 u294 hb116 ha_u294 _ B116 => ?_
            have g116 := le_eq A.size hb116
            have l1_116 := lt5 hb116 B1 B2 B3 B103 B114
            have y116 := le_eq Y_ hb116
            obtain ⟨B1, B2, B3, B103, B114⟩ := ah5 ha_u294 B1 B2 B3 B103 B114
            obtain ⟨A, X, Y_⟩ := axa3 ha_u294 A X Y_
            refine bb3 ha_u294 ?_
            replace h := h _ X A
            refine Calls.mono h ?_
            clear h
            rintro e87 w216 ⟨b84, s72, x89, he_, ha_w216, h⟩
            refine ⟨b84, s72, x89, he_, ?_⟩
            clear he_
            obtain ⟨B1, B2, B3, B103, B114, B116⟩ := ah6 ha_w216 B1 B2 B3 B103 B114 B116
            obtain ⟨A, X, Y_⟩ := axa3 ha_w216 A X Y_
            replace X : Ext w216 w216 := Ext.refl _
            refine st3_t B114 rfl rfl rfl rfl fun u295 k_u295 B114 => ?_
            obtain ⟨B1, B2, B3, B103, B116⟩ := up5 k_u295 B1 B2 B3 B103 B116 (by omega)
            obtain ⟨A, X, Y_⟩ := axu3 k_u295 g114 A X Y_
            refine st3_t B116 rfl rfl rfl rfl fun u296 k_u296 B116 => ?_
            obtain ⟨B1, B2, B3, B103, B114⟩ := up5 k_u296 B1 B2 B3 B103 B114 (by omega)
            obtain ⟨A, X, Y_⟩ := axu3 k_u296 g116 A X Y_
            refine st3_t B103 rfl rfl rfl rfl fun u297 k_u297 B103 => ?_
            obtain ⟨B1, B2, B3, B114, B116⟩ := up5 k_u297 B1 B2 B3 B114 B116 (by omega)
            obtain ⟨A, X, Y_⟩ := axu3 k_u297 g103 A X Y_
            replace h := h _ X A
            exact ⟨bk114, bk116, bk103, b1, s1, x1, b82, s70, x87, b84, s72, x89, rfl, B114, g114, rfl, B116, g116, rfl, B103, g103, (by omega), (by omega), (by omega), A, h⟩
          ·refine newC_t fun bk117 u298 hb117 ha_u298 _ B117 => ?_
           have g117 := le_eq A.size hb117
           have l1_117 := lt5 hb117 B1 B2 B3 B103 B114
           have y117 := le_eq Y_ hb117
           obtain ⟨B1, B2, B3, B103, B114⟩ := ah5 ha_u298 B1 B2 B3 B103 B114
           obtain ⟨A, X, Y_⟩ := axa3 ha_u298 A X Y_
           refine bb3 ha_u298 ?_
           replace h := h _ X A
           refine Calls.mono h ?_
           clear h
           rintro e88 w219 ⟨b85, s73, x90, he_, ha_w219, h⟩
           refine ⟨b85, s73, x90, he_, ?_⟩
           clear he_
           obtain ⟨B1, B2, B3, B103, B114, B117⟩ := ah6 ha_w219 B1 B2 B3 B103 B114 B117
           obtain ⟨A, X, Y_⟩ := axa3 ha_w219 A X Y_
           replace X : Ext w219 w219 := Ext.refl _
           refine ⟨(Bar.of_ahead ha_w219), ?_⟩
           replace h := h _ X A
           refine Calls.mono h ?_
           clear h
           rintro e89 w221 ⟨b86, s74, x91, he_, ha_w221, h⟩
           refine ⟨b86, s74, x91, he_, ?_⟩
           clear he_
           obtain ⟨B1, B2, B3, B103, B114, B117⟩ := ah6 ha_w221 B1 B2 B3 B103 B114 B117
           obtain ⟨A, X, Y_⟩ := axa3 ha_w221 A X Y_
           replace X : Ext w221 w221 := Ext.refl _
           refine st3_t B114 rfl rfl rfl rfl fun u299 k_u299 B114 => ?_
           obtain ⟨B1, B2, B3, B103, B117⟩ := up5 k_u299 B1 B2 B3 B103 B117 (by omega)
           obtain ⟨A, X, Y_⟩ := axu3 k_u299 g114 A X Y_
           refine st3_t B117 rfl rfl rfl rfl fun u300 k_u300 B117 => ?_
           obtain ⟨B1, B2, B3, B103, B114⟩ := up5 k_u300 B1 B2 B3 B103 B114 (by omega)
           obtain ⟨A, X, Y_⟩ := axu3 k_u300 g117 A X Y_
           refine st3_t B103 rfl rfl rfl rfl fun u301 k_u301 B103 => ?_
           obtain ⟨B1, B2, B3, B114, B117⟩ := up5 k_u301 B1 B2 B3 B114 B117 (by omega)
           obtain ⟨A, X, Y_⟩ := axu3 k_u301 g103 A X Y_
           replace h := h _ X A
           exact ⟨bk114, bk117, bk103, b1, s1, x1, b85, s73, x90, b86, s74, x91, rfl, B114, g114, rfl, B117, g117, rfl, B103, g103, (by omega), (by omega), (by omega), A, h⟩
         ·refine newC_t fun bk118 u302 hb118 ha_u302 _ B118 => ?_
          have g118 := le_eq A.size hb118
          have l1_118 := lt4 hb118 B1 B2 B3 B103
          have y118 := le_eq Y_ hb118
          obtain ⟨B1, B2, B3, B103⟩ := ah4 ha_u302 B1 B2 B3 B103
          obtain ⟨A, X, Y_⟩ := axa3 ha_u302 A X Y_
          refine bb3 ha_u302 ?_
          refine ⟨?_, ?_⟩
          ·replace h := h _ X A
           refine Calls.mono h ?_
           clear h
           rintro e90 w224 ⟨b87, s75, x92, he_, ha_w224, h⟩
           refine ⟨b87, s75, x92, he_, ?_⟩
           clear he_
           obtain ⟨B1, B2, B3, B103, B118⟩ := ah5 ha_w224 B1 B2 B3 B103 B118
           obtain ⟨A, X, Y_⟩ := axa3 ha_w224 A X Y_
           replace X : Ext w224 w224 := Ext.refl _
           refine ⟨(Bar.of_ahead ha_w224), ?_⟩
           refine ⟨?_, ?_⟩
           ·replace h := h _ X A
            refine Calls.mono h ?_
            clear h
            rintro e91 w226 ⟨b88, s76, x93, he_, ha_w226, h⟩
            refine ⟨b88, s76, x93, he_, ?_⟩
            clear he_
            obtain ⟨B1, B2, B3, B103, B118⟩ := ah5 ha_w226 B1 B2 B3 B103 B118
            obtain ⟨A, X, Y_⟩ := axa3 ha_w226 A X Y_
            replace X : Ext w226 w226 := Ext.refl _
            refine newC_t fun bk119 u303 hb119 ha_u303 _ B119 => ?_
            have g119 := le_eq A.size hb119
            have l1_119 := lt5 hb119 B1 B2 B3 B103 B118
            have y119 := le_eq Y_ hb119
            obtain ⟨B1, B2, B3, B103, B118⟩ := ah5 ha_u303 B1 B2 B3 B103 B118
            obtain ⟨A, X, Y_⟩ := axa3 ha_u303 A X Y_
            refine bb3 ha_u303 ?_
            refine st3_t B119 rfl rfl rfl rfl fun u304 k_u304 B119 => ?_
            obtain ⟨B1, B2, B3, B103, B118⟩ := up5 k_u304 B1 B2 B3 B103 B118 (by omega)
            obtain ⟨A, X, Y_⟩ := axu3 k_u304 g119 A X Y_
            refine st3_t B118 rfl rfl rfl rfl fun u305 k_u305 B118 => ?_
            obtain ⟨B1, B2, B3, B103, B119⟩ := up5 k_u305 B1 B2 B3 B103 B119 (by omega)
            obtain ⟨A, X, Y_⟩ := axu3 k_u305 g118 A X Y_
            refine st3_t B103 rfl rfl rfl rfl fun u306 k_u306 B103 => ?_
            obtain ⟨B1, B2, B3, B118, B119⟩ := up5 k_u306 B1 B2 B3 B118 B119 (by omega)
            obtain ⟨A, X, Y_⟩ := axu3 k_u306 g103 A X Y_
            replace h := h _ X A
            exact ⟨bk119, bk118, bk103, b1, s1, x1, b87, s75, x92, b88, s76, x93, rfl, B119, g119, rfl, B118, g118, rfl, B103, g103, (by omega), (by omega), (by omega), A, h⟩
           ·refine newC_t fun bk120 u307 hb120 ha_u307 _ B120 => ?_
            have g120 := le_eq A.size hb120
            have l1_120 := lt5 hb120 B1 B2 B3 B103 B118
            have y120 := le_eq Y_ hb120
            obtain ⟨B1, B2, B3, B103, B118⟩ := ah5 ha_u307 B1 B2 B3 B103 B118
            obtain ⟨A, X, Y_⟩ := axa3 ha_u307 A X Y_
            refine bb3 ha_u307 ?_
            replace h := h _ X A
            refine Calls.mono h ?_
            clear h
            rintro e92 w229 ⟨b89, s77, x94, he_, ha_w229, h⟩
            refine ⟨b89, s77, x94, he_, ?_⟩
            clear he_
            obtain ⟨B1, B2, B3, B103, B118, B120⟩ := ah6 ha_w229 B1 B2 B3 B103 B118 B120
            obtain ⟨A, X, Y_⟩ := axa3 ha_w229 A X Y_
            replace X : Ext w229 w229 := Ext.refl _
            refine st3_t B120 rfl rfl rfl rfl fun u308 k_u308 B120 => ?_
            obtain ⟨B1, B2, B3, B103, B118⟩ := up5 k_u308 B1 B2 B3 B103 B118 (by omega)
            obtain ⟨A, X, Y_⟩ := axu3 k_u308 g120 A X Y_
            refine st3_t B118 rfl rfl rfl rfl fun u309 k_u309 B118 => ?_
            obtain ⟨B1, B2, B3, B103, B120⟩ := up5 k_u309 B1 B2 B3 B103 B120 (by omega)
            obtain ⟨A, X, Y_⟩ := axu3 k_u309 g118 A X Y_
            refine st3_t B103 rfl rfl rfl rfl fun u310 k_u310 B103 => ?_
            obtain ⟨B1, B2, B3, B118, B120⟩ := up5 k_u310 B1 B2 B3 B118 B120 (by omega)
            obtain ⟨A, X, Y_⟩ := axu3 k_u310 g103 A X Y_
            replace h := h _ X A
            exact ⟨bk120, bk118, bk103, b1, s1, x1, b87, s75, x92, b89, s77, x94, rfl, B120, g120, rfl, B118, g118, rfl, B103, g103, (by omega), (by omega), (by omega), A, h⟩
          ·refine newC_t fun bk121 u311 hb121 ha_u311 _ B121 => ?_
           have g121 := le_eq A.size hb121
           have l1_121 := lt5 hb121 B1 B2 B3 B103 B118
           have y121 := le_eq Y_ hb121
           obtain ⟨B1, B2, B3, B103, B118⟩ := ah5 ha_u311 B1 B2 B3 B103 B118
           obtain ⟨A, X, Y_⟩ := axa3 ha_u311 A X Y_
           refine bb3 ha_u311 ?_
           replace h := h _ X A
           refine Calls.mono h ?_
           clear h
           rintro e93 w232 ⟨b90, s78, x95, he_, ha_w232, h⟩
           refine ⟨b90, s78, x95, he_, ?_⟩
           clear he_
           obtain ⟨B1, B2, B3, B103, B118, B121⟩ := ah6 ha_w232 B1 B2 B3 B103 B118 B121
           obtain ⟨A, X, Y_⟩ := axa3 ha_w232 A X Y_
           replace X : Ext w232 w232 := Ext.refl _
           refine ⟨(Bar.of_ahead ha_w232), ?_⟩
           replace h := h _ X A
           refine Calls.mono h ?_
           clear h
           rintro e94 w234 ⟨b91, s79, x96, he_, ha_w234, h⟩
           refine ⟨b91, s79, x96, he_, ?_⟩
           clear he_
           obtain ⟨B1, B2, B3, B103, B118, B121⟩ := ah6 ha_w234 B1 B2 B3 B103 B118 B121
           obtain ⟨A, X, Y_⟩ := axa3 ha_w234 A X Y_
           replace X : Ext w234 w234 := Ext.refl _
           refine st3_t B121 rfl rfl rfl rfl fun u312 k_u312 B121 => ?_
           obtain ⟨B1, B2, B3, B103, B118⟩ := up5 k_u312 B1 B2 B3 B103 B118 (by omega)
           obtain ⟨A, X, Y_⟩ := axu3 k_u312 g121 A X Y_
           refine st3_t B118 rfl rfl rfl rfl fun u313 k_u313 B118 => ?_
           obtain ⟨B1, B2, B3, B103, B121⟩ := up5 k_u313 B1 B2 B3 B103 B121 (by omega)
           obtain ⟨A, X, Y_⟩ := axu3 k_u313 g118 A X Y_
           refine st3_t B103 rfl rfl rfl rfl fun u314 k_u314 B103 => ?_
           obtain ⟨B1, B2, B3, B118, B121⟩ := up5 k_u314 B1 B2 B3 B118 B121 (by omega)
           obtain ⟨A, X, Y_⟩ := axu3 k_u314 g103 A X Y_
           replace h := h _ X A
           exact ⟨bk121, bk118, bk103, b1, s1, x1, b90, s78, x95, b91, s79, x96, rfl, B121, g121, rfl, B118, g118, rfl, B103, g103, (by omega), (by omega), (by omega), A, h⟩
    ·refine ⟨?_, ?_⟩
     ·refine newC_t fun bk122 u315 hb122 ha_u315 _ B122 => ?_
      have g122 := le_eq A.size hb122
      have l1_122 := lt3 hb122 B1 B2 B3
      have y122 := le_eq Y_ hb122
      obtain ⟨B1, B2, B3⟩ := ah3 ha_u315 B1 B2 B3
      obtain ⟨A, X, Y_⟩ := axa3 ha_u315 A X Y_
      refine bb3 ha_u315 ?_
      refine ⟨?_, ?_⟩
      ·replace h := h _ X A
       refine Calls.mono h ?_
       clear h
       rintro e95 w237 ⟨b92, s80, x97, he_, ha_w237, h⟩
       refine ⟨b92, s80, x97, he_, ?_⟩
       clear he_
       obtain ⟨B1, B2, B3, B122⟩ := ah4 ha_w237 B1 B2 B3 B122
       obtain ⟨A, X, Y_⟩ := axa3 ha_w237 A X Y_
       replace X : Ext w237 w237 := Ext.refl _
       refine bb2 ha_w237 ?_
       refine ⟨?_, ?_⟩
       ·replace h := h _ X A
        refine Calls.mono h ?_
        clear h
        rintro e96 w239 ⟨b93, s81, x98, he_, ha_w239, h⟩
        refine ⟨b93, s81, x98, he_, ?_⟩
        clear he_
        obtain ⟨B1, B2, B3, B122⟩ := ah4 ha_w239 B1 B2 B3 B122
        obtain ⟨A, X, Y_⟩ := axa3 ha_w239 A X Y_
        replace X : Ext w239 w239 := Ext.refl _
        refine ⟨(Bar.of_ahead ha_w239), ?_⟩
        refine ⟨?_, ?_⟩
        ·replace h := h _ X A
         refine Calls.mono h ?_
         clear h
         rintro e97 w241 ⟨b94, s82, x99, he_, ha_w241, h⟩
         refine ⟨b94, s82, x99, he_, ?_⟩
         clear he_
         obtain ⟨B1, B2, B3, B122⟩ := ah4 ha_w241 B1 B2 B3 B122
         obtain ⟨A, X, Y_⟩ := axa3 ha_w241 A X Y_
         replace X : Ext w241 w241 := Ext.refl _
         refine ⟨?_, ?_⟩
         ·refine newC_t fun bk123 u316 hb123 ha_u316 _ B123 => ?_
          have g123 := le_eq A.size hb123
          have l1_123 := lt4 hb123 B1 B2 B3 B122
          have y123 := le_eq Y_ hb123
          obtain ⟨B1, B2, B3, B122⟩ := ah4 ha_u316 B1 B2 B3 B122
          obtain ⟨A, X, Y_⟩ := axa3 ha_u316 A X Y_
          refine bb3 ha_u316 ?_
          refine newC_t fun bk124 u317 hb124 ha_u317 _ B124 => ?_
          have g124 := le_eq A.size hb124
          have l1_124 := lt5 hb124 B1 B2 B3 B122 B123
          have y124 := le_eq Y_ hb124
          obtain ⟨B1, B2, B3, B122, B123⟩ := ah5 ha_u317 B1 B2 B3 B122 B123
          obtain ⟨A, X, Y_⟩ := axa3 ha_u317 A X Y_
          refine bb3 ha_u317 ?_
          refine st3_t B122 rfl rfl rfl rfl fun u318 k_u318 B122 => ?_
          obtain ⟨B1, B2, B3, B123, B124⟩ := up5 k_u318 B1 B2 B3 B123 B124 (by omega)
          obtain ⟨A, X, Y_⟩ := axu3 k_u318 g122 A X Y_
          refine st3_t B123 rfl rfl rfl rfl fun u319 k_u319 B123 => ?_
          obtain ⟨B1, B2, B3, B122, B124⟩ := up5 k_u319 B1 B2 B3 B122 B124 (by omega)
          obtain ⟨A, X, Y_⟩ := axu3 k_u319 g123 A X Y_
          refine st3_t B124 rfl rfl rfl rfl fun u320 k_u320 B124 => ?_
          obtain ⟨B1, B2, B3, B122, B123⟩ := up5 k_u320 B1 B2 B3 B122 B123 (by omega)
          obtain ⟨A, X, Y_⟩ := axu3 k_u320 g124 A X Y_
          replace h := h _ X A
          exact ⟨bk122, bk123, bk124, b92, s80, x97, b93, s81, x98, b94, s82, x99, rfl, B122, g122, rfl, B123, g123, rfl, B124, g124, (by omega), (by omega), (by omega), A, h⟩
         ·refine newC_t fun bk125 u321 hb125 ha_u321 _ B125 => ?_
          have g125 := le_eq A.size hb125
          have l1_125 := lt4 hb125 B1 B2 B3 B122
          have y125 := le_eq Y_ hb125
          obtain ⟨B1, B2, B3, B122⟩ := ah4 ha_u321 B1 B2 B3 B122
          obtain ⟨A, X, Y_⟩ := axa3 ha_u321 A X Y_
          refine bb3 ha_u321 ?_
          refine newC_t fun bk126 u322 hb126 ha_u322 _ B126 => ?_
          have g126 := le_eq A.size hb126
          have l1_126 := lt5 hb126 B1 B2 B3 B122 B125
          have y126 := le_eq Y_ hb126
          obtain ⟨B1, B2, B3, B122, B125⟩ := ah5 ha_u322 B1 B2 B3 B122 B125
          obtain ⟨A, X, Y_⟩ := axa3 ha_u322 A X Y_
          refine bb3 ha_u322 ?_
          refine st3_t B122 rfl rfl rfl rfl fun u323 k_u323 B122 => ?_
          obtain ⟨B1, B2, B3, B125, B126⟩ := up5 k_u323 B1 B2 B3 B125 B126 (by omega)
          obtain ⟨A, X, Y_⟩ := axu3 k_u323 g122 A X Y_
          refine st3_t B126 rfl rfl rfl rfl fun u324 k_u324 B126 => ?_
          obtain ⟨B1, B2, B3, B122, B125⟩ := up5 k_u324 B1 B2 B3 B122 B125 (by omega)
          obtain ⟨A, X, Y_⟩ := axu3 k_u324 g126 A X Y_
          refine st3_t B125 rfl rfl rfl rfl fun u325 k_u325 B125 => ?_
          obtain ⟨B1, B2, B3, B122, B126⟩ := up5 k_u325 B1 B2 B3 B122 B126 (by omega)
          obtain ⟨A, X, Y_⟩ := axu3 k_u325 g125 A X Y_
          replace h := h _ X A
          exact ⟨bk122, bk126, bk125, b92, s80, x97, b93, s81, x98, b94, s82, x99, rfl, B122, g122, rfl, B126, g126, rfl, B125, g125, (by omega), (by omega), (by omega), A, h⟩
        ·refine ⟨?_, ?_⟩
         ·refine newC_t fun bk127 u326 hb127 ha_u326 _ B127 => ?_
          have g127 := le_eq A.size hb127
          have l1_127 := lt4 hb127 B1 B2 B3 B122
          have y127 := le_eq Y_ hb127
          obtain ⟨B1, B2, B3, B122⟩ := ah4 ha_u326 B1 B2 B3 B122
          obtain ⟨A, X, Y_⟩ := axa3 ha_u326 A X Y_
          refine bb3 ha_u326 ?_
          refine ⟨?_, ?_⟩
          ·replace h := h _ X A
           refine Calls.mono h ?_
           clear h
           rintro e98 w245 ⟨b95, s83, x100, he_, ha_w245, h⟩
           refine ⟨b95, s83, x100, he_, ?_⟩
           clear he_
           obtain ⟨B1, B2, B3, B122, B127⟩ := ah5 ha_w245 B1 B2 B3 B122 B127
           obtain ⟨A, X, Y_⟩ := axa3 ha_w245 A X Y_
           replace X : Ext w245 w245 := Ext.refl _
           refine newC_t fun bk128 u327 hb128 ha_u327 _ B128 => ?_
           have g128 := le_eq A.size hb128
           have l1_128 := lt5 hb128 B1 B2 B3 B122 B127
           have y128 := le_eq Y_ hb128
           obtain ⟨B1, B2, B3, B122, B127⟩ := ah5 ha_u327 B1 B2 B3 B122 B127
           obtain ⟨A, X, Y_⟩ := axa3 ha_u327 A X Y_
           refine bb3 ha_u327 ?_
           refine st3_t B122 rfl rfl rfl rfl fun u328 k_u328 B122 => ?_
           obtain ⟨B1, B2, B3, B127, B128⟩ := up5 k_u328 B1 B2 B3 B127 B128 (by omega)
           obtain ⟨A, X, Y_⟩ := axu3 k_u328 g122 A X Y_
           refine st3_t B127 rfl rfl rfl rfl fun u329 k_u329 B127 => ?_
           obtain ⟨B1, B2, B3, B122, B128⟩ := up5 k_u329 B1 B2 B3 B122 B128 (by omega)
           obtain ⟨A, X, Y_⟩ := axu3 k_u329 g127 A X Y_
           refine st3_t B128 rfl rfl rfl rfl fun u330 k_u330 B128 => ?_
           obtain ⟨B1, B2, B3, B122, B127⟩ := up5 k_u330 B1 B2 B3 B122 B127 (by omega)
           obtain ⟨A, X, Y_⟩ := axu3 k_u330 g128 A X Y_
           replace h := h _ X A
           exact ⟨bk122, bk127, bk128, b92, s80, x97, b93, s81, x98, b95, s83, x100, rfl, B122, g122, rfl, B127, g127, rfl, B128, g128, (by omega), (by omega), (by omega), A, h⟩
          ·refine newC_t fun bk129 u331 hb129 ha_u331 _ B129 => ?_
           have g129 := le_eq A.size hb129
           have l1_129 := lt5 hb129 B1 B2 B3 B122 B127
           have y129 := le_eq Y_ hb129
           obtain ⟨B1, B2, B3, B122, B127⟩ := ah5 ha_u331 B1 B2 B3 B122 B127
           obtain ⟨A, X, Y_⟩ := axa3 ha_u331 A X Y_
           refine bb3 ha_u331 ?_
           replace h := h _ X A
           refine Calls.mono h ?_
           clear h
           rintro e99 w248 ⟨b96, s84, x101, he_, ha_w248, h⟩
           refine ⟨b96, s84, x101, he_, ?_⟩
           clear he_
           obtain ⟨B1, B2, B3, B122, B127, B129⟩ := ah6 ha_w248 B1 B2 B3 B122 B127 B129
           obtain ⟨A, X, Y_⟩ := axa3 ha_w248 A X Y_
           replace X : Ext w248 w248 := Ext.refl _
           refine st3_t B122 rfl rfl rfl rfl fun u332 k_u332 B122 => ?_
           obtain ⟨B1, B2, B3, B127, B129⟩ := up5 k_u332 B1 B2 B3 B127 B129 (by omega)
           obtain ⟨A, X, Y_⟩ := axu3 k_u332 g122 A X Y_
           refine st3_t B127 rfl rfl rfl rfl fun u333 k_u333 B127 => ?_
           obtain ⟨B1, B2, B3, B122, B129⟩ := up5 k_u333 B1 B2 B3 B122 B129 (by omega)
           obtain ⟨A, X, Y_⟩ := axu3 k_u333 g127 A X Y_
           refine st3_t B129 rfl rfl rfl rfl fun u334 k_u334 B129 => ?_
           obtain ⟨B1, B2, B3, B122, B127⟩ := up5 k_u334 B1 B2 B3 B122 B127 (by omega)
           obtain ⟨A, X, Y_⟩ := axu3 k_u334 g129 A X Y_
           replace h := h _ X A
           exact ⟨bk122, bk127, bk129, b92, s80, x97, b93, s81, x98, b96, s84, x101, rfl, B122, g122, rfl, B127, g127, rfl, B129, g129, (by omega), (by omega), (by omega), A, h⟩
         ·refine newC_t fun bk130 u335 hb130 ha_u335 _ B130 => ?_
          have g130 := le_eq A.size hb130
          have l1_130 := lt4 hb130 B1 B2 B3 B122
          have y130 := le_eq Y_ hb130
          obtain ⟨B1, B2, B3, B122⟩ := ah4 ha_u335 B1 B2 B3 B122
          obtain ⟨A, X, Y_⟩ := axa3 ha_u335 A X Y_
          refine bb3 ha_u335 ?_
          refine ⟨?_, ?_⟩
          ·replace h := h _ X A
           refine Calls.mono h ?_
           clear h
           rintro e100 w251 ⟨b97, s85, x102, he_, ha_w251, h⟩
           refine ⟨b97, s85, x102, he_, ?_⟩
           clear he_
           obtain ⟨B1, B2, B3, B122, B130⟩ := ah5 ha_w251 B1 B2 B3 B122 B130
           obtain ⟨A, X, Y_⟩ := axa3 ha_w251 A X Y_
           replace X : Ext w251 w251 := Ext.refl _
           refine newC_t fun bk131 u336 hb131 ha_u336 _ B131 => ?_
           have g131 := le_eq A.size hb131
           have l1_131 := lt5 hb131 B1 B2 B3 B122 B130
           have y131 := le_eq Y_ hb131
           obtain ⟨B1, B2, B3, B122, B130⟩ := ah5 ha_u336 B1 B2 B3 B122 B130
           obtain ⟨A, X, Y_⟩ := axa3 ha_u336 A X Y_
           refine bb3 ha_u336 ?_
           refine st3_t B122 rfl rfl rfl rfl fun u337 k_u337 B122 => ?_
           obtain ⟨B1, B2, B3, B130, B131⟩ := up5 k_u337 B1 B2 B3 B130 B131 (by omega)
           obtain ⟨A, X, Y_⟩ := axu3 k_u337 g122 A X Y_
           refine st3_t B131 rfl rfl rfl rfl fun u338 k_u338 B131 => ?_
           obtain ⟨B1, B2, B3, B122, B130⟩ := up5 k_u338 B1 B2 B3 B122 B130 (by omega)
           obtain ⟨A, X, Y_⟩ := axu3 k_u338 g131 A X Y_
           refine st3_t B130 rfl rfl rfl rfl fun u339 k_u339 B130 => ?_
           obtain ⟨B1, B2, B3, B122, B131⟩ := up5 k_u339 B1 B2 B3 B122 B131 (by omega)
           obtain ⟨A, X, Y_⟩ := axu3 k_u339 g130 A X Y_
           replace h := h _ X A
           exact ⟨bk122, bk131, bk130, b92, s80, x97, b93, s81, x98, b97, s85, x102, rfl, B122, g122, rfl, B131, g131, rfl, B130, g130, (by omega), (by omega), (by omega), A, h⟩
          ·refine newC_t fun bk132 u340 hb132 ha_u340 _ B132 => ?_
           have g132 := le_eq A.size hb132
           have l1_132 := lt5 hb132 B1 B2 B3 B122 B130
           have y132 := le_eq Y_ hb132
           obtain ⟨B1, B2, B3, B122, B130⟩ := ah5 ha_u340 B1 B2 B3 B122 B130
           obtain ⟨A, X, Y_⟩ := axa3 ha_u340 A X Y_
           refine bb3 ha_u340 ?_
           replace h := h _ X A
           refine Calls.mono h ?_
           clear h
           rintro e101 w254 ⟨b98, s86, x103, he_, ha_w254, h⟩
           refine ⟨b98, s86, x103, he_, ?_⟩
           clear he_
           obtain ⟨B1, B2, B3, B122, B130, B132⟩ := ah6 ha_w254 B1 B2 B3 B122 B130 B132
           obtain ⟨A, X, Y_⟩ := axa3 ha_w254 A X Y_
           replace X : Ext w254 w254 := Ext.refl _
           refine st3_t B122 rfl rfl rfl rfl fun u341 k_u341 B122 => ?_
           obtain ⟨B1, B2, B3, B130, B132⟩ := up5 k_u341 B1 B2 B3 B130 B132 (by omega)
           obtain ⟨A, X, Y_⟩ := axu3 k_u341 g122 A X Y_
           refine st3_t B132 rfl rfl rfl rfl fun u342 k_u342 B132 => ?_
           obtain ⟨B1, B2, B3, B122, B130⟩ := up5 k_u342 B1 B2 B3 B122 B130 (by omega)
           obtain ⟨A, X, Y_⟩ := axu3 k_u342 g132 A X Y_
           refine st3_t B130 rfl rfl rfl rfl fun u343 k_u343 B130 => ?_
           obtain ⟨B1, B2, B3, B122, B132⟩ := up5 k_u343 B1 B2 B3 B122 B132 (by omega)
           obtain ⟨A, X, Y_⟩ := axu3 k_u343 g130 A X Y_
           replace h := h _ X A
           exact ⟨bk122, bk132, bk130, b92, s80, x97, b93, s81, x98, b98, s86, x103, rfl, B122, g122, rfl, B132, g132, rfl, B130, g130, (by omega), (by omega), (by omega), A, h⟩
       ·refine ⟨?_, ?_⟩
        ·refine newC_t fun bk133 u344 hb133 ha_u344 _ B133 => ?_
         have g133 := le_eq A.size hb133
         have l1_133 := lt4 hb133 B1 B2 B3 B122
         have y133 := le_eq Y_ hb133
         obtain ⟨B1, B2, B3, B122⟩ := ah4 ha_u344 B1 B2 B3 B122
         obtain ⟨A, X, Y_⟩ := axa3 ha_u344 A X Y_
         refine bb3 ha_u344 ?_
         refine ⟨?_, ?_⟩
         ·replace h := h _ X A
          refine Calls.mono h ?_
          clear h
          rintro e102 w257 ⟨b99, s87, x104, he_, ha_w257, h⟩
          refine ⟨b99, s87, x104, he_, ?_⟩
          clear he_
          obtain ⟨B1, B2, B3, B122, B133⟩ := ah5 ha_w257 B1 B2 B3 B122 B133
          obtain ⟨A, X, Y_⟩ := axa3 ha_w257 A X Y_
          replace X : Ext w257 w257 := Ext.refl _
          refine ⟨(Bar.of_ahead ha_w257), ?_⟩
          refine ⟨?_, ?_⟩
          ·replace h := h _ X A
           refine Calls.mono h ?_
           clear h
           rintro e103 w259 ⟨b100, s88, x105, he_, ha_w259, h⟩
           refine ⟨b100, s88, x105, he_, ?_⟩
           clear he_
           obtain ⟨B1, B2, B3, B122, B133⟩ := ah5 ha_w259 B1 B2 B3 B122 B133
           obtain ⟨A, X, Y_⟩ := axa3 ha_w259 A X Y_
           replace X : Ext w259 w259 := Ext.refl _
           refine newC_t fun bk134 u345 hb134 ha_u345 _ B134 => ?_
           have g134 := le_eq A.size hb134
           have l1_134 := lt5 hb134 B1 B2 B3 B122 B133
           have y134 := le_eq Y_ hb134
           obtain ⟨B1, B2, B3, B122, B133⟩ := ah5 ha_u345 B1 B2 B3 B122 B133
           obtain ⟨A, X, Y_⟩ := axa3 ha_u345 A X Y_
           refine bb3 ha_u345 ?_
           refine st3_t B122 rfl rfl rfl rfl fun u346 k_u346 B122 => ?_
           obtain ⟨B1, B2, B3, B133, B134⟩ := up5 k_u346 B1 B2 B3 B133 B134 (by omega)
           obtain ⟨A, X, Y_⟩ := axu3 k_u346 g122 A X Y_
           refine st3_t B133 rfl rfl rfl rfl fun u347 k_u347 B133 => ?_
           obtain ⟨B1, B2, B3, B122, B134⟩ := up5 k_u347 B1 B2 B3 B122 B134 (by omega)
           obtain ⟨A, X, Y_⟩ := axu3 k_u347 g133 A X Y_
           refine st3_t B134 rfl rfl rfl rfl fun u348 k_u348 B134 => ?_
           obtain ⟨B1, B2, B3, B122, B133⟩ := up5 k_u348 B1 B2 B3 B122 B133 (by omega)
           obtain ⟨A, X, Y_⟩ := axu3 k_u348 g134 A X Y_
           replace h := h _ X A
           exact ⟨bk122, bk133, bk134, b92, s80, x97, b99, s87, x104, b100, s88, x105, rfl, B122, g122, rfl, B133, g133, rfl, B134, g134, (by omega), (by omega), (by omega), A, h⟩
          ·refine newC_t fun bk135 u349 hb135 ha_u349 _ B135 => ?_
           have g135 := le_eq A.size hb135
           have l1_135 := lt5 hb135 B1 B2 B3 B122 B133
           have y135 := le_eq Y_ hb135
           obtain ⟨B1, B2, B3, B122, B133⟩ := ah5 ha_u349 B1 B2 B3 B122 B133
           obtain ⟨A, X, Y_⟩ := axa3 ha_u349 A X Y_
           refine bb3 ha_u349 ?_
           replace h := h _ X A
           refine Calls.mono h ?_
           clear h
           rintro e104 w262 ⟨b101, s89, x106, he_, ha_w262, h⟩
           refine ⟨b101, s89, x106, he_, ?_⟩
           clear he_
           obtain ⟨B1, B2, B3, B122, B133, B135⟩ := ah6 ha_w262 B1 B2 B3 B122 B133 B135
           obtain ⟨A, X, Y_⟩ := axa3 ha_w262 A X Y_
           replace X : Ext w262 w262 := Ext.refl _
           refine st3_t B122 rfl rfl rfl rfl fun u350 k_u350 B122 => ?_
           obtain ⟨B1, B2, B3, B133, B135⟩ := up5 k_u350 B1 B2 B3 B133 B135 (by omega)
           obtain ⟨A, X, Y_⟩ := axu3 k_u350 g122 A X Y_
           refine st3_t B133 rfl rfl rfl rfl fun u351 k_u351 B133 => ?_
           obtain ⟨B1, B2, B3, B122, B135⟩ := up5 k_u351 B1 B2 B3 B122 B135 (by omega)
           obtain ⟨A, X, Y_⟩ := axu3 k_u351 g133 A X Y_
           refine st3_t B135 rfl rfl rfl rfl fun u352 k_u352 B135 => ?_
           obtain ⟨B1, B2, B3, B122, B133⟩ := up5 k_u352 B1 B2 B3 B122 B133 (by omega)
           obtain ⟨A, X, Y_⟩ := axu3 k_u352 g135 A X Y_
           replace h := h _ X A
           exact ⟨bk122, bk133, bk135, b92, s80, x97, b99, s87, x104, b101, s89, x106, rfl, B122, g122, rfl, B133, g133, rfl, B135, g135, (by omega), (by omega), (by omega), A, h⟩
         ·refine newC_t fun bk136 u353 hb136 ha_u353 _ B136 => ?_
          have g136 := le_eq A.size hb136
          have l1_136 := lt5 hb136 B1 B2 B3 B122 B133
          have y136 := le_eq Y_ hb136
          obtain ⟨B1, B2, B3, B122, B133⟩ := ah5 ha_u353 B1 B2 B3 B122 B133
          obtain ⟨A, X, Y_⟩ := axa3 ha_u353 A X Y_
          refine bb3 ha_u353 ?_
          replace h := h _ X A
          refine Calls.mono h ?_
          clear h
          rintro e105 w265 ⟨b102, s90, x107, he_, ha_w265, h⟩
          refine ⟨b102, s90, x107, he_, ?_⟩
          clear he_
          obtain ⟨B1, B2, B3, B122, B133, B136⟩ := ah6 ha_w265 B1 B2 B3 B122 B133 B136
          obtain ⟨A, X, Y_⟩ := axa3 ha_w265 A X Y_
          replace X : Ext w265 w265 := Ext.refl _
          refine ⟨(Bar.of_ahead ha_w265), ?_⟩
          replace h := h _ X A
          refine Calls.mono h ?_
          clear h
          rintro e106 w267 ⟨b103, s91, x108, he_, ha_w267, h⟩
          refine ⟨b103, s91, x108, he_, ?_⟩
          clear he_
          obtain ⟨B1, B2, B3, B122, B133, B136⟩ := ah6 ha_w267 B1 B2 B3 B122 B133 B136
          obtain ⟨A, X, Y_⟩ := axa3 ha_w267 A X Y_
          replace X : Ext w267 w267 := Ext.refl _
          refine st3_t B122 rfl rfl rfl rfl fun u354 k_u354 B122 => ?_
          obtain ⟨B1, B2, B3, B133, B136⟩ := up5 k_u354 B1 B2 B3 B133 B136 (by omega)
          obtain ⟨A, X, Y_⟩ := axu3 k_u354 g122 A X Y_
          refine st3_t B133 rfl rfl rfl rfl fun u355 k_u355 B133 => ?_
          obtain ⟨B1, B2, B3, B122, B136⟩ := up5 k_u355 B1 B2 B3 B122 B136 (by omega)
          obtain ⟨A, X, Y_⟩ := axu3 k_u355 g133 A X Y_
          refine st3_t B136 rfl rfl rfl rfl fun u356 k_u356 B136 => ?_
          obtain ⟨B1, B2, B3, B122, B133⟩ := up5 k_u356 B1 B2 B3 B122 B133 (by omega)
          obtain ⟨A, X, Y_⟩ := axu3 k_u356 g136 A X Y_
          replace h := h _ X A
          exact ⟨bk122, bk133, bk136, b92, s80, x97, b102, s90, x107, b103, s91, x108, rfl, B122, g122, rfl, B133, g133, rfl, B136, g136, (by omega), (by omega), (by omega), A, h⟩
        ·refine newC_t fun bk137 u357 hb137 ha_u357 _ B137 => ?_
         have g137 := le_eq A.size hb137
         have l1_137 := lt4 hb137 B1 B2 B3 B122
         have y137 := le_eq Y_ hb137
         obtain ⟨B1, B2, B3, B122⟩ := ah4 ha_u357 B1 B2 B3 B122
         obtain ⟨A, X, Y_⟩ := axa3 ha_u357 A X Y_
         refine bb3 ha_u357 ?_
         refine ⟨?_, ?_⟩
         ·replace h := h _ X A
          refine Calls.mono h ?_
          clear h
          rintro e107 w270 ⟨b104, s92, x109, he_, ha_w270, h⟩
          refine ⟨b104, s92, x109, he_, ?_⟩
          clear he_
          obtain ⟨B1, B2, B3, B122, B137⟩ := ah5 ha_w270 B1 B2 B3 B122 B137
          obtain ⟨A, X, Y_⟩ := axa3 ha_w270 A X Y_
          replace X : Ext w270 w270 := Ext.refl _
          refine ⟨(Bar.of_ahead ha_w270), ?_⟩
          refine ⟨?_, ?_⟩
          ·replace h := h _ X A
           refine Calls.mono h ?_
           clear h
           rintro e108 w272 ⟨b105, s93, x110, he_, ha_w272, h⟩
           refine ⟨b105, s93, x110, he_, ?_⟩
           clear he_
           obtain ⟨B1, B2, B3, B122, B137⟩ := ah5 ha_w272 B1 B2 B3 B122 B137
           obtain ⟨A, X, Y_⟩ := axa3 ha_w272 A X Y_
           replace X : Ext w272 w272 := Ext.refl _
           refine newC_t fun bk138 u358 hb138 ha_u358 _ B138 => ?_
           have g138 := le_eq A.size hb138
           have l1_138 := lt5 hb138 B1 B2 B3 B122 B137
           have y138 := le_eq Y_ hb138
           obtain ⟨B1, B2, B3, B122, B137⟩ := ah5 ha_u358 B1 B2 B3 B122 B137
           obtain ⟨A, X, Y_⟩ := axa3 ha_u358 A X Y_
           refine bb3 ha_u358 ?_
           refine st3_t B122 rfl rfl rfl rfl fun u359 k_u359 B122 => ?_
           obtain ⟨B1, B2, B3, B137, B138⟩ := up5 k_u359 B1 B2 B3 B137 B138 (by omega)
           obtain ⟨A, X, Y_⟩ := axu3 k_u359 g122 A X Y_
           refine st3_t B138 rfl rfl rfl rfl fun u360 k_u360 B138 => ?_
           obtain ⟨B1, B2, B3, B122, B137⟩ := up5 k_u360 B1 B2 B3 B122 B137 (by omega)
           obtain ⟨A, X, Y_⟩ := axu3 k_u360 g138 A X Y_
           refine st3_t B137 rfl rfl rfl rfl fun u361 k_u361 B137 => ?_
           obtain ⟨B1, B2, B3, B122, B138⟩ := up5 k_u361 B1 B2 B3 B122 B138 (by omega)
           obtain ⟨A, X, Y_⟩ := axu3 k_u361 g137 A X Y_
           replace h := h _ X A
           exact ⟨bk122, bk138, bk137, b92, s80, x97, b104, s92, x109, b105, s93, x110, rfl, B122, g122, rfl, B138, g138, rfl, B137, g137, (by omega), (by omega), (by omega), A, h⟩
          ·refine newC_t fun bk139 u362 hb139 ha_u362 _ B139 => ?_
           have g139 := le_eq A.size hb139
           have l1_139 := lt5 hb139 B1 B2 B3 B122 B137
           have y139 := le_eq Y_ hb139
           obtain ⟨B1, B2, B3, B122, B137⟩ := ah5 ha_u362 B1 B2 B3 B122 B137
           obtain ⟨A, X, Y_⟩ := axa3 ha_u362 A X Y_
           refine bb3 ha_u362 ?_
           replace h := h _ X A
           refine Calls.mono h ?_
           clear h
           rintro e109 w275 ⟨b106, s94, x111, he_, ha_w275, h⟩
           refine ⟨b106, s94, x111, he_, ?_⟩
           clear he_
           obtain ⟨B1, B2, B3, B122, B137, B139⟩ := ah6 ha_w275 B1 B2 B3 B122 B137 B139
           obtain ⟨A, X, Y_⟩ := axa3 ha_w275 A X Y_
           replace X : Ext w275 w275 := Ext.refl _
           refine st3_t B122 rfl rfl rfl rfl fun u363 k_u363 B122 => ?_
           obtain ⟨B1, B2, B3, B137, B139⟩ := up5 k_u363 B1 B2 B3 B137 B139 (by omega)
           obtain ⟨A, X, Y_⟩ := axu3 k_u363 g122 A X Y_
           refine st3_t B139 rfl rfl rfl rfl fun u364 k_u364 B139 => ?_
           obtain ⟨B1, B2, B3, B122, B137⟩ := up5 k_u364 B1 B2 B3 B122 B137 (by omega)
           obtain ⟨A, X, Y_⟩ := axu3 k_u364 g139 A X Y_
           refine st3_t B137 rfl rfl rfl rfl fun u365 k_u365 B137 => ?_
           obtain ⟨B1, B2, B3, B122, B139⟩ := up5 k_u365 B1 B2 B3 B122 B139 (by omega)
           obtain ⟨A, X, Y_⟩ := axu3 k_u365 g137 A X Y_
           replace h := h _ X A
           exact ⟨bk122, bk139, bk137, b92, s80, x97, b104, s92, x109, b106, s94, x111, rfl, B122, g122, rfl, B139, g139, rfl, B137, g137, (by omega), (by omega), (by omega), A, h⟩
         ·refine newC_t fun bk140 u366 hb140 ha_u366 _ B140 => ?_
          have g140 := le_eq A.size hb140
          have l1_140 := lt5 hb140 B1 B2 B3 B122 B137
          have y140 := le_eq Y_ hb140
          obtain ⟨B1, B2, B3, B122, B137⟩ := ah5 ha_u366 B1 B2 B3 B122 B137
          obtain ⟨A, X, Y_⟩ := axa3 ha_u366 A X Y_
          refine bb3 ha_u366 ?_
          replace h := h _ X A
          refine Calls.mono h ?_
          clear h
          rintro e110 w278 ⟨b107, s95, x112, he_, ha_w278, h⟩
          refine ⟨b107, s95, x112, he_, ?_⟩
          clear he_
          obtain ⟨B1, B2, B3, B122, B137, B140⟩ := ah6 ha_w278 B1 B2 B3 B122 B137 B140
          obtain ⟨A, X, Y_⟩ := axa3 ha_w278 A X Y_
          replace X : Ext w278 w278 := Ext.refl _
          refine ⟨(Bar.of_ahead ha_w278), ?_⟩
          replace h := h _ X A
          refine Calls.mono h ?_
          clear h
          rintro e111 w280 ⟨b108, s96, x113, he_, ha_w280, h⟩
          refine ⟨b108, s96, x113, he_, ?_⟩
          clear he_
          obtain ⟨B1, B2, B3, B122, B137, B140⟩ := ah6 ha_w280 B1 B2 B3 B122 B137 B140
          obtain ⟨A, X, Y_⟩ := axa3 ha_w280 A X Y_
          replace X : Ext w280 w280 := Ext.refl _
          refine st3_t B122 rfl rfl rfl rfl fun u367 k_u367 B122 => ?_
          obtain ⟨B1, B2, B3, B137, B140⟩ := up5 k_u367 B1 B2 B3 B137 B140 (by omega)
          obtain ⟨A, X, Y_⟩ := axu3 k_u367 g122 A X Y_
          refine st3_t B140 rfl rfl rfl rfl fun u368 k_u368 B140 => ?_
          obtain ⟨B1, B2, B3, B122, B137⟩ := up5 k_u368 B1 B2 B3 B122 B137 (by omega)
          obtain ⟨A, X, Y_⟩ := axu3 k_u368 g140 A X Y_
          refine st3_t B137 rfl rfl rfl rfl fun u369 k_u369 B137 => ?_
          obtain ⟨B1, B2, B3, B122, B140⟩ := up5 k_u369 B1 B2 B3 B122 B140 (by omega)
          obtain ⟨A, X, Y_⟩ := axu3 k_u369 g137 A X Y_
          replace h := h _ X A
          exact ⟨bk122, bk140, bk137, b92, s80, x97, b107, s95, x112, b108, s96, x113, rfl, B122, g122, rfl, B140, g140, rfl, B137, g137, (by omega), (by omega), (by omega), A, h⟩
      ·refine ⟨?_, ?_⟩
       ·refine newC_t fun bk141 u370 hb141 ha_u370 _ B141 => ?_
        have g141 := le_eq A.size hb141
        have l1_141 := lt4 hb141 B1 B2 B3 B122
        have y141 := le_eq Y_ hb141
        obtain ⟨B1, B2, B3, B122⟩ := ah4 ha_u370 B1 B2 B3 B122
        obtain ⟨A, X, Y_⟩ := axa3 ha_u370 A X Y_
        refine bb3 ha_u370 ?_
        refine ⟨?_, ?_⟩
        ·replace h := h _ X A
         refine Calls.mono h ?_
         clear h
         rintro e112 w283 ⟨b109, s97, x114, he_, ha_w283, h⟩
         refine ⟨b109, s97, x114, he_, ?_⟩
         clear he_
         obtain ⟨B1, B2, B3, B122, B141⟩ := ah5 ha_w283 B1 B2 B3 B122 B141
         obtain ⟨A, X, Y_⟩ := axa3 ha_w283 A X Y_
         replace X : Ext w283 w283 := Ext.refl _
         refine bb2 ha_w283 ?_
         refine ⟨?_, ?_⟩
         ·replace h := h _ X A
          refine Calls.mono h ?_
          clear h
          rintro e113 w285 ⟨b110, s98, x115, he_, ha_w285, h⟩
          refine ⟨b110, s98, x115, he_, ?_⟩
          clear he_
          obtain ⟨B1, B2, B3, B122, B141⟩ := ah5 ha_w285 B1 B2 B3 B122 B141
          obtain ⟨A, X, Y_⟩ := axa3 ha_w285 A X Y_
          replace X : Ext w285 w285 := Ext.refl _
          refine ⟨(Bar.of_ahead ha_w285), ?_⟩
          refine ⟨?_, ?_⟩
          ·replace h := h _ X A
           refine Calls.mono h ?_
           clear h
           rintro e114 w287 ⟨b111, s99, x116, he_, ha_w287, h⟩
           refine ⟨b111, s99, x116, he_, ?_⟩
           clear he_
           obtain ⟨B1, B2, B3, B122, B141⟩ := ah5 ha_w287 B1 B2 B3 B122 B141
           obtain ⟨A, X, Y_⟩ := axa3 ha_w287 A X Y_
           replace X : Ext w287 w287 := Ext.refl _
           refine newC_t fun bk142 u371 hb142 ha_u371 _ B142 => ?_
           have g142 := le_eq A.size hb142
           have l1_142 := lt5 hb142 B1 B2 B3 B122 B141
           have y142 := le_eq Y_ hb142
           obtain ⟨B1, B2, B3, B122, B141⟩ := ah5 ha_u371 B1 B2 B3 B122 B141
           obtain ⟨A, X, Y_⟩ := axa3 ha_u371 A X Y_
           refine bb3 ha_u371 ?_
           refine st3_t B122 rfl rfl rfl rfl fun u372 k_u372 B122 => ?_
           obtain ⟨B1, B2, B3, B141, B142⟩ := up5 k_u372 B1 B2 B3 B141 B142 (by omega)
           obtain ⟨A, X, Y_⟩ := axu3 k_u372 g122 A X Y_
           refine st3_t B141 rfl rfl rfl rfl fun u373 k_u373 B141 => ?_
           obtain ⟨B1, B2, B3, B122, B142⟩ := up5 k_u373 B1 B2 B3 B122 B142 (by omega)
           obtain ⟨A, X, Y_⟩ := axu3 k_u373 g141 A X Y_
           refine st3_t B142 rfl rfl rfl rfl fun u374 k_u374 B142 => ?_
           obtain ⟨B1, B2, B3, B122, B141⟩ := up5 k_u374 B1 B2 B3 B122 B141 (by omega)
           obtain ⟨A, X, Y_⟩ := axu3 k_u374 g142 A X Y_
           replace h := h _ X A
           exact ⟨bk122, bk141, bk142, b109, s97, x114, b110, s98, x115, b111, s99, x116, rfl, B122, g122, rfl, B141, g141, rfl, B142, g142, (by omega), (by omega), (by omega), A, h⟩
          ·refine newC_t fun bk143 u375 hb143 ha_u375 _ B143 => ?_
           have g143 := le_eq A.size hb143
           have l1_143 := lt5 hb143 B1 B2 B3 B122 B141
           have y143 := le_eq Y_ hb143
           obtain ⟨B1, B2, B3, B122, B141⟩ := ah5 ha_u375 B1 B2 B3 B122 B141
           obtain ⟨A, X, Y_⟩ := axa3 ha_u375 A X Y_
           refine bb3 ha_u375 ?_
           replace h := h _ X A
           refine Calls.mono h ?_
           clear h
           rintro e115 w290 ⟨b112, s100, x117, he_, ha_w290, h⟩
           refine ⟨b112, s100, x117, he_, ?_⟩
           clear he_
           obtain ⟨B1, B2, B3, B122, B141, B143⟩ := ah6 ha_w290 B1 B2 B3 B122 B141 B143
           obtain ⟨A, X, Y_⟩ := axa3 ha_w290 A X Y_
           replace X : Ext w290 w290 := Ext.refl _
           refine st3_t B122 rfl rfl rfl rfl fun u376 k_u376 B122 => ?_
           obtain ⟨B1, B2, B3, B141, B143⟩ := up5 k_u376 B1 B2 B3 B141 B143 (by omega)
           obtain ⟨A, X, Y_⟩ := axu3 k_u376 g122 A X Y_
           refine st3_t B141 rfl rfl rfl rfl fun u377 k_u377 B141 => ?_
           obtain ⟨B1, B2, B3, B122, B143⟩ := up5 k_u377 B1 B2 B3 B122 B143 (by omega)
           obtain ⟨A, X, Y_⟩ := axu3 k_u377 g141 A X Y_
           refine st3_t B143 rfl rfl rfl rfl fun u378 k_u378 B143 => ?_
           obtain ⟨B1, B2, B3, B122, B141⟩ := up5 k_u378 B1 B2 B3 B122 B141 (by omega)
           obtain ⟨A, X, Y_⟩ := axu3 k_u378 g143 A X Y_
           replace h := h _ X A
           exact ⟨bk122, bk141, bk143, b109, s97, x114, b110, s98, x115, b112, s100, x117, rfl, B122, g122, rfl, B141, g141, rfl, B143, g143, (by omega), (by omega), (by omega), A, h⟩
         ·refine newC_t fun bk144 u379 hb144 ha_u379 _ B144 => ?_
          have g144 := le_eq A.size hb144
          have l1_144 := lt5 hb144 B1 B2 B3 B122 B141
          have y144 := le_eq Y_ hb144
          obtain ⟨B1, B2, B3, B122, B141⟩ := ah5 ha_u379 B1 B2 B3 B122 B141
          obtain ⟨A, X, Y_⟩ := axa3 ha_u379 A X Y_
          refine bb3 ha_u379 ?_
          replace h := h _ X A
          refine Calls.mono h ?_
          clear h
          rintro e116 w293 ⟨b113, s101, x118, he_, ha_w293, h⟩
          refine ⟨b113, s101, x118, he_, ?_⟩
          clear he_
          obtain ⟨B1, B2, B3, B122, B141, B144⟩ := ah6 ha_w293 B1 B2 B3 B122 B141 B144
          obtain ⟨A, X, Y_⟩ := axa3 ha_w293 A X Y_
          replace X : Ext w293 w293 := Ext.refl _
          refine ⟨(Bar.of_ahead ha_w293), ?_⟩
          replace h := h _ X A
          refine Calls.mono h ?_
          clear h
          rintro e117 w295 ⟨b114, s102, x119, he_, ha_w295, h⟩
          refine ⟨b114, s102, x119, he_, ?_⟩
          clear he_
          obtain ⟨B1, B2, B3, B122, B141, B144⟩ := ah6 ha_w295 B1 B2 B3 B122 B141 B144
          obtain ⟨A, X, Y_⟩ := axa3 ha_w295 A X Y_
          replace X : Ext w295 w295 := Ext.refl _
          refine st3_t B122 rfl rfl rfl rfl fun u380 k_u380 B122 => ?_
          obtain ⟨B1, B2, B3, B141, B144⟩ := up5 k_u380 B1 B2 B3 B141 B144 (by omega)
          obtain ⟨A, X, Y_⟩ := axu3 k_u380 g122 A X Y_
          refine st3_t B141 rfl rfl rfl rfl fun u381 k_u381 B141 => ?_
          obtain ⟨B1, B2, B3, B122, B144⟩ := up5 k_u381 B1 B2 B3 B122 B144 (by omega)
          obtain ⟨A, X, Y_⟩ := axu3 k_u381 g141 A X Y_
          refine st3_t B144 rfl rfl rfl rfl fun u382 k_u382 B144 => ?_
          obtain ⟨B1, B2, B3, B122, B141⟩ := up5 k_u382 B1 B2 B3 B122 B141 (by omega)
          obtain ⟨A, X, Y_⟩ := axu3 k_u382 g144 A X Y_
          replace h := h _ X A
          exact ⟨bk122, bk141, bk144, b109, s97, x114, b113, s101, x118, b114, s102, x119, rfl, B122, g122, rfl, B141, g141, rfl, B144, g144, (by omega), (by omega), (by omega), A, h⟩
        ·refine newC_t fun bk145 u383 hb145 ha_u383 _ B145 => ?_
         have g145 := le_eq A.size hb145
         have l1_145 := lt5 hb145 B1 B2 B3 B122 B141
         have y145 := le_eq Y_ hb145
         obtain ⟨B1, B2, B3, B122, B141⟩ := ah5 ha_u383 B1 B2 B3 B122 B141
         obtain ⟨A, X, Y_⟩ := axa3 ha_u383 A X Y_
         refine bb3 ha_u383 ?_
         replace h := h _ X A
         refine Calls.mono h ?_
         clear h
         rintro e118 w298 ⟨b115, s103, x120, he_, ha_w298, h⟩
         refine ⟨b115, s103, x120, he_, ?_⟩
         clear he_
         obtain ⟨B1, B2, B3, B122, B141, B145⟩ := ah6 ha_w298 B1 B2 B3 B122 B141 B145
         obtain ⟨A, X, Y_⟩ := axa3 ha_w298 A X Y_
         replace X : Ext w298 w298 := Ext.refl _
         refine bb2 ha_w298 ?_
         replace h := h _ X A
         refine Calls.mono h ?_
         clear h
         rintro e119 w300 ⟨b116, s104, x121, he_, ha_w300, h⟩
         refine ⟨b116, s104, x121, he_, ?_⟩
         clear he_
         obtain ⟨B1, B2, B3, B122, B141, B145⟩ := ah6 ha_w300 B1 B2 B3 B122 B141 B145
         obtain ⟨A, X, Y_⟩ := axa3 ha_w300 A X Y_
         replace X : Ext w300 w300 := Ext.refl _
         refine ⟨(Bar.of_ahead ha_w300), ?_⟩
         replace h := h _ X A
         refine Calls.mono h ?_
         clear h
         rintro e120 w302 ⟨b117, s105, x122, he_, ha_w302, h⟩
         refine ⟨b117, s105, x122, he_, ?_⟩
         clear he_
         obtain ⟨B1, B2, B3, B122, B141, B145⟩ := ah6 ha_w302 B1 B2 B3 B122 B141 B145
         obtain ⟨A, X, Y_⟩ := axa3 ha_w302 A X Y_
         replace X : Ext w302 w302 := Ext.refl _
         refine st3_t B122 rfl rfl rfl rfl fun u384 k_u384 B122 => ?_
         obtain ⟨B1, B2, B3, B141, B145⟩ := up5 k_u384 B1 B2 B3 B141 B145 (by omega)
         obtain ⟨A, X, Y_⟩ := axu3 k_u384 g122 A X Y_
         refine st3_t B141 rfl rfl rfl rfl fun u385 k_u385 B141 => ?_
         obtain ⟨B1, B2, B3, B122, B145⟩ := up5 k_u385 B1 B2 B3 B122 B145 (by omega)
         obtain ⟨A, X, Y_⟩ := axu3 k_u385 g141 A X Y_
         refine st3_t B145 rfl rfl rfl rfl fun u386 k_u386 B145 => ?_
         obtain ⟨B1, B2, B3, B122, B141⟩ := up5 k_u386 B1 B2 B3 B122 B141 (by omega)
         obtain ⟨A, X, Y_⟩ := axu3 k_u386 g145 A X Y_
         replace h := h _ X A
         exact ⟨bk122, bk141, bk145, b115, s103, x120, b116, s104, x121, b117, s105, x122, rfl, B122, g122, rfl, B141, g141, rfl, B145, g145, (by omega), (by omega), (by omega), A, h⟩
       ·refine newC_t fun bk146 u387 hb146 ha_u387 _ B146 => ?_
        have g146 := le_eq A.size hb146
        have l1_146 := lt4 hb146 B1 B2 B3 B122
        have y146 := le_eq Y_ hb146
        obtain ⟨B1, B2, B3, B122⟩ := ah4 ha_u387 B1 B2 B3 B122
        obtain ⟨A, X, Y_⟩ := axa3 ha_u387 A X Y_
        refine bb3 ha_u387 ?_
        refine ⟨?_, ?_⟩
        ·replace h := h _ X A
         refine Calls.mono h ?_
         clear h
         rintro e121 w305 ⟨b118, s106, x123, he_, ha_w305, h⟩
         refine ⟨b118, s106, x123, he_, ?_⟩
         clear he_
         obtain ⟨B1, B2, B3, B122, B146⟩ := ah5 ha_w305 B1 B2 B3 B122 B146
         obtain ⟨A, X, Y_⟩ := axa3 ha_w305 A X Y_
         replace X : Ext w305 w305 := Ext.refl _
         refine bb2 ha_w305 ?_
         refine ⟨?_, ?_⟩
         ·replace h := h _ X A
          refine Calls.mono h ?_
          clear h
          rintro e122 w307 ⟨b119, s107, x124, he_, ha_w307, h⟩
          refine ⟨b119, s107, x124, he_, ?_⟩
          clear he_
          obtain ⟨B1, B2, B3, B122, B146⟩ := ah5 ha_w307 B1 B2 B3 B122 B146
          obtain ⟨A, X, Y_⟩ := axa3 ha_w307 A X Y_
          replace X : Ext w307 w307 := Ext.refl _
          refine ⟨(Bar.of_ahead ha_w307), ?_⟩
          refine ⟨?_, ?_⟩
          ·replace h := h _ X A
           refine Calls.mono h ?_
           clear h
           rintro e123 w309 ⟨b120, s108, x125, he_, ha_w309, h⟩
           refine ⟨b120, s108, x125, he_, ?_⟩
           clear he_
           obtain ⟨B1, B2, B3, B122, B146⟩ := ah5 ha_w309 B1 B2 B3 B122 B146
           obtain ⟨A, X, Y_⟩ := axa3 ha_w309 A X Y_
           replace X : Ext w309 w309 := Ext.refl _
           refine newC_t fun bk147 u388 hb147 ha_u388 _ B147 => ?_
           have g147 := le_eq A.size hb147
           have l1_147 := lt5 hb147 B1 B2 B3 B122 B146
           have y147 := le_eq Y_ hb147
           obtain ⟨B1, B2, B3, B122, B146⟩ := ah5 ha_u388 B1 B2 B3 B122 B146
           obtain ⟨A, X, Y_⟩ := axa3 ha_u388 A X Y_
           refine bb3 ha_u388 ?_
           refine st3_t B122 rfl rfl rfl rfl fun u389 k_u389 B122 => ?_
           obtain ⟨B1, B2, B3, B146, B147⟩ := up5 k_u389 B1 B2 B3 B146 B147 (by omega)
           obtain ⟨A, X, Y_⟩ := axu3 k_u389 g122 A X Y_
           refine st3_t B147 rfl rfl rfl rfl fun u390 k_u390 B147 => ?_
           obtain ⟨B1, B2, B3, B122, B146⟩ := up5 k_u390 B1 B2 B3 B122 B146 (by omega)
           obtain ⟨A, X, Y_⟩ := axu3 k_u390 g147 A X Y_
           refine st3_t B146 rfl rfl rfl rfl fun u391 k_u391 B146 => ?_
           obtain ⟨B1, B2, B3, B122, B147⟩ := up5 k_u391 B1 B2 B3 B122 B147 (by omega)
           obtain ⟨A, X, Y_⟩ := axu3 k_u391 g146 A X Y_
           replace h := h _ X A
           exact ⟨bk122, bk147, bk146, b118, s106, x123, b119, s107, x124, b120, s108, x125, rfl, B122, g122, rfl, B147, g147, rfl, B146, g146, (by omega), (by omega), (by omega), A, h⟩
          ·refine newC_t fun bk148 u392 hb148 ha_u392 _ B148 => ?_
           have g148 := le_eq A.size hb148
           have l1_148 := lt5 hb148 B1 B2 B3 B122 B146
           have y148 := le_eq Y_ hb148
           obtain ⟨B1, B2, B3, B122, B146⟩ := ah5 ha_u392 B1 B2 B3 B122 B146
           obtain ⟨A, X, Y_⟩ := axa3 ha_u392 A X Y_
           refine bb3 ha_u392 ?_
           replace h := h _ X A
           refine Calls.mono h ?_
           clear h
           rintro e124 w312 ⟨b121, s109, x126, he_, ha_w312, h⟩
           refine ⟨b121, s109, x126, he_, ?_⟩
           clear he_
           obtain ⟨B1, B2, B3, B122, B146, B148⟩ := ah6 ha_w312 B1 B2 B3 B122 B146 B148
           obtain ⟨A, X, Y_⟩ := axa3 ha_w312 A X Y_
           replace X : Ext w312 w312 := Ext.refl _
           refine st3_t B122 rfl rfl rfl rfl fun u393 k_u393 B122 => ?_
           obtain ⟨B1, B2, B3, B146, B148⟩ := up5 k_u393 B1 B2 B3 B146 B148 (by omega)
           obtain ⟨A, X, Y_⟩ := axu3 k_u393 g122 A X Y_
           refine st3_t B148 rfl rfl rfl rfl fun u394 k_u394 B148 => ?_
           obtain ⟨B1, B2, B3, B122, B146⟩ := up5 k_u394 B1 B2 B3 B122 B146 (by omega)
           obtain ⟨A, X, Y_⟩ := axu3 k_u394 g148 A X Y_
           refine st3_t B146 rfl rfl rfl rfl fun u395 k_u395 B146 => ?_
           obtain ⟨B1, B2, B3, B122, B148⟩ := up5 k_u395 B1 B2 B3 B122 B148 (by omega)
           obtain ⟨A, X, Y_⟩ := axu3 k_u395 g146 A X Y_
           replace h := h _ X A
           exact ⟨bk122, bk148, bk146, b118, s106, x123, b119, s107, x124, b121, s109, x126, rfl, B122, g122, rfl, B148, g148, rfl, B146, g146, (by omega), (by omega), (by omega), A, h⟩
         ·refine newC_t fun bk149 u396 hb149 ha_u396 _ B149 => ?_
          have g149 := le_eq A.size hb149
          have l1_149 := lt5 hb149 B1 B2 B3 B122 B146
          have y149 := le_eq Y_ hb149
          obtain ⟨B1, B2, B3, B122, B146⟩ := ah5 ha_u396 B1 B2 B3 B122 B146
          obtain ⟨A, X, Y_⟩ := axa3 ha_u396 A X Y_
          refine bb3 ha_u396 ?_
          replace h := h _ X A
          refine Calls.mono h ?_
          clear h
          rintro e125 w315 ⟨b122, s110, x127, he_, ha_w315, h⟩
          refine ⟨b122, s110, x127, he_, ?_⟩
          clear he_
          obtain ⟨B1, B2, B3, B122, B146, B149⟩ := ah6 ha_w315 B1 B2 B3 B122 B146 B149
          obtain ⟨A, X, Y_⟩ := axa3 ha_w315 A X Y_
          replace X : Ext w315 w315 := Ext.refl _
          refine ⟨(Bar.of_ahead ha_w315), ?_⟩
          replace h := h _ X A
          refine Calls.mono h ?_
          clear h
          rintro e126 w317 ⟨b123, s111, x128, he_, ha_w317, h⟩
          refine ⟨b123, s111, x128, he_, ?_⟩
          clear he_
          obtain ⟨B1, B2, B3, B122, B146, B149⟩ := ah6 ha_w317 B1 B2 B3 B122 B146 B149
          obtain ⟨A, X, Y_⟩ := axa3 ha_w317 A X Y_
          replace X : Ext w317 w317 := Ext.refl _
          refine st3_t B122 rfl rfl rfl rfl fun u397 k_u397 B122 => ?_
          obtain ⟨B1, B2, B3, B146, B149⟩ := up5 k_u397 B1 B2 B3 B146 B149 (by omega)
          obtain ⟨A, X, Y_⟩ := axu3 k_u397 g122 A X Y_
          refine st3_t B149 rfl rfl rfl rfl fun u398 k_u398 B149 => ?_
          obtain ⟨B1, B2, B3, B122, B146⟩ := up5 k_u398 B1 B2 B3 B122 B146 (by omega)
          obtain ⟨A, X, Y_⟩ := axu3 k_u398 g149 A X Y_
          refine st3_t B146 rfl rfl rfl rfl fun u399 k_u399 B146 => ?_
          obtain ⟨B1, B2, B3, B122, B149⟩ := up5 k_u399 B1 B2 B3 B122 B149 (by omega)
          obtain ⟨A, X, Y_⟩ := axu3 k_u399 g146 A X Y_
          replace h := h _ X A
          exact ⟨bk122, bk149, bk146, b118, s106, x123, b122, s110, x127, b123, s111, x128, rfl, B122, g122, rfl, B149, g149, rfl, B146, g146, (by omega), (by omega), (by omega), A, h⟩
        ·refine newC_t fun bk150 u400 hb150 ha_u400 _ B150 => ?_
         have g150 := le_eq A.size hb150
         have l1_150 := lt5 hb150 B1 B2 B3 B122 B146
         have y150 := le_eq Y_ hb150
         obtain ⟨B1, B2, B3, B122, B146⟩ := ah5 ha_u400 B1 B2 B3 B122 B146
         obtain ⟨A, X, Y_⟩ := axa3 ha_u400 A X Y_
         refine bb3 ha_u400 ?_
         replace h := h _ X A
         refine Calls.mono h ?_
         clear h
         rintro e127 w320 ⟨b124, s112, x129, he_, ha_w320, h⟩
         refine ⟨b124, s112, x129, he_, ?_⟩
         clear he_
         obtain ⟨B1, B2, B3, B122, B146, B150⟩ := ah6 ha_w320 B1 B2 B3 B122 B146 B150
         obtain ⟨A, X, Y_⟩ := axa3 ha_w320 A X Y_
         replace X : Ext w320 w320 := Ext.refl _
         refine bb2 ha_w320 ?_
         replace h := h _ X A
         refine Calls.mono h ?_
         clear h
         rintro e128 w322 ⟨b125, s113, x130, he_, ha_w322, h⟩
         refine ⟨b125, s113, x130, he_, ?_⟩
         clear he_
         obtain ⟨B1, B2, B3, B122, B146, B150⟩ := ah6 ha_w322 B1 B2 B3 B122 B146 B150
         obtain ⟨A, X, Y_⟩ := axa3 ha_w322 A X Y_
         replace X : Ext w322 w322 := Ext.refl _
         refine ⟨(Bar.of_ahead ha_w322), ?_⟩
         replace h := h _ X A
         refine Calls.mono h ?_
         clear h
         rintro e129 w324 ⟨b126, s114, x131, he_, ha_w324, h⟩
         refine ⟨b126, s114, x131, he_, ?_⟩
         clear he_
         obtain ⟨B1, B2, B3, B122, B146, B150⟩ := ah6 ha_w324 B1 B2 B3 B122 B146 B150
         obtain ⟨A, X, Y_⟩ := axa3 ha_w324 A X Y_
         replace X : Ext w324 w324 := Ext.refl _
         refine st3_t B122 rfl rfl rfl rfl fun u401 k_u401 B122 => ?_
         obtain ⟨B1, B2, B3, B146, B150⟩ := up5 k_u401 B1 B2 B3 B146 B150 (by omega)
         obtain ⟨A, X, Y_⟩ := axu3 k_u401 g122 A X Y_
         refine st3_t B150 rfl rfl rfl rfl fun u402 k_u402 B150 => ?_
         obtain ⟨B1, B2, B3, B122, B146⟩ := up5 k_u402 B1 B2 B3 B122 B146 (by omega)
         obtain ⟨A, X, Y_⟩ := axu3 k_u402 g150 A X Y_
         refine st3_t B146 rfl rfl rfl rfl fun u403 k_u403 B146 => ?_
         obtain ⟨B1, B2, B3, B122, B150⟩ := up5 k_u403 B1 B2 B3 B122 B150 (by omega)
         obtain ⟨A, X, Y_⟩ := axu3 k_u403 g146 A X Y_
         replace h := h _ X A
         exact ⟨bk122, bk150, bk146, b124, s112, x129, b125, s113, x130, b126, s114, x131, rfl, B122, g122, rfl, B150, g150, rfl, B146, g146, (by omega), (by omega), (by omega), A, h⟩
     ·refine ⟨?_, ?_⟩
      ·refine newC_t fun bk151 u404 hb151 ha_u404 _ B151 => ?_
       have g151 := le_eq A.size hb151
       have l1_151 := lt3 hb151 B1 B2 B3
       have y151 := le_eq Y_ hb151
       obtain ⟨B1, B2, B3⟩ := ah3 ha_u404 B1 B2 B3
       obtain ⟨A, X, Y_⟩ := axa3 ha_u404 A X Y_
       refine bb3 ha_u404 ?_
       refine ⟨?_, ?_⟩
       ·replace h := h _ X A
        refine Calls.mono h ?_
        clear h
        rintro e130 w327 ⟨b127, s115, x132, he_, ha_w327, h⟩
        refine ⟨b127, s115, x132, he_, ?_⟩
        clear he_
        obtain ⟨B1, B2, B3, B151⟩ := ah4 ha_w327 B1 B2 B3 B151
        obtain ⟨A, X, Y_⟩ := axa3 ha_w327 A X Y_
        replace X : Ext w327 w327 := Ext.refl _
        refine bb2 ha_w327 ?_
        refine ⟨?_, ?_⟩
        ·replace h := h _ X A
         refine Calls.mono h ?_
         clear h
         rintro e131 w329 ⟨b128, s116, x133, he_, ha_w329, h⟩
         refine ⟨b128, s116, x133, he_, ?_⟩
         clear he_
         obtain ⟨B1, B2, B3, B151⟩ := ah4 ha_w329 B1 B2 B3 B151
         obtain ⟨A, X, Y_⟩ := axa3 ha_w329 A X Y_
         replace X : Ext w329 w329 := Ext.refl _
         refine ⟨(Bar.of_ahead ha_w329), ?_⟩
         refine ⟨?_, ?_⟩
         ·replace h := h _ X A
          refine Calls.mono h ?_
          clear h
          rintro e132 w331 ⟨b129, s117, x134, he_, ha_w331, h⟩
          refine ⟨b129, s117, x134, he_, ?_⟩
          clear he_
          obtain ⟨B1, B2, B3, B151⟩ := ah4 ha_w331 B1 B2 B3 B151
          obtain ⟨A, X, Y_⟩ := axa3 ha_w331 A X Y_
          replace X : Ext w331 w331 := Ext.refl _
          refine ⟨?_, ?_⟩
          ·refine newC_t fun bk152 u405 hb152 ha_u405 _ B152 => ?_
           have g152 := le_eq A.size hb152
           have l1_152 := lt4 hb152 B1 B2 B3 B151
           have y152 := le_eq Y_ hb152
           obtain ⟨B1, B2, B3, B151⟩ := ah4 ha_u405 B1 B2 B3 B151
           obtain ⟨A, X, Y_⟩ := axa3 ha_u405 A X Y_
           refine bb3 ha_u405 ?_
           refine newC_t fun bk153 u406 hb153 ha_u406 _ B153 => ?_
           have g153 := le_eq A.size hb153
           have l1_153 := lt5 hb153 B1 B2 B3 B151 B152
           have y153 := le_eq Y_ hb153
           obtain ⟨B1, B2, B3, B151, B152⟩ := ah5 ha_u406 B1 B2 B3 B151 B152
           obtain ⟨A, X, Y_⟩ := axa3 ha_u406 A X Y_
           refine bb3 ha_u406 ?_
           refine st3_t B152 rfl rfl rfl rfl fun u407 k_u407 B152 => ?_
           obtain ⟨B1, B2, B3, B151, B153⟩ := up5 k_u407 B1 B2 B3 B151 B153 (by omega)
           obtain ⟨A, X, Y_⟩ := axu3 k_u407 g152 A X Y_
           refine st3_t B151 rfl rfl rfl rfl fun u408 k_u408 B151 => ?_
           obtain ⟨B1, B2, B3, B152, B153⟩ := up5 k_u408 B1 B2 B3 B152 B153 (by omega)
           obtain ⟨A, X, Y_⟩ := axu3 k_u408 g151 A X Y_
           refine st3_t B153 rfl rfl rfl rfl fun u409 k_u409 B153 => ?_
           obtain ⟨B1, B2, B3, B151, B152⟩ := up5 k_u409 B1 B2 B3 B151 B152 (by omega)
           obtain ⟨A, X, Y_⟩ := axu3 k_u409 g153 A X Y_
           replace h := h _ X A
           exact ⟨bk152, bk151, bk153, b127, s115, x132, b128, s116, x133, b129, s117, x134, rfl, B152, g152, rfl, B151, g151, rfl, B153, g153, (by omega), (by omega), (by omega), A, h⟩
          ·refine newC_t fun bk154 u410 hb154 ha_u410 _ B154 => ?_
           have g154 := le_eq A.size hb154
           have l1_154 := lt4 hb154 B1 B2 B3 B151
           have y154 := le_eq Y_ hb154
           obtain ⟨B1, B2, B3, B151⟩ := ah4 ha_u410 B1 B2 B3 B151
           obtain ⟨A, X, Y_⟩ := axa3 ha_u410 A X Y_
           refine bb3 ha_u410 ?_
           refine newC_t fun bk155 u411 hb155 ha_u411 _ B155 => ?_
           have g155 := le_eq A.size hb155
           have l1_155 := lt5 hb155 B1 B2 B3 B151 B154
           have y155 := le_eq Y_ hb155
           obtain ⟨B1, B2, B3, B151, B154⟩ := ah5 ha_u411 B1 B2 B3 B151 B154
           obtain ⟨A, X, Y_⟩ := axa3 ha_u411 A X Y_
           refine bb3 ha_u411 ?_
           refine st3_t B155 rfl rfl rfl rfl fun u412 k_u412 B155 => ?_
           obtain ⟨B1, B2, B3, B151, B154⟩ := up5 k_u412 B1 B2 B3 B151 B154 (by omega)
           obtain ⟨A, X, Y_⟩ := axu3 k_u412 g155 A X Y_
           refine st3_t B151 rfl rfl rfl rfl fun u413 k_u413 B151 => ?_
           obtain ⟨B1, B2, B3, B154, B155⟩ := up5 k_u413 B1 B2 B3 B154 B155 (by omega)
           obtain ⟨A, X, Y_⟩ := axu3 k_u413 g151 A X Y_
           refine st3_t B154 rfl rfl rfl rfl fun u414 k_u414 B154 => ?_
           obtain ⟨B1, B2, B3, B151, B155⟩ := up5 k_u414 B1 B2 B3 B151 B155 (by omega)
           obtain ⟨A, X, Y_⟩ := axu3 k_u414 g154 A X Y_
           replace h := h _ X A
           exact ⟨bk155, bk151, bk154, b127, s115, x132, b128, s116, x133, b129, s117, x134, rfl, B155, g155, rfl, B151, g151, rfl, B154, g154, (by omega), (by omega), (by omega), A, h⟩
         ·refine ⟨?_, ?_⟩
          ·refine newC_t fun bk156 u415 hb156 ha_u415 _ B156 => ?_
           have g156 := le_eq A.size hb156
           have l1_156 := lt4 hb156 B1 B2 B3 B151
           have y156 := le_eq Y_ hb156
           obtain ⟨B1, B2, B3, B151⟩ := ah4 ha_u415 B1 B2 B3 B151
           obtain ⟨A, X, Y_⟩ := axa3 ha_u415 A X Y_
           refine bb3 ha_u415 ?_
           refine ⟨?_, ?_⟩
           ·replace h := h _ X A
            refine Calls.mono h ?_
            clear h
            rintro e133 w335 ⟨b130, s118, x135, he_, ha_w335, h⟩
            refine ⟨b130, s118, x135, he_, ?_⟩
            clear he_
            obtain ⟨B1, B2, B3, B151, B156⟩ := ah5 ha_w335 B1 B2 B3 B151 B156
            obtain ⟨A, X, Y_⟩ := axa3 ha_w335 A X Y_
            replace X : Ext w335 w335 := Ext.refl _
            refine newC_t fun bk157 u416 hb157 ha_u416 _ B157 => ?_
            have g157 := le_eq A.size hb157
            have l1_157 := lt5 hb157 B1 B2 B3 B151 B156
            have y157 := le_eq Y_ hb157
            obtain ⟨B1, B2, B3, B151, B156⟩ := ah5 ha_u416 B1 B2 B3 B151 B156
            obtain ⟨A, X, Y_⟩ := axa3 ha_u416 A X Y_
            refine bb3 ha_u416 ?_
            refine st3_t B156 rfl rfl rfl rfl fun u417 k_u417 B156 => ?_
            obtain ⟨B1, B2, B3, B151, B157⟩ := up5 k_u417 B1 B2 B3 B151 B157 (by omega)
            obtain ⟨A, X, Y_⟩ := axu3 k_u417 g156 A X Y_
            refine st3_t B151 rfl rfl rfl rfl fun u418 k_u418 B151 => ?_
            obtain ⟨B1, B2, B3, B156, B157⟩ := up5 k_u418 B1 B2 B3 B156 B157 (by omega)
            obtain ⟨A, X, Y_⟩ := axu3 k_u418 g151 A X Y_
            refine st3_t B157 rfl rfl rfl rfl fun u419 k_u419 B157 => ?_
            obtain ⟨B1, B2, B3, B151, B156⟩ := up5 k_u419 B1 B2 B3 B151 B156 (by omega)
            obtain ⟨A, X, Y_⟩ := axu3 k_u419 g157 A X Y_
            replace h := h _ X A
            exact ⟨bk156, bk151, bk157, b127, s115, x132, b128, s116, x133, b130, s118, x135, rfl, B156, g156, rfl, B151, g151, rfl, B157, g157, (by omega), (by omega), (by omega), A, h⟩
           ·refine newC_t fun bk158 u420 hb158 ha_u420 _ B158 => ?_
            have g158 := le_eq A.size hb158
            have l1_158 := lt5 hb158 B1 B2 B3 B151 B156
            have y158 := le_eq Y_ hb158
            obtain ⟨B1, B2, B3, B151, B156⟩ := ah5 ha_u420 B1 B2 B3 B151 B156
            obtain ⟨A, X, Y_⟩ := axa3 ha_u420 A X Y_
            refine bb3 ha_u420 ?_
            replace h := h _ X A
            refine Calls.mono h ?_
            clear h
            rintro e134 w338 ⟨b131, s119, x136, he_, ha_w338, h⟩
            refine ⟨b131, s119, x136, he_, ?_⟩
            clear he_
            obtain ⟨B1, B2, B3, B151, B156, B158⟩ := ah6 ha_w338 B1 B2 B3 B151 B156 B158
            obtain ⟨A, X, Y_⟩ := axa3 ha_w338 A X Y_
            replace X : Ext w338 w338 := Ext.refl _
            refine st3_t B156 rfl rfl rfl rfl fun u421 k_u421 B156 => ?_
            obtain ⟨B1, B2, B3, B151, B158⟩ := up5 k_u421 B1 B2 B3 B151 B158 (by omega)
            obtain ⟨A, X, Y_⟩ := axu3 k_u421 g156 A X Y_
            refine st3_t B151 rfl rfl rfl rfl fun u422 k_u422 B151 => ?_
            obtain ⟨B1, B2, B3, B156, B158⟩ := up5 k_u422 B1 B2 B3 B156 B158 (by omega)
            obtain ⟨A, X, Y_⟩ := axu3 k_u422 g151 A X Y_
            refine st3_t B158 rfl rfl rfl rfl fun u423 k_u423 B158 => ?_
            obtain ⟨B1, B2, B3, B151, B156⟩ := up5 k_u423 B1 B2 B3 B151 B156 (by omega)
            obtain ⟨A, X, Y_⟩ := axu3 k_u423 g158 A X Y_
            replace h := h _ X A
            exact ⟨bk156, bk151, bk158, b127, s115, x132, b128, s116, x133, b131, s119, x136, rfl, B156, g156, rfl, B151, g151, rfl, B158, g158, (by omega), (by omega), (by omega), A, h⟩
          ·refine newC_t fun bk159 u424 hb159 ha_u424 _ B159 => ?_
           have g159 := le_eq A.size hb159
           have l1_159 := lt4 hb159 B1 B2 B3 B151
           have y159 := le_eq Y_ hb159
           obtain ⟨B1, B2, B3, B151⟩ := ah4 ha_u424 B1 B2 B3 B151
           obtain ⟨A, X, Y_⟩ := axa3 ha_u424 A X Y_
           refine bb3 ha_u424 ?_
           refine ⟨?_, ?_⟩
           ·replace h := h _ X A
            refine Calls.mono h ?_
            clear h
            rintro e135 w341 ⟨b132, s120, x137, he_, ha_w341, h⟩
            refine ⟨b132, s120, x137, he_, ?_⟩
            clear he_
            obtain ⟨B1, B2, B3, B151, B159⟩ := ah5 ha_w341 B1 B2 B3 B151 B159
            obtain ⟨A, X, Y_⟩ := axa3 ha_w341 A X Y_
            replace X : Ext w341 w341 := Ext.refl _
            refine newC_t fun bk160 u425 hb160 ha_u425 _ B160 => ?_
            have g160 := le_eq A.size hb160
            have l1_160 := lt5 hb160 B1 B2 B3 B151 B159
            have y160 := le_eq Y_ hb160
            obtain ⟨B1, B2, B3, B151, B159⟩ := ah5 ha_u425 B1 B2 B3 B151 B159
            obtain ⟨A, X, Y_⟩ := axa3 ha_u425 A X Y_
            refine bb3 ha_u425 ?_
            refine st3_t B160 rfl rfl rfl rfl fun u426 k_u426 B160 => ?_
            obtain ⟨B1, B2, B3, B151, B159⟩ := up5 k_u426 B1 B2 B3 B151 B159 (by omega)
            obtain ⟨A, X, Y_⟩ := axu3 k_u426 g160 A X Y_
            refine st3_t B151 rfl rfl rfl rfl fun u427 k_u427 B151 => ?_
            obtain ⟨B1, B2, B3, B159, B160⟩ := up5 k_u427 B1 B2 B3 B159 B160 (by omega)
            obtain ⟨A, X, Y_⟩ := axu3 k_u427 g151 A X Y_
            refine st3_t B159 rfl rfl rfl rfl fun u428 k_u428 B159 => ?_
            obtain ⟨B1, B2, B3, B151, B160⟩ := up5 k_u428 B1 B2 B3 B151 B160 (by omega)
            obtain ⟨A, X, Y_⟩ := axu3 k_u428 g159 A X Y_
            replace h := h _ X A
            exact ⟨bk160, bk151, bk159, b127, s115, x132, b128, s116, x133, b132, s120, x137, rfl, B160, g160, rfl, B151, g151, rfl, B159, g159, (by omega), (by omega), (by omega), A, h⟩
           ·refine newC_t fun bk161 u429 hb161 ha_u429 _ B161 => ?_
            have g161 := le_eq A.size hb161
            have l1_161 := lt5 hb161 B1 B2 B3 B151 B159
            have y161 := le_eq Y_ hb161
            obtain ⟨B1, B2, B3, B151, B159⟩ := ah5 ha_u429 B1 B2 B3 B151 B159
            obtain ⟨A, X, Y_⟩ := axa3 ha_u429 A X Y_
            refine bb3 ha_u429 ?_
            replace h := h _ X A
            refine Calls.mono h ?_
            clear h
            rintro e136 w344 ⟨b133, s121, x138, he_, ha_w344, h⟩
            refine ⟨b133, s121, x138, he_, ?_⟩
            clear he_
            obtain ⟨B1, B2, B3, B151, B159, B161⟩ := ah6 ha_w344 B1 B2 B3 B151 B159 B161
            obtain ⟨A, X, Y_⟩ := axa3 ha_w344 A X Y_
            replace X : Ext w344 w344 := Ext.refl _
            refine st3_t B161 rfl rfl rfl rfl fun u430 k_u430 B161 => ?_
            obtain ⟨B1, B2, B3, B151, B159⟩ := up5 k_u430 B1 B2 B3 B151 B159 (by omega)
            obtain ⟨A, X, Y_⟩ := axu3 k_u430 g161 A X Y_
            refine st3_t B151 rfl rfl rfl rfl fun u431 k_u431 B151 => ?_
            obtain ⟨B1, B2, B3, B159, B161⟩ := up5 k_u431 B1 B2 B3 B159 B161 (by omega)
            obtain ⟨A, X, Y_⟩ := axu3 k_u431 g151 A X Y_
            refine st3_t B159 rfl rfl rfl rfl fun u432 k_u432 B159 => ?_
            obtain ⟨B1, B2, B3, B151, B161⟩ := up5 k_u432 B1 B2 B3 B151 B161 (by omega)
            obtain ⟨A, X, Y_⟩ := axu3 k_u432 g159 A X Y_
            replace h := h _ X A
            exact ⟨bk161, bk151, bk159, b127, s115, x132, b128, s116, x133, b133, s121, x138, rfl, B161, g161, rfl, B151, g151, rfl, B159, g159, (by omega), (by omega), (by omega), A, h⟩
        ·refine ⟨?_, ?_⟩
         ·refine newC_t fun bk162 u433 hb162 ha_u433 _ B162 => ?_
          have g162 := le_eq A.size hb162
          have l1_162 := lt4 hb162 B1 B2 B3 B151
          have y162 := le_eq Y_ hb162
          obtain ⟨B1, B2, B3, B151⟩ := ah4 ha_u433 B1 B2 B3 B151
          obtain ⟨A, X, Y_⟩ := axa3 ha_u433 A X Y_
          refine bb3 ha_u433 ?_
          refine ⟨?_, ?_⟩
          ·replace h := h _ X A
           refine Calls.mono h ?_
           clear h
           rintro e137 w347 ⟨b134, s122, x139, he_, ha_w347, h⟩
           refine ⟨b134, s122, x139, he_, ?_⟩
           clear he_
           obtain ⟨B1, B2, B3, B151, B162⟩ := ah5 ha_w347 B1 B2 B3 B151 B162
           obtain ⟨A, X, Y_⟩ := axa3 ha_w347 A X Y_
           replace X : Ext w347 w347 := Ext.refl _
           refine ⟨(Bar.of_ahead ha_w347), ?_⟩
           refine ⟨?_, ?_⟩
           ·replace h := h _ X A
            refine Calls.mono h ?_
            clear h
            rintro e138 w349 ⟨b135, s123, x140, he_, ha_w349, h⟩
            refine ⟨b135, s123, x140, he_, ?_⟩
            clear he_
            obtain ⟨B1, B2, B3, B151, B162⟩ := ah5 ha_w349 B1 B2 B3 B151 B162
            obtain ⟨A, X, Y_⟩ := axa3 ha_w349 A X Y_
            replace X : Ext w349 w349 := Ext.refl _
            refine newC_t fun bk163 u434 hb163 ha_u434 _ B163 => ?_
            have g163 := le_eq A.size hb163
            have l1_163 := lt5 hb163 B1 B2 B3 B151 B162
            have y163 := le_eq Y_ hb163
            obtain ⟨B1, B2, B3, B151, B162⟩ := ah5 ha_u434 B1 B2 B3 B151 B162
            obtain ⟨A, X, Y_⟩ := axa3 ha_u434 A X Y_
            refine bb3 ha_u434 ?_
            refine st3_t B162 rfl rfl rfl rfl fun u435 k_u435 B162 => ?_
            obtain ⟨B1, B2, B3, B151, B163⟩ := up5 k_u435 B1 B2 B3 B151 B163 (by omega)
            obtain ⟨A, X, Y_⟩ := axu3 k_u435 g162 A X Y_
            refine st3_t B151 rfl rfl rfl rfl fun u436 k_u436 B151 => ?_
            obtain ⟨B1, B2, B3, B162, B163⟩ := up5 k_u436 B1 B2 B3 B162 B163 (by omega)
            obtain ⟨A, X, Y_⟩ := axu3 k_u436 g151 A X Y_
            refine st3_t B163 rfl rfl rfl rfl fun u437 k_u437 B163 => ?_
            obtain ⟨B1, B2, B3, B151, B162⟩ := up5 k_u437 B1 B2 B3 B151 B162 (by omega)
            obtain ⟨A, X, Y_⟩ := axu3 k_u437 g163 A X Y_
            replace h := h _ X A
            exact ⟨bk162, bk151, bk163, b127, s115, x132, b134, s122, x139, b135, s123, x140, rfl, B162, g162, rfl, B151, g151, rfl, B163, g163, (by omega), (by omega), (by omega), A, h⟩
           ·refine newC_t fun bk164 u438 hb164 ha_u438 _ B164 => ?_
            have g164 := le_eq A.size hb164
            have l1_164 := lt5 hb164 B1 B2 B3 B151 B162
            have y164 := le_eq Y_ hb164
            obtain ⟨B1, B2, B3, B151, B162⟩ := ah5 ha_u438 B1 B2 B3 B151 B162
            obtain ⟨A, X, Y_⟩ := axa3 ha_u438 A X Y_
            refine bb3 ha_u438 ?_
            replace h := h _ X A
            refine Calls.mono h ?_
            clear h
            rintro e139 w352 ⟨b136, s124, x141, he_, ha_w352, h⟩
            refine ⟨b136, s124, x141, he_, ?_⟩
            clear he_
            obtain ⟨B1, B2, B3, B151, B162, B164⟩ := ah6 ha_w352 B1 B2 B3 B151 B162 B164
            obtain ⟨A, X, Y_⟩ := axa3 ha_w352 A X Y_
            replace X : Ext w352 w352 := Ext.refl _
            refine st3_t B162 rfl rfl rfl rfl fun u439 k_u439 B162 => ?_
            obtain ⟨B1, B2, B3, B151, B164⟩ := up5 k_u439 B1 B2 B3 B151 B164 (by omega)
            obtain ⟨A, X, Y_⟩ := axu3 k_u439 g162 A X Y_
            refine st3_t B151 rfl rfl rfl rfl fun u440 k_u440 B151 => ?_
            obtain ⟨B1, B2, B3, B162, B164⟩ := up5 k_u440 B1 B2 B3 B162 B164 (by omega)
            obtain ⟨A, X, Y_⟩ := axu3 k_u440 g151 A X Y_
            refine st3_t B164 rfl rfl rfl rfl fun u441 k_u441 B164 => ?_
            obtain ⟨B1, B2, B3, B151, B162⟩ := up5 k_u441 B1 B2 B3 B151 B162 (by omega)
            obtain ⟨A, X, Y_⟩ := axu3 k_u441 g164 A X Y_
            replace h := h _ X A
            exact ⟨bk162, bk151, bk164, b127, s115, x132, b134, s122, x139, b136, s124, x141, rfl, B162, g162, rfl, B151, g151, rfl, B164, g164, (by omega), (by omega), (by omega), A, h⟩
          ·refine newC_t fun bk165 u442 hb165 ha_u442 _ B165 => ?_
           have g165 := le_eq A.size hb165
           have l1_165 := lt5 hb165 B1 B2 B3 B151 B162
           have y165 := le_eq Y_ hb165
           obtain ⟨B1, B2, B3, B151, B162⟩ := ah5 ha_u442 B1 B2 B3 B151 B162
           obtain ⟨A, X, Y_⟩ := axa3 ha_u442 A X Y_
           refine bb3 ha_u442 ?_
           replace h := h _ X A
           refine Calls.mono h ?_
           clear h
           rintro e140 w355 ⟨b137, s125, x142, he_, ha_w355, h⟩
           refine ⟨b137, s125, x142, he_, ?_⟩
           clear he_
           obtain ⟨B1, B2, B3, B151, B162, B165⟩ := ah6 ha_w355 B1 B2 B3 B151 B162 B165
           obtain ⟨A, X, Y_⟩ := axa3 ha_w355 A X Y_
           replace X : Ext w355 w355 := Ext.refl _
           refine ⟨(Bar.of_ahead ha_w355), ?_⟩
           replace h := h _ X A
           refine Calls.mono h ?_
           clear h
           rintro e141 w357 ⟨b138, s126, x143, he_, ha_w357, h⟩
           refine ⟨b138, s126, x143, he_, ?_⟩
           clear he_
           obtain ⟨B1, B2, B3, B151, B162, B165⟩ := ah6 ha_w357 B1 B2 B3 B151 B162 B165
           obtain ⟨A, X, Y_⟩ := axa3 ha_w357 A X Y_
           replace X : Ext w357 w357 := Ext.refl _
           refine st3_t B162 rfl rfl rfl rfl fun u443 k_u443 B162 => ?_
           obtain ⟨B1, B2, B3, B151, B165⟩ := up5 k_u443 B1 B2 B3 B151 B165 (by omega)
           obtain ⟨A, X, Y_⟩ := axu3 k_u443 g162 A X Y_
           refine st3_t B151 rfl rfl rfl rfl fun u444 k_u444 B151 => ?_
           obtain ⟨B1, B2, B3, B162, B165⟩ := up5 k_u444 B1 B2 B3 B162 B165 (by omega)
           obtain ⟨A, X, Y_⟩ := axu3 k_u444 g151 A X Y_
           refine st3_t B165 rfl rfl rfl rfl fun u445 k_u445 B165 => ?_
           obtain ⟨B1, B2, B3, B151, B162⟩ := up5 k_u445 B1 B2 B3 B151 B162 (by omega)
           obtain ⟨A, X, Y_⟩ := axu3 k_u445 g165 A X Y_
           replace h := h _ X A
           exact ⟨bk162, bk151, bk165, b127, s115, x132, b137, s125, x142, b138, s126, x143, rfl, B162, g162, rfl, B151, g151, rfl, B165, g165, (by omega), (by omega), (by omega), A, h⟩
         ·refine newC_t fun bk166 u446 hb166 ha_u446 _ B166 => ?_
          have g166 := le_eq A.size hb166
          have l1_166 := lt4 hb166 B1 B2 B3 B151
          have y166 := le_eq Y_ hb166
          obtain ⟨B1, B2, B3, B151⟩ := ah4 ha_u446 B1 B2 B3 B151
          obtain ⟨A, X, Y_⟩ := axa3 ha_u446 A X Y_
          refine bb3 ha_u446 ?_
          refine ⟨?_, ?_⟩
          ·replace h := h _ X A
           refine Calls.mono h ?_
           clear h
           rintro e142 w360 ⟨b139, s127, x144, he_, ha_w360, h⟩
           refine ⟨b139, s127, x144, he_, ?_⟩
           clear he_
           obtain ⟨B1, B2, B3, B151, B166⟩ := ah5 ha_w360 B1 B2 B3 B151 B166
           obtain ⟨A, X, Y_⟩ := axa3 ha_w360 A X Y_
           replace X : Ext w360 w360 := Ext.refl _
           refine ⟨(Bar.of_ahead ha_w360), ?_⟩
           refine ⟨?_, ?_⟩
           ·replace h := h _ X A
            refine Calls.mono h ?_
            clear h
            rintro e143 w362 ⟨b140, s128, x145, he_, ha_w362, h⟩
            refine ⟨b140, s128, x145, he_, ?_⟩
            clear he_
            obtain ⟨B1, B2, B3, B151, B166⟩ := ah5 ha_w362 B1 B2 B3 B151 B166
            obtain ⟨A, X, Y_⟩ := axa3 ha_w362 A X Y_
            replace X : Ext w362 w362 := Ext.refl _
            refine newC_t fun bk167 u447 hb167 ha_u447 _ B167 => ?_
            have g167 := le_eq A.size hb167
            have l1_167 := lt5 hb167 B1 B2 B3 B151 B166
            have y167 := le_eq Y_ hb167
            obtain ⟨B1, B2, B3, B151, B166⟩ := ah5 ha_u447 B1 B2 B3 B151 B166
            obtain ⟨A, X, Y_⟩ := axa3 ha_u447 A X Y_
            refine bb3 ha_u447 ?_
            refine st3_t B167 rfl rfl rfl rfl fun u448 k_u448 B167 => ?_
            obtain ⟨B1, B2, B3, B151, B166⟩ := up5 k_u448 B1 B2 B3 B151 B166 (by omega)
            obtain ⟨A, X, Y_⟩ := axu3 k_u448 g167 A X Y_
            refine st3_t B151 rfl rfl rfl rfl fun u449 k_u449 B151 => ?_
            obtain ⟨B1, B2, B3, B166, B167⟩ := up5 k_u449 B1 B2 B3 B166 B167 (by omega)
            obtain ⟨A, X, Y_⟩ := axu3 k_u449 g151 A X Y_
            refine st3_t B166 rfl rfl rfl rfl fun u450 k_u450 B166 => ?_
            obtain ⟨B1, B2, B3, B151, B167⟩ := up5 k_u450 B1 B2 B3 B151 B167 (by omega)
            obtain ⟨A, X, Y_⟩ := axu3 k_u450 g166 A X Y_
            replace h := h _ X A
            exact ⟨bk167, bk151, bk166, b127, s115, x132, b139, s127, x144, b140, s128, x145, rfl, B167, g167, rfl, B151, g151, rfl, B166, g166, (by omega), (by omega), (by omega), A, h⟩
           ·refine newC_t fun bk168 u451 hb168 ha_u451 _ B168 => ?_
            have g168 := le_eq A.size hb168
            have l1_168 := lt5 hb168 B1 B2 B3 B151 B166
            have y168 := le_eq Y_ hb168
            obtain ⟨B1, B2, B3, B151, B166⟩ := ah5 ha_u451 B1 B2 B3 B151 B166
            obtain ⟨A, X, Y_⟩ := axa3 ha_u451 A X Y_
            refine bb3 ha_u451 ?_
            replace h := h _ X A
            refine Calls.mono h ?_
            clear h
            rintro e144 w365 ⟨b141, s129, x146, he_, ha_w365, h⟩
            refine ⟨b141, s129, x146, he_, ?_⟩
            clear he_
            obtain ⟨B1, B2, B3, B151, B166, B168⟩ := ah6 ha_w365 B1 B2 B3 B151 B166 B168
            obtain ⟨A, X, Y_⟩ := axa3 ha_w365 A X Y_
            replace X : Ext w365 w365 := Ext.refl _
            refine st3_t B168 rfl rfl rfl rfl fun u452 k_u452 B168 => ?_
            obtain ⟨B1, B2, B3, B151, B166⟩ := up5 k_u452 B1 B2 B3 B151 B166 (by omega)
            obtain ⟨A, X, Y_⟩ := axu3 k_u452 g168 A X Y_
            refine st3_t B151 rfl rfl rfl rfl fun u453 k_u453 B151 => ?_
            obtain ⟨B1, B2, B3, B166, B168⟩ := up5 k_u453 B1 B2 B3 B166 B168 (by omega)
            obtain ⟨A, X, Y_⟩ := axu3 k_u453 g151 A X Y_
            refine st3_t B166 rfl rfl rfl rfl fun u454 k_u454 B166 => ?_
            obtain ⟨B1, B2, B3, B151, B168⟩ := up5 k_u454 B1 B2 B3 B151 B168 (by omega)
            obtain ⟨A, X, Y_⟩ := axu3 k_u454 g166 A X Y_
            replace h := h _ X A
            exact ⟨bk168, bk151, bk166, b127, s115, x132, b139, s127, x144, b141, s129, x146, rfl, B168, g168, rfl, B151, g151, rfl, B166, g166, (by omega), (by omega), (by omega), A, h⟩
          ·refine newC_t fun bk169 u455 hb169 ha_u455 _ B169 => ?_
           have g169 := le_eq A.size hb169
           have l1_169 := lt5 hb169 B1 B2 B3 B151 B166
           have y169 := le_eq Y_ hb169
           obtain ⟨B1, B2, B3, B151, B166⟩ := ah5 ha_u455 B1 B2 B3 B151 B166
           obtain ⟨A, X, Y_⟩ := axa3 ha_u455 A X Y_
           refine bb3 ha_u455 ?_
           replace h := h _ X A
           refine Calls.mono h ?_
           clear h
           rintro e145 w368 ⟨b142, s130, x147, he_, ha_w368, h⟩
           refine ⟨b142, s130, x147, he_, ?_⟩
           clear he_
           obtain ⟨B1, B2, B3, B151, B166, B169⟩ := ah6 ha_w368 B1 B2 B3 B151 B166 B169
           obtain ⟨A, X, Y_⟩ := axa3 ha_w368 A X Y_
           replace X : Ext w368 w368 := Ext.refl _
           refine ⟨(Bar.of_ahead ha_w368), ?_⟩
           replace h := h _ X A
           refine Calls.mono h ?_
           clear h
           rintro e146 w370 ⟨b143, s131, x148, he_, ha_w370, h⟩
           refine ⟨b143, s131, x148, he_, ?_⟩
           clear he_
           obtain ⟨B1, B2, B3, B151, B166, B169⟩ := ah6 ha_w370 B1 B2 B3 B151 B166 B169
           obtain ⟨A, X, Y_⟩ := axa3 ha_w370 A X Y_
           replace X : Ext w370 w370 := Ext.refl _
           refine st3_t B169 rfl rfl rfl rfl fun u456 k_u456 B169 => ?_
           obtain ⟨B1, B2, B3, B151, B166⟩ := up5 k_u456 B1 B2 B3 B151 B166 (by omega)
           obtain ⟨A, X, Y_⟩ := axu3 k_u456 g169 A X Y_
           refine st3_t B151 rfl rfl rfl rfl fun u457 k_u457 B151 => ?_
           obtain ⟨B1, B2, B3, B166, B169⟩ := up5 k_u457 B1 B2 B3 B166 B169 (by omega)
           obtain ⟨A, X, Y_⟩ := axu3 k_u457 g151 A X Y_
           refine st3_t B166 rfl rfl rfl rfl fun u458 k_u458 B166 => ?_
           obtain ⟨B1, B2, B3, B151, B169⟩ := up5 k_u458 B1 B2 B3 B151 B169 (by omega)
           obtain ⟨A, X, Y_⟩ := axu3 k_u458 g166 A X Y_
           replace h := h _ X A
           exact ⟨bk169, bk151, bk166, b127, s115, x132, b142, s130, x147, b143, s131, x148, rfl, B169, g169, rfl, B151, g151, rfl, B166, g166, (by omega), (by omega), (by omega), A, h⟩
       ·refine ⟨?_, ?_⟩
        ·refine newC_t fun bk170 u459 hb170 ha_u459 _ B170 => ?_
         have g170 := le_eq A.size hb170
         have l1_170 := lt4 hb170 B1 B2 B3 B151
         have y170 := le_eq Y_ hb170
         obtain ⟨B1, B2, B3, B151⟩ := ah4 ha_u459 B1 B2 B3 B151
         obtain ⟨A, X, Y_⟩ := axa3 ha_u459 A X Y_
         refine bb3 ha_u459 ?_
         refine ⟨?_, ?_⟩
         ·replace h := h _ X A
          refine Calls.mono h ?_
          clear h
          rintro e147 w373 ⟨b144, s132, x149, he_, ha_w373, h⟩
          refine ⟨b144, s132, x149, he_, ?_⟩
          clear he_
          obtain ⟨B1, B2, B3, B151, B170⟩ := ah5 ha_w373 B1 B2 B3 B151 B170
          obtain ⟨A, X, Y_⟩ := axa3 ha_w373 A X Y_
          replace X : Ext w373 w373 := Ext.refl _
          refine bb2 ha_w373 ?_
          refine ⟨?_, ?_⟩
          ·replace h := h _ X A
           refine Calls.mono h ?_
           clear h
           rintro e148 w375 ⟨b145, s133, x150, he_, ha_w375, h⟩
           refine ⟨b145, s133, x150, he_, ?_⟩
           clear he_
           obtain ⟨B1, B2, B3, B151, B170⟩ := ah5 ha_w375 B1 B2 B3 B151 B170
           obtain ⟨A, X, Y_⟩ := axa3 ha_w375 A X Y_
           replace X : Ext w375 w375 := Ext.refl _
           refine ⟨(Bar.of_ahead ha_w375), ?_⟩
           refine ⟨?_, ?_⟩
           ·replace h := h _ X A
            refine Calls.mono h ?_
            clear h
            rintro e149 w377 ⟨b146, s134, x151, he_, ha_w377, h⟩
            refine ⟨b146, s134, x151, he_, ?_⟩
            clear he_
            obtain ⟨B1, B2, B3, B151, B170⟩ := ah5 ha_w377 B1 B2 B3 B151 B170
            obtain ⟨A, X, Y_⟩ := axa3 ha_w377 A X Y_
            replace X : Ext w377 w377 := Ext.refl _
            refine newC_t fun bk171 u460 hb171 ha_u460 _ B171 => ?_
            have g171 := le_eq A.size hb171
            have l1_171 := lt5 hb171 B1 B2 B3 B151 B170
            have y171 := le_eq Y_ hb171
            obtain ⟨B1, B2, B3, B151, B170⟩ := ah5 ha_u460 B1 B2 B3 B151 B170
            obtain ⟨A, X, Y_⟩ := axa3 ha_u460 A X Y_
            refine bb3 ha_u460 ?_
            refine st3_t B170 rfl rfl rfl rfl fun u461 k_u461 B170 => ?_
            obtain ⟨B1, B2, B3, B151, B171⟩ := up5 k_u461 B1 B2 B3 B151 B171 (by omega)
            obtain ⟨A, X, Y_⟩ := axu3 k_u461 g170 A X Y_
            refine st3_t B151 rfl rfl rfl rfl fun u462 k_u462 B151 => ?_
            obtain ⟨B1, B2, B3, B170, B171⟩ := up5 k_u462 B1 B2 B3 B170 B171 (by omega)
            obtain ⟨A, X, Y_⟩ := axu3 k_u462 g151 A X Y_
            refine st3_t B171 rfl rfl rfl rfl fun u463 k_u463 B171 => ?_
            obtain ⟨B1, B2, B3, B151, B170⟩ := up5 k_u463 B1 B2 B3 B151 B170 (by omega)
            obtain ⟨A, X, Y_⟩ := axu3 k_u463 g171 A X Y_
            replace h := h _ X A
            exact ⟨bk170, bk151, bk171, b144, s132, x149, b145, s133, x150, b146, s134, x151, rfl, B170, g170, rfl, B151, g151, rfl, B171, g171, (by omega), (by omega), (by omega), A, h⟩
           ·refine newC_t fun bk172 u464 hb172 ha_u464 _ B172 => ?_
            have g172 := le_eq A.size hb172
            have l1_172 := lt5 hb172 B1 B2 B3 B151 B170
            have y172 := le_eq Y_ hb172
            obtain ⟨B1, B2, B3, B151, B170⟩ := ah5 ha_u464 B1 B2 B3 B151 B170
            obtain ⟨A, X, Y_⟩ := axa3 ha_u464 A X Y_
            refine bb3 ha_u464 ?_
            replace h := h _ X A
            refine Calls.mono h ?_
            clear h
            rintro e150 w380 ⟨b147, s135, x152, he_, ha_w380, h⟩
            refine ⟨b147, s135, x152, he_, ?_⟩
            clear he_
            obtain ⟨B1, B2, B3, B151, B170, B172⟩ := ah6 ha_w380 B1 B2 B3 B151 B170 B172
            obtain ⟨A, X, Y_⟩ := axa3 ha_w380 A X Y_
            replace X : Ext w380 w380 := Ext.refl _
            refine st3_t B170 rfl rfl rfl rfl fun u465 k_u465 B170 => ?_
            obtain ⟨B1, B2, B3, B151, B172⟩ := up5 k_u465 B1 B2 B3 B151 B172 (by omega)
            obtain ⟨A, X, Y_⟩ := axu3 k_u465 g170 A X Y_
            refine st3_t B151 rfl rfl rfl rfl fun u466 k_u466 B151 => ?_
            obtain ⟨B1, B2, B3, B170, B172⟩ := up5 k_u466 B1 B2 B3 B170 B172 (by omega)
            obtain ⟨A, X, Y_⟩ := axu3 k_u466 g151 A X Y_
            refine st3_t B172 rfl rfl rfl rfl fun u467 k_u467 B172 => ?_
            obtain ⟨B1, B2, B3, B151, B170⟩ := up5 k_u467 B1 B2 B3 B151 B170 (by omega)
            obtain ⟨A, X, Y_⟩ := axu3 k_u467 g172 A X Y_
            replace h := h _ X A
            exact ⟨bk170, bk151, bk172, b144, s132, x149, b145, s133, x150, b147, s135, x152, rfl, B170, g170, rfl, B151, g151, rfl, B172, g172, (by omega), (by omega), (by omega), A, h⟩
          ·refine newC_t fun bk173 u468 hb173 ha_u468 _ B173 => ?_
           have g173 := le_eq A.size hb173
           have l1_173 := lt5 hb173 B1 B2 B3 B151 B170
           have y173 := le_eq Y_ hb173
           obtain ⟨B1, B2, B3, B151, B170⟩ := ah5 ha_u468 B1 B2 B3 B151 B170
           obtain ⟨A, X, Y_⟩ := axa3 ha_u468 A X Y_
           refine bb3 ha_u468 ?_
           replace h := h _ X A
           refine Calls.mono h ?_
           clear h
           rintro e151 w383 ⟨b148, s136, x153, he_, ha_w383, h⟩
           refine ⟨b148, s136, x153, he_, ?_⟩
           clear he_
           obtain ⟨B1, B2, B3, B151, B170, B173⟩ := ah6 ha_w383 B1 B2 B3 B151 B170 B173
           obtain ⟨A, X, Y_⟩ := axa3 ha_w383 A X Y_
           replace X : Ext w383 w383 := Ext.refl _
           refine ⟨(Bar.of_ahead ha_w383), ?_⟩
           replace h := h _ X A
           refine Calls.mono h ?_
           clear h
           rintro e152 w385 ⟨b149, s137, x154, he_, ha_w385, h⟩
           refine ⟨b149, s137, x154, he_, ?_⟩
           clear he_
           obtain ⟨B1, B2, B3, B151, B170, B173⟩ := ah6 ha_w385 B1 B2 B3 B151 B170 B173
           obtain ⟨A, X, Y_⟩ := axa3 ha_w385 A X Y_
           replace X : Ext w385 w385 := Ext.refl _
           refine st3_t B170 rfl rfl rfl rfl fun u469 k_u469 B170 => ?_
           obtain ⟨B1, B2, B3, B151, B173⟩ := up5 k_u469 B1 B2 B3 B151 B173 (by omega)
           obtain ⟨A, X, Y_⟩ := axu3 k_u469 g170 A X Y_
           refine st3_t B151 rfl rfl rfl rfl fun u470 k_u470 B151 => ?_
           obtain ⟨B1, B2, B3, B170, B173⟩ := up5 k_u470 B1 B2 B3 B170 B173 (by omega)
           obtain ⟨A, X, Y_⟩ := axu3 k_u470 g151 A X Y_
           refine st3_t B173 rfl rfl rfl rfl fun u471 k_u471 B173 => ?_
           obtain ⟨B1, B2, B3, B151, B170⟩ := up5 k_u471 B1 B2 B3 B151 B170 (by omega)
           obtain ⟨A, X, Y_⟩ := axu3 k_u471 g173 A X Y_
           replace h := h _ X A
           exact ⟨bk170, bk151, bk173, b144, s132, x149, b148, s136, x153, b149, s137, x154, rfl, B170, g170, rfl, B151, g151, rfl, B173, g173, (by omega), (by omega), (by omega), A, h⟩
         ·refine newC_t fun bk174 u472 hb174 ha_u472 _ B174 => ?_
          have g174 := le_eq A.size hb174
          have l1_174 := lt5 hb174 B1 B2 B3 B151 B170
          have y174 := le_eq Y_ hb174
          obtain ⟨B1, B2, B3, B151, B170⟩ := ah5 ha_u472 B1 B2 B3 B151 B170
          obtain ⟨A, X, Y_⟩ := axa3 ha_u472 A X Y_
          refine bb3 ha_u472 ?_
          replace h := h _ X A
          refine Calls.mono h ?_
          clear h
          rintro e153 w388 ⟨b150, s138, x155, he_, ha_w388, h⟩
          refine ⟨b150, s138, x155, he_, ?_⟩
          clear he_
          obtain ⟨B1, B2, B3, B151, B170, B174⟩ := ah6 ha_w388 B1 B2 B3 B151 B170 B174
          obtain ⟨A, X, Y_⟩ := axa3 ha_w388 A X Y_
          replace X : Ext w388 w388 := Ext.refl _
          refine bb2 ha_w388 ?_
          replace h := h _ X A
          refine Calls.mono h ?_
          clear h
          rintro e154 w390 ⟨b151, s139, x156, he_, ha_w390, h⟩
          refine ⟨b151, s139, x156, he_, ?_⟩
          clear he_
          obtain ⟨B1, B2, B3, B151, B170, B174⟩ := ah6 ha_w390 B1 B2 B3 B151 B170 B174
          obtain ⟨A, X, Y_⟩ := axa3 ha_w390 A X Y_
          replace X : Ext w390 w390 := Ext.refl _
          refine ⟨(Bar.of_ahead ha_w390), ?_⟩
          replace h := h _ X A
          refine Calls.mono h ?_
          clear h
          rintro e155 w392 ⟨b152, s140, x157, he_, ha_w392, h⟩
          refine ⟨b152, s140, x157, he_, ?_⟩
          clear he_
          obtain ⟨B1, B2, B3, B151, B170, B174⟩ := ah6 ha_w392 B1 B2 B3 B151 B170 B174
          obtain ⟨A, X, Y_⟩ := axa3 ha_w392 A X Y_
          replace X : Ext w392 w392 := Ext.refl _
          refine st3_t B170 rfl rfl rfl rfl fun u473 k_u473 B170 => ?_
          obtain ⟨B1, B2, B3, B151, B174⟩ := up5 k_u473 B1 B2 B3 B151 B174 (by omega)
          obtain ⟨A, X, Y_⟩ := axu3 k_u473 g170 A X Y_
          refine st3_t B151 rfl rfl rfl rfl fun u474 k_u474 B151 => ?_
          obtain ⟨B1, B2, B3, B170, B174⟩ := up5 k_u474 B1 B2 B3 B170 B174 (by omega)
          obtain ⟨A, X, Y_⟩ := axu3 k_u474 g151 A X Y_
          refine st3_t B174 rfl rfl rfl rfl fun u475 k_u475 B174 => ?_
          obtain ⟨B1, B2, B3, B151, B170⟩ := up5 k_u475 B1 B2 B3 B151 B170 (by omega)
          obtain ⟨A, X, Y_⟩ := axu3 k_u475 g174 A X Y_
          replace h := h _ X A
          exact ⟨bk170, bk151, bk174, b150, s138, x155, b151, s139, x156, b152, s140, x157, rfl, B170, g170, rfl, B151, g151, rfl, B174, g174, (by omega), (by omega), (by omega), A, h⟩
        ·refine newC_t fun bk175 u476 hb175 ha_u476 _ B175 => ?_
         have g175 := le_eq A.size hb175
         have l1_175 := lt4 hb175 B1 B2 B3 B151
         have y175 := le_eq Y_ hb175
         obtain ⟨B1, B2, B3, B151⟩ := ah4 ha_u476 B1 B2 B3 B151
         obtain ⟨A, X, Y_⟩ := axa3 ha_u476 A X Y_
         refine bb3 ha_u476 ?_
         refine ⟨?_, ?_⟩
         ·replace h := h _ X A
          refine Calls.mono h ?_
          clear h
          rintro e156 w395 ⟨b153, s141, x158, he_, ha_w395, h⟩
          refine ⟨b153, s141, x158, he_, ?_⟩
          clear he_
          obtain ⟨B1, B2, B3, B151, B175⟩ := ah5 ha_w395 B1 B2 B3 B151 B175
          obtain ⟨A, X, Y_⟩ := axa3 ha_w395 A X Y_
          replace X : Ext w395 w395 := Ext.refl _
          refine bb2 ha_w395 ?_
          refine ⟨?_, ?_⟩
          ·replace h := h _ X A
           refine Calls.mono h ?_
           clear h
           rintro e157 w397 ⟨b154, s142, x159, he_, ha_w397, h⟩
           refine ⟨b154, s142, x159, he_, ?_⟩
           clear he_
           obtain ⟨B1, B2, B3, B151, B175⟩ := ah5 ha_w397 B1 B2 B3 B151 B175
           obtain ⟨A, X, Y_⟩ := axa3 ha_w397 A X Y_
           replace X : Ext w397 w397 := Ext.refl _
           refine ⟨(Bar.of_ahead ha_w397), ?_⟩
           refine ⟨?_, ?_⟩
           ·replace h := h _ X A
            refine Calls.mono h ?_
            clear h
            rintro e158 w399 ⟨b155, s143, x160, he_, ha_w399, h⟩
            refine ⟨b155, s143, x160, he_, ?_⟩
            clear he_
            obtain ⟨B1, B2, B3, B151, B175⟩ := ah5 ha_w399 B1 B2 B3 B151 B175
            obtain ⟨A, X, Y_⟩ := axa3 ha_w399 A X Y_
            replace X : Ext w399 w399 := Ext.refl _
            refine newC_t fun bk176 u477 hb176 ha_u477 _ B176 => ?_
            have g176 := le_eq A.size hb176
            have l1_176 := lt5 hb176 B1 B2 B3 B151 B175
            have y176 := le_eq Y_ hb176
            obtain ⟨B1, B2, B3, B151, B175⟩ := ah5 ha_u477 B1 B2 B3 B151 B175
            obtain ⟨A, X, Y_⟩ := axa3 ha_u477 A X Y_
            refine bb3 ha_u477 ?_
            refine st3_t B176 rfl rfl rfl rfl fun u478 k_u478 B176 => ?_
            obtain ⟨B1, B2, B3, B151, B175⟩ := up5 k_u478 B1 B2 B3 B151 B175 (by omega)
            obtain ⟨A, X, Y_⟩ := axu3 k_u478 g176 A X Y_
            refine st3_t B151 rfl rfl rfl rfl fun u479 k_u479 B151 => ?_
            obtain ⟨B1, B2, B3, B175, B176⟩ := up5 k_u479 B1 B2 B3 B175 B176 (by omega)
            obtain ⟨A, X, Y_⟩ := axu3 k_u479 g151 A X Y_
            refine st3_t B175 rfl rfl rfl rfl fun u480 k_u480 B175 => ?_
            obtain ⟨B1, B2, B3, B151, B176⟩ := up5 k_u480 B1 B2 B3 B151 B176 (by omega)
            obtain ⟨A, X, Y_⟩ := axu3 k_u480 g175 A X Y_
            replace h := h _ X A
            exact ⟨bk176, bk151, bk175, b153, s141, x158, b154, s142, x159, b155, s143, x160, rfl, B176, g176, rfl, B151, g151, rfl, B175, g175, (by omega), (by omega), (by omega), A, h⟩
           ·refine newC_t fun bk177 u481 hb177 ha_u481 _ B177 => ?_
            have g177 := le_eq A.size hb177
            have l1_177 := lt5 hb177 B1 B2 B3 B151 B175
            have y177 := le_eq Y_ hb177
            obtain ⟨B1, B2, B3, B151, B175⟩ := ah5 ha_u481 B1 B2 B3 B151 B175
            obtain ⟨A, X, Y_⟩ := axa3 ha_u481 A X Y_
            refine bb3 ha_u481 ?_
            replace h := h _ X A
            refine Calls.mono h ?_
            clear h
            rintro e159 w402 ⟨b156, s144, x161, he_, ha_w402, h⟩
            refine ⟨b156, s144, x161, he_, ?_⟩
            clear he_
            obtain ⟨B1, B2, B3, B151, B175, B177⟩ := ah6 ha_w402 B1 B2 B3 B151 B175 B177
            obtain ⟨A, X, Y_⟩ := axa3 ha_w402 A X Y_
            replace X : Ext w402 w402 := Ext.refl _
            refine st3_t B177 rfl rfl rfl rfl fun u482 k_u482 B177 => ?_
            obtain ⟨B1, B2, B3, B151, B175⟩ := up5 k_u482 B1 B2 B3 B151 B175 (by omega)
            obtain ⟨A, X, Y_⟩ := axu3 k_u482 g177 A X Y_
            refine st3_t B151 rfl rfl rfl rfl fun u483 k_u483 B151 => ?_
            obtain ⟨B1, B2, B3, B175, B177⟩ := up5 k_u483 B1 B2 B3 B175 B177 (by omega)
            obtain ⟨A, X, Y_⟩ := axu3 k_u483 g151 A X Y_
            refine st3_t B175 rfl rfl rfl rfl fun u484 k_u484 B175 => ?_
            obtain ⟨B1, B2, B3, B151, B177⟩ := up5 k_u484 B1 B2 B3 B151 B177 (by omega)
            obtain ⟨A, X, Y_⟩ := axu3 k_u484 g175 A X Y_
            replace h := h _ X A
            exact ⟨bk177, bk151, bk175, b153, s141, x158, b154, s142, x159, b156, s144, x161, rfl, B177, g177, rfl, B151, g151, rfl, B175, g175, (by omega), (by omega), (by omega), A, h⟩
          ·refine newC_t fun bk178 u485 hb178 ha_u485 _ B178 => ?_
           have g178 := le_eq A.size hb178
           have l1_178 := lt5 hb178 B1 B2 B3 B151 B175
           have y178 := le_eq Y_ hb178
           obtain ⟨B1, B2, B3, B151, B175⟩ := ah5 ha_u485 B1 B2 B3 B151 B175
           obtain ⟨A, X, Y_⟩ := axa3 ha_u485 A X Y_
           refine bb3 ha_u485 ?_
           replace h := h _ X A
           refine Calls.mono h ?_
           clear h
           rintro e160 w405 ⟨b157, s145, x162, he_, ha_w405, h⟩
           refine ⟨b157, s145, x162, he_, ?_⟩
           clear he_
           obtain ⟨B1, B2, B3, B151, B175, B178⟩ := ah6 ha_w405 B1 B2 B3 B151 B175 B178
           obtain ⟨A, X, Y_⟩ := axa3 ha_w405 A X Y_
           replace X : Ext w405 w405 := Ext.refl _
           refine ⟨(Bar.of_ahead ha_w405), ?_⟩
           replace h := h _ X A
           refine Calls.mono h ?_
           clear h
           rintro e161 w407 ⟨b158, s146, x163, he_, ha_w407, h⟩
           refine ⟨b158, s146, x163, he_, ?_⟩
           clear he_
           obtain ⟨B1, B2, B3, B151, B175, B178⟩ := ah6 ha_w407 B1 B2 B3 B151 B175 B178
           obtain ⟨A, X, Y_⟩ := axa3 ha_w407 A X Y_
           replace X : Ext w407 w407 := Ext.refl _
           refine st3_t B178 rfl rfl rfl rfl fun u486 k_u486 B178 => ?_
           obtain ⟨B1, B2, B3, B151, B175⟩ := up5 k_u486 B1 B2 B3 B151 B175 (by omega)
           obtain ⟨A, X, Y_⟩ := axu3 k_u486 g178 A X Y_
           refine st3_t B151 rfl rfl rfl rfl fun u487 k_u487 B151 => ?_
           obtain ⟨B1, B2, B3, B175, B178⟩ := up5 k_u487 B1 B2 B3 B175 B178 (by omega)
           obtain ⟨A, X, Y_⟩ := axu3 k_u487 g151 A X Y_
           refine st3_t B175 rfl rfl rfl rfl fun u488 k_u488 B175 => ?_
           obtain ⟨B1, B2, B3, B151, B178⟩ := up5 k_u488 B1 B2 B3 B151 B178 (by omega)
           obtain ⟨A, X, Y_⟩ := axu3 k_u488 g175 A X Y_
           replace h := h _ X A
           exact ⟨bk178, bk151, bk175, b153, s141, x158, b157, s145, x162, b158, s146, x163, rfl, B178, g178, rfl, B151, g151, rfl, B175, g175, (by omega), (by omega), (by omega), A, h⟩
         ·refine newC_t fun bk179 u489 hb179 ha_u489 _ B179 => ?_
          have g179 := le_eq A.size hb179
          have l1_179 := lt5 hb179 B1 B2 B3 B151 B175
          have y179 := le_eq Y_ hb179
          obtain ⟨B1, B2, B3, B151, B175⟩ := ah5 ha_u489 B1 B2 B3 B151 B175
          obtain ⟨A, X, Y_⟩ := axa3 ha_u489 A X Y_
          refine bb3 ha_u489 ?_
          replace h := h _ X A
          refine Calls.mono h ?_
          clear h
          rintro e162 w410 ⟨b159, s147, x164, he_, ha_w410, h⟩
          refine ⟨b159, s147, x164, he_, ?_⟩
          clear he_
          obtain ⟨B1, B2, B3, B151, B175, B179⟩ := ah6 ha_w410 B1 B2 B3 B151 B175 B179
          obtain ⟨A, X, Y_⟩ := axa3 ha_w410 A X Y_
          replace X : Ext w410 w410 := Ext.refl _
          refine bb2 ha_w410 ?_
          replace h := h _ X A
          refine Calls.mono h ?_
          clear h
          rintro e163 w412 ⟨b160, s148, x165, he_, ha_w412, h⟩
          refine ⟨b160, s148, x165, he_, ?_⟩
          clear he_
          obtain ⟨B1, B2, B3, B151, B175, B179⟩ := ah6 ha_w412 B1 B2 B3 B151 B175 B179
          obtain ⟨A, X, Y_⟩ := axa3 ha_w412 A X Y_
          replace X : Ext w412 w412 := Ext.refl _
          refine ⟨(Bar.of_ahead ha_w412), ?_⟩
          replace h := h _ X A
          refine Calls.mono h ?_
          clear h
          rintro e164 w414 ⟨b161, s149, x166, he_, ha_w414, h⟩
          refine ⟨b161, s149, x166, he_, ?_⟩
          clear he_
          obtain ⟨B1, B2, B3, B151, B175, B179⟩ := ah6 ha_w414 B1 B2 B3 B151 B175 B179
          obtain ⟨A, X, Y_⟩ := axa3 ha_w414 A X Y_
          replace X : Ext w414 w414 := Ext.refl _
          refine st3_t B179 rfl rfl rfl rfl fun u490 k_u490 B179 => ?_
          obtain ⟨B1, B2, B3, B151, B175⟩ := up5 k_u490 B1 B2 B3 B151 B175 (by omega)
          obtain ⟨A, X, Y_⟩ := axu3 k_u490 g179 A X Y_
          refine st3_t B151 rfl rfl rfl rfl fun u491 k_u491 B151 => ?_
          obtain ⟨B1, B2, B3, B175, B179⟩ := up5 k_u491 B1 B2 B3 B175 B179 (by omega)
          obtain ⟨A, X, Y_⟩ := axu3 k_u491 g151 A X Y_
          refine st3_t B175 rfl rfl rfl rfl fun u492 k_u492 B175 => ?_
          obtain ⟨B1, B2, B3, B151, B179⟩ := up5 k_u492 B1 B2 B3 B151 B179 (by omega)
          obtain ⟨A, X, Y_⟩ := axu3 k_u492 g175 A X Y_
          replace h := h _ X A
          exact ⟨bk179, bk151, bk175, b159, s147, x164, b160, s148, x165, b161, s149, x166, rfl, B179, g179, rfl, B151, g151, rfl, B175, g175, (by omega), (by omega), (by omega), A, h⟩
      ·refine newC_t fun bk180 u493 hb180 ha_u493 _ B180 => ?_
       have g180 := le_eq A.size hb180
       have l1_180 := lt3 hb180 B1 B2 B3
       have y180 := le_eq Y_ hb180
       obtain ⟨B1, B2, B3⟩ := ah3 ha_u493 B1 B2 B3
       obtain ⟨A, X, Y_⟩ := axa3 ha_u493 A X Y_
       refine bb3 ha_u493 ?_
       refine ⟨?_, ?_⟩
       ·replace h := h _ X A
        refine Calls.mono h ?_
        clear h
        rintro e165 w417 ⟨b162, s150, x167, he_, ha_w417, h⟩
        refine ⟨b162, s150, x167, he_, ?_⟩
        clear he_
        obtain ⟨B1, B2, B3, B180⟩ := ah4 ha_w417 B1 B2 B3 B180
        obtain ⟨A, X, Y_⟩ := axa3 ha_w417 A X Y_
        replace X : Ext w417 w417 := Ext.refl _
        refine bb2 ha_w417 ?_
        refine ⟨?_, ?_⟩
        ·replace h := h _ X A
         refine Calls.mono h ?_
         clear h
         rintro e166 w419 ⟨b163, s151, x168, he_, ha_w419, h⟩
         refine ⟨b163, s151, x168, he_, ?_⟩
         clear he_
         obtain ⟨B1, B2, B3, B180⟩ := ah4 ha_w419 B1 B2 B3 B180
         obtain ⟨A, X, Y_⟩ := axa3 ha_w419 A X Y_
         replace X : Ext w419 w419 := Ext.refl _
         refine ⟨(Bar.of_ahead ha_w419), ?_⟩
         refine ⟨?_, ?_⟩
         ·replace h := h _ X A
          refine Calls.mono h ?_
          clear h
          rintro e167 w421 ⟨b164, s152, x169, he_, ha_w421, h⟩
          refine ⟨b164, s152, x169, he_, ?_⟩
          clear he_
          obtain ⟨B1, B2, B3, B180⟩ := ah4 ha_w421 B1 B2 B3 B180
          obtain ⟨A, X, Y_⟩ := axa3 ha_w421 A X Y_
          replace X : Ext w421 w421 := Ext.refl _
          refine ⟨?_, ?_⟩
          ·refine newC_t fun bk181 u494 hb181 ha_u494 _ B181 => ?_
           have g181 := le_eq A.size hb181
           have l1_181 := lt4 hb181 B1 B2 B3 B180
           have y181 := le_eq Y_ hb181
           obtain ⟨B1, B2, B3, B180⟩ := ah4 ha_u494 B1 B2 B3 B180
           obtain ⟨A, X, Y_⟩ := axa3 ha_u494 A X Y_
           refine bb3 ha_u494 ?_
           refine newC_t fun bk182 u495 hb182 ha_u495 _ B182 => ?_
           have g182 := le_eq A.size hb182
           have l1_182 := lt5 hb182 B1 B2 B3 B180 B181
           have y182 := le_eq Y_ hb182
           obtain ⟨B1, B2, B3, B180, B181⟩ := ah5 ha_u495 B1 B2 B3 B180 B181
           obtain ⟨A, X, Y_⟩ := axa3 ha_u495 A X Y_
           refine bb3 ha_u495 ?_
           refine st3_t B181 rfl rfl rfl rfl fun u496 k_u496 B181 => ?_
           obtain ⟨B1, B2, B3, B180, B182⟩ := up5 k_u496 B1 B2 B3 B180 B182 (by omega)
           obtain ⟨A, X, Y_⟩ := axu3 k_u496 g181 A X Y_
           refine st3_t B182 rfl rfl rfl rfl fun u497 k_u497 B182 => ?_
           obtain ⟨B1, B2, B3, B180, B181⟩ := up5 k_u497 B1 B2 B3 B180 B181 (by omega)
           obtain ⟨A, X, Y_⟩ := axu3 k_u497 g182 A X Y_
           refine st3_t B180 rfl rfl rfl rfl fun u498 k_u498 B180 => ?_
           obtain ⟨B1, B2, B3, B181, B182⟩ := up5 k_u498 B1 B2 B3 B181 B182 (by omega)
           obtain ⟨A, X, Y_⟩ := axu3 k_u498 g180 A X Y_
           replace h := h _ X A
           exact ⟨bk181, bk182, bk180, b162, s150, x167, b163, s151, x168, b164, s152, x169, rfl, B181, g181, rfl, B182, g182, rfl, B180, g180, (by omega), (by omega), (by omega), A, h⟩
          ·refine newC_t fun bk183 u499 hb183 ha_u499 _ B183 => ?_
           have g183 := le_eq A.size hb183
           have l1_183 := lt4 hb183 B1 B2 B3 B180
           have y183 := le_eq Y_ hb183
           obtain ⟨B1, B2, B3, B180⟩ := ah4 ha_u499 B1 B2 B3 B180
           obtain ⟨A, X, Y_⟩ := axa3 ha_u499 A X Y_
           refine bb3 ha_u499 ?_
           refine newC_t fun bk184 u500 hb184 ha_u500 _ B184 => ?_
           have g184 := le_eq A.size hb184
           have l1_184 := lt5 hb184 B1 B2 B3 B180 B183
           have y184 := le_eq Y_ hb184
           obtain ⟨B1, B2, B3, B180, B183⟩ := ah5 ha_u500 B1 B2 B3 B180 B183
           obtain ⟨A, X, Y_⟩ := axa3 ha_u500 A X Y_
           refine bb3 ha_u500 ?_
           refine st3_t B184 rfl rfl rfl rfl fun u501 k_u501 B184 => ?_
           obtain ⟨B1, B2, B3, B180, B183⟩ := up5 k_u501 B1 B2 B3 B180 B183 (by omega)
           obtain ⟨A, X, Y_⟩ := axu3 k_u501 g184 A X Y_
           refine st3_t B183 rfl rfl rfl rfl fun u502 k_u502 B183 => ?_
           obtain ⟨B1, B2, B3, B180, B184⟩ := up5 k_u502 B1 B2 B3 B180 B184 (by omega)
           obtain ⟨A, X, Y_⟩ := axu3 k_u502 g183 A X Y_
           refine st3_t B180 rfl rfl rfl rfl fun u503 k_u503 B180 => ?_
           obtain ⟨B1, B2, B3, B183, B184⟩ := up5 k_u503 B1 B2 B3 B183 B184 (by omega)
           obtain ⟨A, X, Y_⟩ := axu3 k_u503 g180 A X Y_
           replace h := h _ X A
           exact ⟨bk184, bk183, bk180, b162, s150, x167, b163, s151, x168, b164, s152, x169, rfl, B184, g184, rfl, B183, g183, rfl, B180, g180, (by omega), (by omega), (by omega), A, h⟩
         ·refine ⟨?_, ?_⟩
          ·refine newC_t fun bk185 u504 hb185 ha_u504 _ B185 => ?_
           have g185 := le_eq A.size hb185
           have l1_185 := lt4 hb185 B1 B2 B3 B180
           have y185 := le_eq Y_ hb185
           obtain ⟨B1, B2, B3, B180⟩ := ah4 ha_u504 B1 B2 B3 B180
           obtain ⟨A, X, Y_⟩ := axa3 ha_u504 A X Y_
           refine bb3 ha_u504 ?_
           refine ⟨?_, ?_⟩
           ·replace h := h _ X A
            refine Calls.mono h ?_
            clear h
            rintro e168 w425 ⟨b165, s153, x170, he_, ha_w425, h⟩
            refine ⟨b165, s153, x170, he_, ?_⟩
            clear he_
            obtain ⟨B1, B2, B3, B180, B185⟩ := ah5 ha_w425 B1 B2 B3 B180 B185
            obtain ⟨A, X, Y_⟩ := axa3 ha_w425 A X Y_
            replace X : Ext w425 w425 := Ext.refl _
            refine newC_t fun bk186 u505 hb186 ha_u505 _ B186 => ?_
            have g186 := le_eq A.size hb186
            have l1_186 := lt5 hb186 B1 B2 B3 B180 B185
            have y186 := le_eq Y_ hb186
            obtain ⟨B1, B2, B3, B180, B185⟩ := ah5 ha_u505 B1 B2 B3 B180 B185
            obtain ⟨A, X, Y_⟩ := axa3 ha_u505 A X Y_
            refine bb3 ha_u505 ?_
            refine st3_t B185 rfl rfl rfl rfl fun u506 k_u506 B185 => ?_
            obtain ⟨B1, B2, B3, B180, B186⟩ := up5 k_u506 B1 B2 B3 B180 B186 (by omega)
            obtain ⟨A, X, Y_⟩ := axu3 k_u506 g185 A X Y_
            refine st3_t B186 rfl rfl rfl rfl fun u507 k_u507 B186 => ?_
            obtain ⟨B1, B2, B3, B180, B185⟩ := up5 k_u507 B1 B2 B3 B180 B185 (by omega)
            obtain ⟨A, X, Y_⟩ := axu3 k_u507 g186 A X Y_
            refine st3_t B180 rfl rfl rfl rfl fun u508 k_u508 B180 => ?_
            obtain ⟨B1, B2, B3, B185, B186⟩ := up5 k_u508 B1 B2 B3 B185 B186 (by omega)
            obtain ⟨A, X, Y_⟩ := axu3 k_u508 g180 A X Y_
            replace h := h _ X A
            exact ⟨bk185, bk186, bk180, b162, s150, x167, b163, s151, x168, b165, s153, x170, rfl, B185, g185, rfl, B186, g186, rfl, B180, g180, (by omega), (by omega), (by omega), A, h⟩
           ·refine newC_t fun bk187 u509 hb187 ha_u509 _ B187 => ?_
            have g187 := le_eq A.size hb187
            have l1_187 := lt5 hb187 B1 B2 B3 B180 B185
            have y187 := le_eq Y_ hb187
            obtain ⟨B1, B2, B3, B180, B185⟩ := ah5 ha_u509 B1 B2 B3 B180 B185
            obtain ⟨A, X, Y_⟩ := axa3 ha_u509 A X Y_
            refine bb3 ha_u509 ?_
            replace h := h _ X A
            refine Calls.mono h ?_
            clear h
            rintro e169 w428 ⟨b166, s154, x171, he_, ha_w428, h⟩
            refine ⟨b166, s154, x171, he_, ?_⟩
            clear he_
            obtain ⟨B1, B2, B3, B180, B185, B187⟩ := ah6 ha_w428 B1 B2 B3 B180 B185 B187
            obtain ⟨A, X, Y_⟩ := axa3 ha_w428 A X Y_
            replace X : Ext w428 w428 := Ext.refl _
            refine st3_t B185 rfl rfl rfl rfl fun u510 k_u510 B185 => ?_
            obtain ⟨B1, B2, B3, B180, B187⟩ := up5 k_u510 B1 B2 B3 B180 B187 (by omega)
            obtain ⟨A, X, Y_⟩ := axu3 k_u510 g185 A X Y_
            refine st3_t B187 rfl rfl rfl rfl fun u511 k_u511 B187 => ?_
            obtain ⟨B1, B2, B3, B180, B185⟩ := up5 k_u511 B1 B2 B3 B180 B185 (by omega)
            obtain ⟨A, X, Y_⟩ := axu3 k_u511 g187 A X Y_
            refine st3_t B180 rfl rfl rfl rfl fun u512 k_u512 B180 => ?_
            obtain ⟨B1, B2, B3, B185, B187⟩ := up5 k_u512 B1 B2 B3 B185 B187 (by omega)
            obtain ⟨A, X, Y_⟩ := axu3 k_u512 g180 A X Y_
            replace h := h _ X A
            exact ⟨bk185, bk187, bk180, b162, s150, x167, b163, s151, x168, b166, s154, x171, rfl, B185, g185, rfl, B187, g187, rfl, B180, g180, (by omega), (by omega), (by omega), A, h⟩
          ·refine newC_t fun bk188 u513 hb188 ha_u513 _ B188 => ?_
           have g188 := le_eq A.size hb188
           have l1_188 := lt4 hb188 B1 B2 B3 B180
           have y188 := le_eq Y_ hb188
           obtain ⟨B1, B2, B3, B180⟩ := ah4 ha_u513 B1 B2 B3 B180
           obtain ⟨A, X, Y_⟩ := axa3 ha_u513 A X Y_
           refine bb3 ha_u513 ?_
           refine ⟨?_, ?_⟩
           ·replace h := h _ X A
            refine Calls.mono h ?_
            clear h
            rintro e170 w431 ⟨b167, s155, x172, he_, ha_w431, h⟩
            refine ⟨b167, s155, x172, he_, ?_⟩
            clear he_
            obtain ⟨B1, B2, B3, B180, B188⟩ := ah5 ha_w431 B1 B2 B3 B180 B188
            obtain ⟨A, X, Y_⟩ := axa3 ha_w431 A X Y_
            replace X : Ext w431 w431 := Ext.refl _
            refine newC_t fun bk189 u514 hb189 ha_u514 _ B189 => ?_
            have g189 := le_eq A.size hb189
            have l1_189 := lt5 hb189 B1 B2 B3 B180 B188
            have y189 := le_eq Y_ hb189
            obtain ⟨B1, B2, B3, B180, B188⟩ := ah5 ha_u514 B1 B2 B3 B180 B188
            obtain ⟨A, X, Y_⟩ := axa3 ha_u514 A X Y_
            refine bb3 ha_u514 ?_
            refine st3_t B189 rfl rfl rfl rfl fun u515 k_u515 B189 => ?_
            obtain ⟨B1, B2, B3, B180, B188⟩ := up5 k_u515 B1 B2 B3 B180 B188 (by omega)
            obtain ⟨A, X, Y_⟩ := axu3 k_u515 g189 A X Y_
            refine st3_t B188 rfl rfl rfl rfl fun u516 k_u516 B188 => ?_
            obtain ⟨B1, B2, B3, B180, B189⟩ := up5 k_u516 B1 B2 B3 B180 B189 (by omega)
            obtain ⟨A, X, Y_⟩ := axu3 k_u516 g188 A X Y_
            refine st3_t B180 rfl rfl rfl rfl fun u517 k_u517 B180 => ?_
            obtain ⟨B1, B2, B3, B188, B189⟩ := up5 k_u517 B1 B2 B3 B188 B189 (by omega)
            obtain ⟨A, X, Y_⟩ := axu3 k_u517 g180 A X Y_
            replace h := h _ X A
            exact ⟨bk189, bk188, bk180, b162, s150, x167, b163, s151, x168, b167, s155, x172, rfl, B189, g189, rfl, B188, g188, rfl, B180, g180, (by omega), (by omega), (by omega), A, h⟩
           ·refine newC_t fun bk190 u518 hb190 ha_u518 _ B190 => ?_
            have g190 := le_eq A.size hb190
            have l1_190 := lt5 hb190 B1 B2 B3 B180 B188
            have y190 := le_eq Y_ hb190
            obtain ⟨B1, B2, B3, B180, B188⟩ := ah5 ha_u518 B1 B2 B3 B180 B188
            obtain ⟨A, X, Y_⟩ := axa3 ha_u518 A X Y_
            refine bb3 ha_u518 ?_
            replace h := h _ X A
            refine Calls.mono h ?_
            clear h
            rintro e171 w434 ⟨b168, s156, x173, he_, ha_w434, h⟩
            refine ⟨b168, s156, x173, he_, ?_⟩
            clear he_
            obtain ⟨B1, B2, B3, B180, B188, B190⟩ := ah6 ha_w434 B1 B2 B3 B180 B188 B190
            obtain ⟨A, X, Y_⟩ := axa3 ha_w434 A X Y_
            replace X : Ext w434 w434 := Ext.refl _
            refine st3_t B190 rfl rfl rfl rfl fun u519 k_u519 B190 => ?_
            obtain ⟨B1, B2, B3, B180, B188⟩ := up5 k_u519 B1 B2 B3 B180 B188 (by omega)
            obtain ⟨A, X, Y_⟩ := axu3 k_u519 g190 A X Y_
            refine st3_t B188 rfl rfl rfl rfl fun u520 k_u520 B188 => ?_
            obtain ⟨B1, B2, B3, B180, B190⟩ := up5 k_u520 B1 B2 B3 B180 B190 (by omega)
            obtain ⟨A, X, Y_⟩ := axu3 k_u520 g188 A X Y_
            refine st3_t B180 rfl rfl rfl rfl fun u521 k_u521 B180 => ?_
            obtain ⟨B1, B2, B3, B188, B190⟩ := up5 k_u521 B1 B2 B3 B188 B190 (by omega)
            obtain ⟨A, X, Y_⟩ := axu3 k_u521 g180 A X Y_
            replace h := h _ X A
            exact ⟨bk190, bk188, bk180, b162, s150, x167, b163, s151, x168, b168, s156, x173, rfl, B190, g190, rfl, B188, g188, rfl, B180, g180, (by omega), (by omega), (by omega), A, h⟩
        ·refine ⟨?_, ?_⟩
         ·refine newC_t fun bk191 u522 hb191 ha_u522 _ B191 => ?_
          have g191 := le_eq A.size hb191
          have l1_191 := lt4 hb191 B1 B2 B3 B180
          have y191 := le_eq Y_ hb191
          obtain ⟨B1, B2, B3, B180⟩ := ah4 ha_u522 B1 B2 B3 B180
          obtain ⟨A, X, Y_⟩ := axa3 ha_u522 A X Y_
          refine bb3 ha_u522 ?_
          refine ⟨?_, ?_⟩
          ·replace h := h _ X A
           refine Calls.mono h ?_
           clear h
           rintro e172 w437 ⟨b169, s157, x174, he_, ha_w437, h⟩
           refine ⟨b169, s157, x174, he_, ?_⟩
           clear he_
           obtain ⟨B1, B2, B3, B180, B191⟩ := ah5 ha_w437 B1 B2 B3 B180 B191
           obtain ⟨A, X, Y_⟩ := axa3 ha_w437 A X Y_
           replace X : Ext w437 w437 := Ext.refl _
           refine ⟨(Bar.of_ahead ha_w437), ?_⟩
           refine ⟨?_, ?_⟩
           ·replace h := h _ X A
            refine Calls.mono h ?_
            clear h
            rintro e173 w439 ⟨b170, s158, x175, he_, ha_w439, h⟩
            refine ⟨b170, s158, x175, he_, ?_⟩
            clear he_
            obtain ⟨B1, B2, B3, B180, B191⟩ := ah5 ha_w439 B1 B2 B3 B180 B191
            obtain ⟨A, X, Y_⟩ := axa3 ha_w439 A X Y_
            replace X : Ext w439 w439 := Ext.refl _
            refine newC_t fun bk192 u523 hb192 ha_u523 _ B192 => ?_
            have g192 := le_eq A.size hb192
            have l1_192 := lt5 hb192 B1 B2 B3 B180 B191
            have y192 := le_eq Y_ hb192
            obtain ⟨B1, B2, B3, B180, B191⟩ := ah5 ha_u523 B1 B2 B3 B180 B191
            obtain ⟨A, X, Y_⟩ := axa3 ha_u523 A X Y_
            refine bb3 ha_u523 ?_
            refine st3_t B191 rfl rfl rfl rfl fun u524 k_u524 B191 => ?_
            obtain ⟨B1, B2, B3, B180, B192⟩ := up5 k_u524 B1 B2 B3 B180 B192 (by omega)
            obtain ⟨A, X, Y_⟩ := axu3 k_u524 g191 A X Y_
            refine st3_t B192 rfl rfl rfl rfl fun u525 k_u525 B192 => ?_
            obtain ⟨B1, B2, B3, B180, B191⟩ := up5 k_u525 B1 B2 B3 B180 B191 (by omega)
            obtain ⟨A, X, Y_⟩ := axu3 k_u525 g192 A X Y_
            refine st3_t B180 rfl rfl rfl rfl fun u526 k_u526 B180 => ?_
            obtain ⟨B1, B2, B3, B191, B192⟩ := up5 k_u526 B1 B2 B3 B191 B192 (by omega)
            obtain ⟨A, X, Y_⟩ := axu3 k_u526 g180 A X Y_
            replace h := h _ X A
            exact ⟨bk191, bk192, bk180, b162, s150, x167, b169, s157, x174, b170, s158, x175, rfl, B191, g191, rfl, B192, g192, rfl, B180, g180, (by omega), (by omega), (by omega), A, h⟩
           ·refine newC_t fun bk193 u527 hb193 ha_u527 _ B193 => ?_
            have g193 := le_eq A.size hb193
            have l1_193 := lt5 hb193 B1 B2 B3 B180 B191
            have y193 := le_eq Y_ hb193
            obtain ⟨B1, B2, B3, B180, B191⟩ := ah5 ha_u527 B1 B2 B3 B180 B191
            obtain ⟨A, X, Y_⟩ := axa3 ha_u527 A X Y_
            refine bb3 ha_u527 ?_
            replace h := h _ X A
            refine Calls.mono h ?_
            clear h
            rintro e174 w442 ⟨b171, s159, x176, he_, ha_w442, h⟩
            refine ⟨b171, s159, x176, he_, ?_⟩
            clear he_
            obtain ⟨B1, B2, B3, B180, B191, B193⟩ := ah6 ha_w442 B1 B2 B3 B180 B191 B193
            obtain ⟨A, X, Y_⟩ := axa3 ha_w442 A X Y_
            replace X : Ext w442 w442 := Ext.refl _
            refine st3_t B191 rfl rfl rfl rfl fun u528 k_u528 B191 => ?_
            obtain ⟨B1, B2, B3, B180, B193⟩ := up5 k_u528 B1 B2 B3 B180 B193 (by omega)
            obtain ⟨A, X, Y_⟩ := axu3 k_u528 g191 A X Y_
            refine st3_t B193 rfl rfl rfl rfl fun u529 k_u529 B193 => ?_
            obtain ⟨B1, B2, B3, B180, B191⟩ := up5 k_u529 B1 B2 B3 B180 B191 (by omega)
            obtain ⟨A, X, Y_⟩ := axu3 k_u529 g193 A X Y_
            refine st3_t B180 rfl rfl rfl rfl fun u530 k_u530 B180 => ?_
            obtain ⟨B1, B2, B3, B191, B193⟩ := up5 k_u530 B1 B2 B3 B191 B193 (by omega)
            obtain ⟨A, X, Y_⟩ := axu3 k_u530 g180 A X Y_
            replace h := h _ X A
            exact ⟨bk191, bk193, bk180, b162, s150, x167, b169, s157, x174, b171, s159, x176, rfl, B191, g191, rfl, B193, g193, rfl, B180, g180, (by omega), (by omega), (by omega), A, h⟩
          ·refine newC_t fun bk194 u531 hb194 ha_u531 _ B194 => ?_
           have g194 := le_eq A.size hb194
           have l1_194 := lt5 hb194 B1 B2 B3 B180 B191
           have y194 := le_eq Y_ hb194
           obtain ⟨B1, B2, B3, B180, B191⟩ := ah5 ha_u531 B1 B2 B3 B180 B191
           obtain ⟨A, X, Y_⟩ := axa3 ha_u531 A X Y_
           refine bb3 ha_u531 ?_
           replace h := h _ X A
           refine Calls.mono h ?_
           clear h
           rintro e175 w445 ⟨b172, s160, x177, he_, ha_w445, h⟩
           refine ⟨b172, s160, x177, he_, ?_⟩
           clear he_
           obtain ⟨B1, B2, B3, B180, B191, B194⟩ := ah6 ha_w445 B1 B2 B3 B180 B191 B194
           obtain ⟨A, X, Y_⟩ := axa3 ha_w445 A X Y_
           replace X : Ext w445 w445 := Ext.refl _
           refine ⟨(Bar.of_ahead ha_w445), ?_⟩
           replace h := h _ X A
           refine Calls.mono h ?_
           clear h
           rintro e176 w447 ⟨b173, s161, x178, he_, ha_w447, h⟩
           refine ⟨b173, s161, x178, he_, ?_⟩
           clear he_
           obtain ⟨B1, B2, B3, B180, B191, B194⟩ := ah6 ha_w447 B1 B2 B3 B180 B191 B194
           obtain ⟨A, X, Y_⟩ := axa3 ha_w447 A X Y_
           replace X : Ext w447 w447 := Ext.refl _
           refine st3_t B191 rfl rfl rfl rfl fun u532 k_u532 B191 => ?_
           obtain ⟨B1, B2, B3, B180, B194⟩ := up5 k_u532 B1 B2 B3 B180 B194 (by omega)
           obtain ⟨A, X, Y_⟩ := axu3 k_u532 g191 A X Y_
           refine st3_t B194 rfl rfl rfl rfl fun u533 k_u533 B194 => ?_
           obtain ⟨B1, B2, B3, B180, B191⟩ := up5 k_u533 B1 B2 B3 B180 B191 (by omega)
           obtain ⟨A, X, Y_⟩ := axu3 k_u533 g194 A X Y_
           refine st3_t B180 rfl rfl rfl rfl fun u534 k_u534 B180 => ?_
           obtain ⟨B1, B2, B3, B191, B194⟩ := up5 k_u534 B1 B2 B3 B191 B194 (by omega)
           obtain ⟨A, X, Y_⟩ := axu3 k_u534 g180 A X Y_
           replace h := h _ X A
           exact ⟨bk191, bk194, bk180, b162, s150, x167, b172, s160, x177, b173, s161, x178, rfl, B191, g191, rfl, B194, g194, rfl, B180, g180, (by omega), (by omega), (by omega), A, h⟩
         ·refine newC_t fun bk195 u535 hb195 ha_u535 _ B195 => ?_
          have g195 := le_eq A.size hb195
          have l1_195 := lt4 hb195 B1 B2 B3 B180
          have y195 := le_eq Y_ hb195
          obtain ⟨B1, B2, B3, B180⟩ := ah4 ha_u535 B1 B2 B3 B180
          obtain ⟨A, X, Y_⟩ := axa3 ha_u535 A X Y_
          refine bb3 ha_u535 ?_
          refine ⟨?_, ?_⟩
          ·replace h := h _ X A
           refine Calls.mono h ?_
           clear h
           rintro e177 w450 ⟨b174, s162, x179, he_, ha_w450, h⟩
           refine ⟨b174, s162, x179, he_, ?_⟩
           clear he_
           obtain ⟨B1, B2, B3, B180, B195⟩ := ah5 ha_w450 B1 B2 B3 B180 B195
           obtain ⟨A, X, Y_⟩ := axa3 ha_w450 A X Y_
           replace X : Ext w450 w450 := Ext.refl _
           refine ⟨(Bar.of_ahead ha_w450), ?_⟩
           refine ⟨?_, ?_⟩
           ·replace h := h _ X A
            refine Calls.mono h ?_
            clear h
            rintro e178 w452 ⟨b175, s163, x180, he_, ha_w452, h⟩
            refine ⟨b175, s163, x180, he_, ?_⟩
            clear he_
            obtain ⟨B1, B2, B3, B180, B195⟩ := ah5 ha_w452 B1 B2 B3 B180 B195
            obtain ⟨A, X, Y_⟩ := axa3 ha_w452 A X Y_
            replace X : Ext w452 w452 := Ext.refl _
            refine newC_t fun bk196 u536 hb196 ha_u536 _ B196 => ?_
            have g196 := le_eq A.size hb196
            have l1_196 := lt5 hb196 B1 B2 B3 B180 B195
            have y196 := le_eq Y_ hb196
            obtain ⟨B1, B2, B3, B180, B195⟩ := ah5 ha_u536 B1 B2 B3 B180 B195
            obtain ⟨A, X, Y_⟩ := axa3 ha_u536 A X Y_
            refine bb3 ha_u536 ?_
            refine st3_t B196 rfl rfl rfl rfl fun u537 k_u537 B196 => ?_
            obtain ⟨B1, B2, B3, B180, B195⟩ := up5 k_u537 B1 B2 B3 B180 B195 (by omega)
            obtain ⟨A, X, Y_⟩ := axu3 k_u537 g196 A X Y_
            refine st3_t B195 rfl rfl rfl rfl fun u538 k_u538 B195 => ?_
            obtain ⟨B1, B2, B3, B180, B196⟩ := up5 k_u538 B1 B2 B3 B180 B196 (by omega)
            obtain ⟨A, X, Y_⟩ := axu3 k_u538 g195 A X Y_
            refine st3_t B180 rfl rfl rfl rfl fun u539 k_u539 B180 => ?_
            obtain ⟨B1, B2, B3, B195, B196⟩ := up5 k_u539 B1 B2 B3 B195 B196 (by omega)
            obtain ⟨A, X, Y_⟩ := axu3 k_u539 g180 A X Y_
            replace h := h _ X A
            exact ⟨bk196, bk195, bk180, b162, s150, x167, b174, s162, x179, b175, s163, x180, rfl, B196, g196, rfl, B195, g195, rfl, B180, g180, (by omega), (by omega), (by omega), A, h⟩
           ·refine newC_t fun bk197 u540 hb197 ha_u540 _ B197 => ?_
            have g197 := le_eq A.size hb197
            have l1_197 := lt5 hb197 B1 B2 B3 B180 B195
            have y197 := le_eq Y_ hb197
            obtain ⟨B1, B2, B3, B180, B195⟩ := ah5 ha_u540 B1 B2 B3 B180 B195
            obtain ⟨A, X, Y_⟩ := axa3 ha_u540 A X Y_
            refine bb3 ha_u540 ?_
            replace h := h _ X A
            refine Calls.mono h ?_
            clear h
            rintro e179 w455 ⟨b176, s164, x181, he_, ha_w455, h⟩
            refine ⟨b176, s164, x181, he_, ?_⟩
            clear he_
            obtain ⟨B1, B2, B3, B180, B195, B197⟩ := ah6 ha_w455 B1 B2 B3 B180 B195 B197
            obtain ⟨A, X, Y_⟩ := axa3 ha_w455 A X Y_
            replace X : Ext w455 w455 := Ext.refl _
            refine st3_t B197 rfl rfl rfl rfl fun u541 k_u541 B197 => ?_
            obtain ⟨B1, B2, B3, B180, B195⟩ := up5 k_u541 B1 B2 B3 B180 B195 (by omega)
            obtain ⟨A, X, Y_⟩ := axu3 k_u541 g197 A X Y_
            refine st3_t B195 rfl rfl rfl rfl fun u542 k_u542 B195 => ?_
            obtain ⟨B1, B2, B3, B180, B197⟩ := up5 k_u542 B1 B2 B3 B180 B197 (by omega)
            obtain ⟨A, X, Y_⟩ := axu3 k_u542 g195 A X Y_
            refine st3_t B180 rfl rfl rfl rfl fun u543 k_u543 B180 => ?_
            obtain ⟨B1, B2, B3, B195, B197⟩ := up5 k_u543 B1 B2 B3 B195 B197 (by omega)
            obtain ⟨A, X, Y_⟩ := axu3 k_u543 g180 A X Y_
            replace h := h _ X A
            exact ⟨bk197, bk195, bk180, b162, s150, x167, b174, s162, x179, b176, s164, x181, rfl, B197, g197, rfl, B195, g195, rfl, B180, g180, (by omega), (by omega), (by omega), A, h⟩
          ·refine newC_t fun bk198 u544 hb198 ha_u544 _ B198 => ?_
           have g198 := le_eq A.size hb198
           have l1_198 := lt5 hb198 B1 B2 B3 B180 B195
           have y198 := le_eq Y_ hb198
           obtain ⟨B1, B2, B3, B180, B195⟩ := ah5 ha_u544 B1 B2 B3 B180 B195
           obtain ⟨A, X, Y_⟩ := axa3 ha_u544 A X Y_
           refine bb3 ha_u544 ?_
           replace h := h _ X A
           refine Calls.mono h ?_
           clear h
           rintro e180 w458 ⟨b177, s165, x182, he_, ha_w458, h⟩
           refine ⟨b177, s165, x182, he_, ?_⟩
           clear he_
           obtain ⟨B1, B2, B3, B180, B195, B198⟩ := ah6 ha_w458 B1 B2 B3 B180 B195 B198
           obtain ⟨A, X, Y_⟩ := axa3 ha_w458 A X Y_
           replace X : Ext w458 w458 := Ext.refl _
           refine ⟨(Bar.of_ahead ha_w458), ?_⟩
           replace h := h _ X A
           refine Calls.mono h ?_
           clear h
           rintro e181 w460 ⟨b178, s166, x183, he_, ha_w460, h⟩
           refine ⟨b178, s166, x183, he_, ?_⟩
           clear he_
           obtain ⟨B1, B2, B3, B180, B195, B198⟩ := ah6 ha_w460 B1 B2 B3 B180 B195 B198
           obtain ⟨A, X, Y_⟩ := axa3 ha_w460 A X Y_
           replace X : Ext w460 w460 := Ext.refl _
           refine st3_t B198 rfl rfl rfl rfl fun u545 k_u545 B198 => ?_
           obtain ⟨B1, B2, B3, B180, B195⟩ := up5 k_u545 B1 B2 B3 B180 B195 (by omega)
           obtain ⟨A, X, Y_⟩ := axu3 k_u545 g198 A X Y_
           refine st3_t B195 rfl rfl rfl rfl fun u546 k_u546 B195 => ?_
           obtain ⟨B1, B2, B3, B180, B198⟩ := up5 k_u546 B1 B2 B3 B180 B198 (by omega)
           obtain ⟨A, X, Y_⟩ := axu3 k_u546 g195 A X Y_
           refine st3_t B180 rfl rfl rfl rfl fun u547 k_u547 B180 => ?_
           obtain ⟨B1, B2, B3, B195, B198⟩ := up5 k_u547 B1 B2 B3 B195 B198 (by omega)
           obtain ⟨A, X, Y_⟩ := axu3 k_u547 g180 A X Y_
           replace h := h _ X A
           exact ⟨bk198, bk195, bk180, b162, s150, x167, b177, s165, x182, b178, s166, x183, rfl, B198, g198, rfl, B195, g195, rfl, B180, g180, (by omega), (by omega), (by omega), A, h⟩
       ·refine ⟨?_, ?_⟩
        ·refine newC_t fun bk199 u548 hb199 ha_u548 _ B199 => ?_
         have g199 := le_eq A.size hb199
         have l1_199 := lt4 hb199 B1 B2 B3 B180
         have y199 := le_eq Y_ hb199
         obtain ⟨B1, B2, B3, B180⟩ := ah4 ha_u548 B1 B2 B3 B180
         obtain ⟨A, X, Y_⟩ := axa3 ha_u548 A X Y_
         refine bb3 ha_u548 ?_
         refine ⟨?_, ?_⟩
         ·replace h := h _ X A
          refine Calls.mono h ?_
          clear h
          rintro e182 w463 ⟨b179, s167, x184, he_, ha_w463, h⟩
          refine ⟨b179, s167, x184, he_, ?_⟩
          clear he_
          obtain ⟨B1, B2, B3, B180, B199⟩ := ah5 ha_w463 B1 B2 B3 B180 B199
          obtain ⟨A, X, Y_⟩ := axa3 ha_w463 A X Y_
          replace X : Ext w463 w463 := Ext.refl _
          refine bb2 ha_w463 ?_
          refine ⟨?_, ?_⟩
          ·replace h := h _ X A
           refine Calls.mono h ?_
           clear h
           rintro e183 w465 ⟨b180, s168, x185, he_, ha_w465, h⟩
           refine ⟨b180, s168, x185, he_, ?_⟩
           clear he_
           obtain ⟨B1, B2, B3, B180, B199⟩ := ah5 ha_w465 B1 B2 B3 B180 B199
           obtain ⟨A, X, Y_⟩ := axa3 ha_w465 A X Y_
           replace X : Ext w465 w465 := Ext.refl _
           refine ⟨(Bar.of_ahead ha_w465), ?_⟩
           refine ⟨?_, ?_⟩
           ·replace h := h _ X A
            refine Calls.mono h ?_
            clear h
            rintro e184 w467 ⟨b181, s169, x186, he_, ha_w467, h⟩
            refine ⟨b181, s169, x186, he_, ?_⟩
            clear he_
            obtain ⟨B1, B2, B3, B180, B199⟩ := ah5 ha_w467 B1 B2 B3 B180 B199
            obtain ⟨A, X, Y_⟩ := axa3 ha_w467 A X Y_
            replace X : Ext w467 w467 := Ext.refl _
            refine newC_t fun bk200 u549 hb200 ha_u549 _ B200 => ?_
            have g200 := le_eq A.size hb200
            have l1_200 := lt5 hb200 B1 B2 B3 B180 B199
            have y200 := le_eq Y_ hb200
            obtain ⟨B1, B2, B3, B180, B199⟩ := ah5 ha_u549 B1 B2 B3 B180 B199
            obtain ⟨A, X, Y_⟩ := axa3 ha_u549 A X Y_
            refine bb3 ha_u549 ?_
            refine st3_t B199 rfl rfl rfl rfl fun u550 k_u550 B199 => ?_
            obtain ⟨B1, B2, B3, B180, B200⟩ := up5 k_u550 B1 B2 B3 B180 B200 (by omega)
            obtain ⟨A, X, Y_⟩ := axu3 k_u550 g199 A X Y_
            refine st3_t B200 rfl rfl rfl rfl fun u551 k_u551 B200 => ?_
            obtain ⟨B1, B2, B3, B180, B199⟩ := up5 k_u551 B1 B2 B3 B180 B199 (by omega)
            obtain ⟨A, X, Y_⟩ := axu3 k_u551 g200 A X Y_
            refine st3_t B180 rfl rfl rfl rfl fun u552 k_u552 B180 => ?_
            obtain ⟨B1, B2, B3, B199, B200⟩ := up5 k_u552 B1 B2 B3 B199 B200 (by omega)
            obtain ⟨A, X, Y_⟩ := axu3 k_u552 g180 A X Y_
            replace h := h _ X A
            exact ⟨bk199, bk200, bk180, b179, s167, x184, b180, s168, x185, b181, s169, x186, rfl, B199, g199, rfl, B200, g200, rfl, B180, g180, (by omega), (by omega), (by omega), A, h⟩
           ·refine newC_t fun bk201 u553 hb201 ha_u553 _ B201 => ?_
            have g201 := le_eq A.size hb201
            have l1_201 := lt5 hb201 B1 B2 B3 B180 B199
            have y201 := le_eq Y_ hb201
            obtain ⟨B1, B2, B3, B180, B199⟩ := ah5 ha_u553 B1 B2 B3 B180 B199
            obtain ⟨A, X, Y_⟩ := axa3 ha_u553 A X Y_
            refine bb3 ha_u553 ?_
            replace h := h _ X A
            refine Calls.mono h ?_
            clear h
            rintro e185 w470 ⟨b182, s170, x187, he_, ha_w470, h⟩
            refine ⟨b182, s170, x187, he_, ?_⟩
            clear he_
            obtain ⟨B1, B2, B3, B180, B199, B201⟩ := ah6 ha_w470 B1 B2 B3 B180 B199 B201
            obtain ⟨A, X, Y_⟩ := axa3 ha_w470 A X Y_
            replace X : Ext w470 w470 := Ext.refl _
            refine st3_t B199 rfl rfl rfl rfl fun u554 k_u554 B199 => ?_
            obtain ⟨B1, B2, B3, B180, B201⟩ := up5 k_u554 B1 B2 B3 B180 B201 (by omega)
            obtain ⟨A, X, Y_⟩ := axu3 k_u554 g199 A X Y_
            refine st3_t B201 rfl rfl rfl rfl fun u555 k_u555 B201 => ?_
            obtain ⟨B1, B2, B3, B180, B199⟩ := up5 k_u555 B1 B2 B3 B180 B199 (by omega)
            obtain ⟨A, X, Y_⟩ := axu3 k_u555 g201 A X Y_
            refine st3_t B180 rfl rfl rfl rfl fun u556 k_u556 B180 => ?_
            obtain ⟨B1, B2, B3, B199, B201⟩ := up5 k_u556 B1 B2 B3 B199 B201 (by omega)
            obtain ⟨A, X, Y_⟩ := axu3 k_u556 g180 A X Y_
            replace h := h _ X A
            exact ⟨bk199, bk201, bk180, b179, s167, x184, b180, s168, x185, b182, s170, x187, rfl, B199, g199, rfl, B201, g201, rfl, B180, g180, (by omega), (by omega), (by omega), A, h⟩
          ·refine newC_t fun bk202 u557 hb202 ha_u557 _ B202 => ?_
           have g202 := le_eq A.size hb202
           have l1_202 := lt5 hb202 B1 B2 B3 B180 B199
           have y202 := le_eq Y_ hb202
           obtain ⟨B1, B2, B3, B180, B199⟩ := ah5 ha_u557 B1 B2 B3 B180 B199
           obtain ⟨A, X, Y_⟩ := axa3 ha_u557 A X Y_
           refine bb3 ha_u557 ?_
           replace h := h _ X A
           refine Calls.mono h ?_
           clear h
           rintro e186 w473 ⟨b183, s171, x188, he_, ha_w473, h⟩
           refine ⟨b183, s171, x188, he_, ?_⟩
           clear he_
           obtain ⟨B1, B2, B3, B180, B199, B202⟩ := ah6 ha_w473 B1 B2 B3 B180 B199 B202
           obtain ⟨A, X, Y_⟩ := axa3 ha_w473 A X Y_
           replace X : Ext w473 w473 := Ext.refl _
           refine ⟨(Bar.of_ahead ha_w473), ?_⟩
           replace h := h _ X A
           refine Calls.mono h ?_
           clear h
           rintro e187 w475 ⟨b184, s172, x189, he_, ha_w475, h⟩
           refine ⟨b184, s172, x189, he_, ?_⟩
           clear he_
           obtain ⟨B1, B2, B3, B180, B199, B202⟩ := ah6 ha_w475 B1 B2 B3 B180 B199 B202
           obtain ⟨A, X, Y_⟩ := axa3 ha_w475 A X Y_
           replace X : Ext w475 w475 := Ext.refl _
           refine st3_t B199 rfl rfl rfl rfl fun u558 k_u558 B199 => ?_
           obtain ⟨B1, B2, B3, B180, B202⟩ := up5 k_u558 B1 B2 B3 B180 B202 (by omega)
           obtain ⟨A, X, Y_⟩ := axu3 k_u558 g199 A X Y_
           refine st3_t B202 rfl rfl rfl rfl fun u559 k_u559 B202 => ?_
           obtain ⟨B1, B2, B3, B180, B199⟩ := up5 k_u559 B1 B2 B3 B180 B199 (by omega)
           obtain ⟨A, X, Y_⟩ := axu3 k_u559 g202 A X Y_
           refine st3_t B180 rfl rfl rfl rfl fun u560 k_u560 B180 => ?_
           obtain ⟨B1, B2, B3, B199, B202⟩ := up5 k_u560 B1 B2 B3 B199 B202 (by omega)
           obtain ⟨A, X, Y_⟩ := axu3 k_u560 g180 A X Y_
           replace h := h _ X A
           exact ⟨bk199, bk202, bk180, b179, s167, x184, b183, s171, x188, b184, s172, x189, rfl, B199, g199, rfl, B202, g202, rfl, B180, g180, (by omega), (by omega), (by omega), A, h⟩
         ·refine newC_t fun bk203 u561 hb203 ha_u561 _ B203 => ?_
          have g203 := le_eq A.size hb203
          have l1_203 := lt5 hb203 B1 B2 B3 B180 B199
          have y203 := le_eq Y_ hb203
          obtain ⟨B1, B2, B3, B180, B199⟩ := ah5 ha_u561 B1 B2 B3 B180 B199
          obtain ⟨A, X, Y_⟩ := axa3 ha_u561 A X Y_
          refine bb3 ha_u561 ?_
          replace h := h _ X A
          refine Calls.mono h ?_
          clear h
          rintro e188 w478 ⟨b185, s173, x190, he_, ha_w478, h⟩
          refine ⟨b185, s173, x190, he_, ?_⟩
          clear he_
          obtain ⟨B1, B2, B3, B180, B199, B203⟩ := ah6 ha_w478 B1 B2 B3 B180 B199 B203
          obtain ⟨A, X, Y_⟩ := axa3 ha_w478 A X Y_
          replace X : Ext w478 w478 := Ext.refl _
          refine bb2 ha_w478 ?_
          replace h := h _ X A
          refine Calls.mono h ?_
          clear h
          rintro e189 w480 ⟨b186, s174, x191, he_, ha_w480, h⟩
          refine ⟨b186, s174, x191, he_, ?_⟩
          clear he_
          obtain ⟨B1, B2, B3, B180, B199, B203⟩ := ah6 ha_w480 B1 B2 B3 B180 B199 B203
          obtain ⟨A, X, Y_⟩ := axa3 ha_w480 A X Y_
          replace X : Ext w480 w480 := Ext.refl _
          refine ⟨(Bar.of_ahead ha_w480), ?_⟩
          replace h := h _ X A
          refine Calls.mono h ?_
          clear h
          rintro e190 w482 ⟨b187, s175, x192, he_, ha_w482, h⟩
          refine ⟨b187, s175, x192, he_, ?_⟩
          clear he_
          obtain ⟨B1, B2, B3, B180, B199, B203⟩ := ah6 ha_w482 B1 B2 B3 B180 B199 B203
          obtain ⟨A, X, Y_⟩ := axa3 ha_w482 A X Y_
          replace X : Ext w482 w482 := Ext.refl _
          refine st3_t B199 rfl rfl rfl rfl fun u562 k_u562 B199 => ?_
          obtain ⟨B1, B2, B3, B180, B203⟩ := up5 k_u562 B1 B2 B3 B180 B203 (by omega)
          obtain ⟨A, X, Y_⟩ := axu3 k_u562 g199 A X Y_
          refine st3_t B203 rfl rfl rfl rfl fun u563 k_u563 B203 => ?_
          obtain ⟨B1, B2, B3, B180, B199⟩ := up5 k_u563 B1 B2 B3 B180 B199 (by omega)
          obtain ⟨A, X, Y_⟩ := axu3 k_u563 g203 A X Y_
          refine st3_t B180 rfl rfl rfl rfl fun u564 k_u564 B180 => ?_
          obtain ⟨B1, B2, B3, B199, B203⟩ := up5 k_u564 B1 B2 B3 B199 B203 (by omega)
          obtain ⟨A, X, Y_⟩ := axu3 k_u564 g180 A X Y_
          replace h := h _ X A
          exact ⟨bk199, bk203, bk180, b185, s173, x190, b186, s174, x191, b187, s175, x192, rfl, B199, g199, rfl, B203, g203, rfl, B180, g180, (by omega), (by omega), (by omega), A, h⟩
        ·refine newC_t fun bk204 u565 hb204 ha_u565 _ B204 => ?_
         have g204 := le_eq A.size hb204
         have l1_204 := lt4 hb204 B1 B2 B3 B180
         have y204 := le_eq Y_ hb204
         obtain ⟨B1, B2, B3, B180⟩ := ah4 ha_u565 B1 B2 B3 B180
         obtain ⟨A, X, Y_⟩ := axa3 ha_u565 A X Y_
         refine bb3 ha_u565 ?_
         refine ⟨?_, ?_⟩
         ·replace h := h _ X A
          refine Calls.mono h ?_
          clear h
          rintro e191 w485 ⟨b188, s176, x193, he_, ha_w485, h⟩
          refine ⟨b188, s176, x193, he_, ?_⟩
          clear he_
          obtain ⟨B1, B2, B3, B180, B204⟩ := ah5 ha_w485 B1 B2 B3 B180 B204
          obtain ⟨A, X, Y_⟩ := axa3 ha_w485 A X Y_
          replace X : Ext w485 w485 := Ext.refl _
          refine bb2 ha_w485 ?_
          refine ⟨?_, ?_⟩
          ·replace h := h _ X A
           refine Calls.mono h ?_
           clear h
           rintro e192 w487 ⟨b189, s177, x194, he_, ha_w487, h⟩
           refine ⟨b189, s177, x194, he_, ?_⟩
           clear he_
           obtain ⟨B1, B2, B3, B180, B204⟩ := ah5 ha_w487 B1 B2 B3 B180 B204
           obtain ⟨A, X, Y_⟩ := axa3 ha_w487 A X Y_
           replace X : Ext w487 w487 := Ext.refl _
           refine ⟨(Bar.of_ahead ha_w487), ?_⟩
           refine ⟨?_, ?_⟩
           ·replace h := h _ X A
            refine Calls.mono h ?_
            clear h
            rintro e193 w489 ⟨b190, s178, x195, he_, ha_w489, h⟩
            refine ⟨b190, s178, x195, he_, ?_⟩
            clear he_
            obtain ⟨B1, B2, B3, B180, B204⟩ := ah5 ha_w489 B1 B2 B3 B180 B204
            obtain ⟨A, X, Y_⟩ := axa3 ha_w489 A X Y_
            replace X : Ext w489 w489 := Ext.refl _
            refine newC_t fun bk205 u566 hb205 ha_u566 _ B205 => ?_
            have g205 := le_eq A.size hb205
            have l1_205 := lt5 hb205 B1 B2 B3 B180 B204
            have y205 := le_eq Y_ hb205
            obtain ⟨B1, B2, B3, B180, B204⟩ := ah5 ha_u566 B1 B2 B3 B180 B204
            obtain ⟨A, X, Y_⟩ := axa3 ha_u566 A X Y_
            refine bb3 ha_u566 ?_
            refine st3_t B205 rfl rfl rfl rfl fun u567 k_u567 B205 => ?_
            obtain ⟨B1, B2, B3, B180, B204⟩ := up5 k_u567 B1 B2 B3 B180 B204 (by omega)
            obtain ⟨A, X, Y_⟩ := axu3 k_u567 g205 A X Y_
            refine st3_t B204 rfl rfl rfl rfl fun u568 k_u568 B204 => ?_
            obtain ⟨B1, B2, B3, B180, B205⟩ := up5 k_u568 B1 B2 B3 B180 B205 (by omega)
            obtain ⟨A, X, Y_⟩ := axu3 k_u568 g204 A X Y_
            refine st3_t B180 rfl rfl rfl rfl fun u569 k_u569 B180 => ?_
            obtain ⟨B1, B2, B3, B204, B205⟩ := up5 k_u569 B1 B2 B3 B204 B205 (by omega)
            obtain ⟨A, X, Y_⟩ := axu3 k_u569 g180 A X Y_
            replace h := h _ X A
            exact ⟨bk205, bk204, bk180, b188, s176, x193, b189, s177, x194, b190, s178, x195, rfl, B205, g205, rfl, B204, g204, rfl, B180, g180, (by omega), (by omega), (by omega), A, h⟩
           ·refine newC_t fun bk206 u570 hb206 ha_u570 _ B206 => ?_
            have g206 := le_eq A.size hb206
            have l1_206 := lt5 hb206 B1 B2 B3 B180 B204
            have y206 := le_eq Y_ hb206
            obtain ⟨B1, B2, B3, B180, B204⟩ := ah5 ha_u570 B1 B2 B3 B180 B204
            obtain ⟨A, X, Y_⟩ := axa3 ha_u570 A X Y_
            refine bb3 ha_u570 ?_
            replace h := h _ X A
            refine Calls.mono h ?_
            clear h
            rintro e194 w492 ⟨b191, s179, x196, he_, ha_w492, h⟩
            refine ⟨b191, s179, x196, he_, ?_⟩
            clear he_
            obtain ⟨B1, B2, B3, B180, B204, B206⟩ := ah6 ha_w492 B1 B2 B3 B180 B204 B206
            obtain ⟨A, X, Y_⟩ := axa3 ha_w492 A X Y_
            replace X : Ext w492 w492 := Ext.refl _
            refine st3_t B206 rfl rfl rfl rfl fun u571 k_u571 B206 => ?_
            obtain ⟨B1, B2, B3, B180, B204⟩ := up5 k_u571 B1 B2 B3 B180 B204 (by omega)
            obtain ⟨A, X, Y_⟩ := axu3 k_u571 g206 A X Y_
            refine st3_t B204 rfl rfl rfl rfl fun u572 k_u572 B204 => ?_
            obtain ⟨B1, B2, B3, B180, B206⟩ := up5 k_u572 B1 B2 B3 B180 B206 (by omega)
            obtain ⟨A, X, Y_⟩ := axu3 k_u572 g204 A X Y_
            refine st3_t B180 rfl rfl rfl rfl fun u573 k_u573 B180 => ?_
            obtain ⟨B1, B2, B3, B204, B206⟩ := up5 k_u573 B1 B2 B3 B204 B206 (by omega)
            obtain ⟨A, X, Y_⟩ := axu3 k_u573 g180 A X Y_
            replace h := h _ X A
            exact ⟨bk206, bk204, bk180, b188, s176, x193, b189, s177, x194, b191, s179, x196, rfl, B206, g206, rfl, B204, g204, rfl, B180, g180, (by omega), (by omega), (by omega), A, h⟩
          ·refine newC_t fun bk207 u574 hb207 ha_u574 _ B207 => ?_
           have g207 := le_eq A.size hb207
           have l1_207 := lt5 hb207 B1 B2 B3 B180 B204
           have y207 := le_eq Y_ hb207
           obtain ⟨B1, B2, B3, B180, B204⟩ := ah5 ha_u574 B1 B2 B3 B180 B204
           obtain ⟨A, X, Y_⟩ := axa3 ha_u574 A X Y_
           refine bb3 ha_u574 ?_
           replace h := h _ X A
           refine Calls.mono h ?_
           clear h
           rintro e195 w495 ⟨b192, s180, x197, he_, ha_w495, h⟩
           refine ⟨b192, s180, x197, he_, ?_⟩
           clear he_
           obtain ⟨B1, B2, B3, B180, B204, B207⟩ := ah6 ha_w495 B1 B2 B3 B180 B204 B207
           obtain ⟨A, X, Y_⟩ := axa3 ha_w495 A X Y_
           replace X : Ext w495 w495 := Ext.refl _
           refine ⟨(Bar.of_ahead ha_w495), ?_⟩
           replace h := h _ X A
           refine Calls.mono h ?_
           clear h
           rintro e196 w497 ⟨b193, s181, x198, he_, ha_w497, h⟩
           refine ⟨b193, s181, x198, he_, ?_⟩
           clear he_
           obtain ⟨B1, B2, B3, B180, B204, B207⟩ := ah6 ha_w497 B1 B2 B3 B180 B204 B207
           obtain ⟨A, X, Y_⟩ := axa3 ha_w497 A X Y_
           replace X : Ext w497 w497 := Ext.refl _
           refine st3_t B207 rfl rfl rfl rfl fun u575 k_u575 B207 => ?_
           obtain ⟨B1, B2, B3, B180, B204⟩ := up5 k_u575 B1 B2 B3 B180 B204 (by omega)
           obtain ⟨A, X, Y_⟩ := axu3 k_u575 g207 A X Y_
           refine st3_t B204 rfl rfl rfl rfl fun u576 k_u576 B204 => ?_
           obtain ⟨B1, B2, B3, B180, B207⟩ := up5 k_u576 B1 B2 B3 B180 B207 (by omega)
           obtain ⟨A, X, Y_⟩ := axu3 k_u576 g204 A X Y_
           refine st3_t B180 rfl rfl rfl rfl fun u577 k_u577 B180 => ?_
           obtain ⟨B1, B2, B3, B204, B207⟩ := up5 k_u577 B1 B2 B3 B204 B207 (by omega)
           obtain ⟨A, X, Y_⟩ := axu3 k_u577 g180 A X Y_
           replace h := h _ X A
           exact ⟨bk207, bk204, bk180, b188, s176, x193, b192, s180, x197, b193, s181, x198, rfl, B207, g207, rfl, B204, g204, rfl, B180, g180, (by omega), (by omega), (by omega), A, h⟩
         ·refine newC_t fun bk208 u578 hb208 ha_u578 _ B208 => ?_
          have g208 := le_eq A.size hb208
          have l1_208 := lt5 hb208 B1 B2 B3 B180 B204
          have y208 := le_eq Y_ hb208
          obtain ⟨B1, B2, B3, B180, B204⟩ := ah5 ha_u578 B1 B2 B3 B180 B204
          obtain ⟨A, X, Y_⟩ := axa3 ha_u578 A X Y_
          refine bb3 ha_u578 ?_
          replace h := h _ X A
          refine Calls.mono h ?_
          clear h
          rintro e197 w500 ⟨b194, s182, x199, he_, ha_w500, h⟩
          refine ⟨b194, s182, x199, he_, ?_⟩
          clear he_
          obtain ⟨B1, B2, B3, B180, B204, B208⟩ := ah6 ha_w500 B1 B2 B3 B180 B204 B208
          obtain ⟨A, X, Y_⟩ := axa3 ha_w500 A X Y_
          replace X : Ext w500 w500 := Ext.refl _
          refine bb2 ha_w500 ?_
          replace h := h _ X A
          refine Calls.mono h ?_
          clear h
          rintro e198 w502 ⟨b195, s183, x200, he_, ha_w502, h⟩
          refine ⟨b195, s183, x200, he_, ?_⟩
          clear he_
          obtain ⟨B1, B2, B3, B180, B204, B208⟩ := ah6 ha_w502 B1 B2 B3 B180 B204 B208
          obtain ⟨A, X, Y_⟩ := axa3 ha_w502 A X Y_
          replace X : Ext w502 w502 := Ext.refl _
          refine ⟨(Bar.of_ahead ha_w502), ?_⟩
          replace h := h _ X A
          refine Calls.mono h ?_
          clear h
          rintro e199 w504 ⟨b196, s184, x201, he_, ha_w504, h⟩
          refine ⟨b196, s184, x201, he_, ?_⟩
          clear he_
          obtain ⟨B1, B2, B3, B180, B204, B208⟩ := ah6 ha_w504 B1 B2 B3 B180 B204 B208
          obtain ⟨A, X, Y_⟩ := axa3 ha_w504 A X Y_
          replace X : Ext w504 w504 := Ext.refl _
          refine st3_t B208 rfl rfl rfl rfl fun u579 k_u579 B208 => ?_
          obtain ⟨B1, B2, B3, B180, B204⟩ := up5 k_u579 B1 B2 B3 B180 B204 (by omega)
          obtain ⟨A, X, Y_⟩ := axu3 k_u579 g208 A X Y_
          refine st3_t B204 rfl rfl rfl rfl fun u580 k_u580 B204 => ?_
          obtain ⟨B1, B2, B3, B180, B208⟩ := up5 k_u580 B1 B2 B3 B180 B208 (by omega)
          obtain ⟨A, X, Y_⟩ := axu3 k_u580 g204 A X Y_
          refine st3_t B180 rfl rfl rfl rfl fun u581 k_u581 B180 => ?_
          obtain ⟨B1, B2, B3, B204, B208⟩ := up5 k_u581 B1 B2 B3 B204 B208 (by omega)
          obtain ⟨A, X, Y_⟩ := axu3 k_u581 g180 A X Y_
          replace h := h _ X A
          exact ⟨bk208, bk204, bk180, b194, s182, x199, b195, s183, x200, b196, s184, x201, rfl, B208, g208, rfl, B204, g204, rfl, B180, g180, (by omega), (by omega), (by omega), A, h⟩
  · clear h
    rintro t7 t8 t9 w_ ⟨bk4, bk5, bk6, t7_0, t7_1, t7_2, t8_0, t8_1, t8_2, t9_0, t9_1, t9_2, rfl, B4, g4, rfl, B5, g5, rfl, B6, g6, n4_5, n4_6, n5_6, A, hJ3000003⟩
    have h := h3000003  t7_0 t7_1 t7_2 t8_0 t8_1 t8_2 t9_0 t9_1 t9_2 w_ A hJ3000003
    have X : Ext w_ w_ := Ext.refl _
    refine ldB_t 0 B4 rfl ?_
    refine ldS_t 1 B4 rfl ?_
    refine ldI_t 2 B4 rfl ?_
    refine ldB_t 0 B5 rfl ?_
    refine ldS_t 1 B5 rfl ?_
    refine ldI_t 2 B5 rfl ?_
    refine Calls.mono h ?_
    clear h
    rintro e4 w7 ⟨b4, s4, x4, x5, he_, ha_w7, h⟩
    refine ⟨b4, s4, x4, x5, he_, ?_⟩
    clear he_
    obtain ⟨B4, B5, B6⟩ := ah3 ha_w7 B4 B5 B6
    obtain ⟨A, X⟩ := axa2 ha_w7 A X
    replace X : Ext w7 w7 := Ext.refl _
    refine newC_t fun bk7 u10 hb7 ha_u10 _ B7 => ?_
    have g7 := le_eq A.size hb7
    have l4_7 := lt3 hb7 B4 B5 B6
    obtain ⟨B4, B5, B6⟩ := ah3 ha_u10 B4 B5 B6
    obtain ⟨A, X⟩ := axa2 ha_u10 A X
    refine st3_t B7 rfl rfl rfl rfl fun u11 k_u11 B7 => ?_
    obtain ⟨B4, B5, B6⟩ := up3 k_u11 B4 B5 B6 (by omega)
    obtain ⟨A, X⟩ := axu2 k_u11 g7 A X
    refine ldB_t 0 B5 rfl ?_
    refine ldS_t 1 B5 rfl ?_
    refine ldI_t 2 B5 rfl ?_
    refine ldB_t 0 B4 rfl ?_
    refine ldS_t 1 B4 rfl ?_
    refine ldI_t 2 B4 rfl ?_
    replace h := h _ X A
    refine Calls.mono h ?_
    clear h
    rintro e5 w9 ⟨b5, s5, x6, x7, he_, ha_w9, h⟩
    refine ⟨b5, s5, x6, x7, he_, ?_⟩
    clear he_
    obtain ⟨B4, B5, B6, B7⟩ := ah4 ha_w9 B4 B5 B6 B7
    obtain ⟨A, X⟩ := axa2 ha_w9 A X
    replace X : Ext w9 w9 := Ext.refl _
    refine newC_t fun bk8 u12 hb8 ha_u12 _ B8 => ?_
    have g8 := le_eq A.size hb8
    have l4_8 := lt4 hb8 B4 B5 B6 B7
    obtain ⟨B4, B5, B6, B7⟩ := ah4 ha_u12 B4 B5 B6 B7
    obtain ⟨A, X⟩ := axa2 ha_u12 A X
    refine st3_t B8 rfl rfl rfl rfl fun u13 k_u13 B8 => ?_
    obtain ⟨B4, B5, B6, B7⟩ := up4 k_u13 B4 B5 B6 B7 (by omega)
    obtain ⟨A, X⟩ := axu2 k_u13 g8 A X
    refine ldB_t 0 B4 rfl ?_
    refine ldS_t 1 B4 rfl ?_
    refine ldI_t 2 B4 rfl ?_
    refine ldB_t 0 B6 rfl ?_
    refine ldS_t 1 B6 rfl ?_
    refine ldI_t 2 B6 rfl ?_
    replace h := h _ X A
    refine Calls.mono h ?_
    clear h
    rintro e6 w11 ⟨b6, s6, x8, x9, he_, ha_w11, h⟩
    refine ⟨b6, s6, x8, x9, he_, ?_⟩
    clear he_
    obtain ⟨B4, B5, B6, B7, B8⟩ := ah5 ha_w11 B4 B5 B6 B7 B8
    obtain ⟨A, X⟩ := axa2 ha_w11 A X
    replace X : Ext w11 w11 := Ext.refl _
    refine newC_t fun bk9 u14 hb9 ha_u14 _ B9 => ?_
    have g9 := le_eq A.size hb9
    have l4_9 := lt5 hb9 B4 B5 B6 B7 B8
    obtain ⟨B4, B5, B6, B7, B8⟩ := ah5 ha_u14 B4 B5 B6 B7 B8
    obtain ⟨A, X⟩ := axa2 ha_u14 A X
    refine st3_t B9 rfl rfl rfl rfl fun u15 k_u15 B9 => ?_
    obtain ⟨B4, B5, B6, B7, B8⟩ := up5 k_u15 B4 B5 B6 B7 B8 (by omega)
    obtain ⟨A, X⟩ := axu2 k_u15 g9 A X
    refine ldB_t 0 B5 rfl ?_
    refine ldS_t 1 B5 rfl ?_
    refine ldI_t 2 B5 rfl ?_
    refine ldB_t 0 B6 rfl ?_
    refine ldS_t 1 B6 rfl ?_
    refine ldI_t 2 B6 rfl ?_
    replace h := h _ X A
    refine Calls.mono h ?_
    clear h
    rintro e7 w13 ⟨b7, s7, x10, x11, he_, ha_w13, h⟩
    refine ⟨b7, s7, x10, x11, he_, ?_⟩
    clear he_
    obtain ⟨B4, B5, B6, B7, B8, B9⟩ := ah6 ha_w13 B4 B5 B6 B7 B8 B9
    obtain ⟨A, X⟩ := axa2 ha_w13 A X
    replace X : Ext w13 w13 := Ext.refl _
    refine newC_t fun bk10 u16 hb10 ha_u16 _ B10 => ?_
    have g10 := le_eq A.size hb10
    have l4_10 := lt6 hb10 B4 B5 B6 B7 B8 B9
    obtain ⟨B4, B5, B6, B7, B8, B9⟩ := ah6 ha_u16 B4 B5 B6 B7 B8 B9
    obtain ⟨A, X⟩ := axa2 ha_u16 A X
    refine st3_t B10 rfl rfl rfl rfl fun u17 k_u17 B10 => ?_
    obtain ⟨B4, B5, B6, B7, B8, B9⟩ := up6 k_u17 B4 B5 B6 B7 B8 B9 (by omega)
    obtain ⟨A, X⟩ := axu2 k_u17 g10 A X
    refine ldB_t 0 B5 rfl ?_
    refine ldS_t 1 B5 rfl ?_
    refine ldI_t 2 B5 rfl ?_
    refine ldB_t 0 B6 rfl ?_
    refine ldS_t 1 B6 rfl ?_
    refine ldI_t 2 B6 rfl ?_
    replace h := h _ X A
    refine Calls.mono h ?_
    clear h
    rintro e8 w15 ⟨b8, s8, x12, x13, he_, ha_w15, h⟩
    refine ⟨b8, s8, x12, x13, he_, ?_⟩
    clear he_
    obtain ⟨B4, B5, B6, B7, B8, B9, B10⟩ := ah7 ha_w15 B4 B5 B6 B7 B8 B9 B10
    obtain ⟨A, X⟩ := axa2 ha_w15 A X
    replace X : Ext w15 w15 := Ext.refl _
    refine newC_t fun bk11 u18 hb11 ha_u18 _ B11 => ?_
    have g11 := le_eq A.size hb11
    have l4_11 := lt7 hb11 B4 B5 B6 B7 B8 B9 B10
    obtain ⟨B4, B5, B6, B7, B8, B9, B10⟩ := ah7 ha_u18 B4 B5 B6 B7 B8 B9 B10
    obtain ⟨A, X⟩ := axa2 ha_u18 A X
    refine st3_t B11 rfl rfl rfl rfl fun u19 k_u19 B11 => ?_
    obtain ⟨B4, B5, B6, B7, B8, B9, B10⟩ := up7 k_u19 B4 B5 B6 B7 B8 B9 B10 (by omega)
    obtain ⟨A, X⟩ := axu2 k_u19 g11 A X
    refine ldB_t 0 B6 rfl ?_
    refine ldS_t 1 B6 rfl ?_
    refine ldI_t 2 B6 rfl ?_
    refine ldB_t 0 B5 rfl ?_
    refine ldS_t 1 B5 rfl ?_
    refine ldI_t 2 B5 rfl ?_
    replace h := h _ X A
    refine Calls.mono h ?_
    clear h
    rintro e9 w17 ⟨b9, s9, x14, x15, he_, ha_w17, h⟩
    refine ⟨b9, s9, x14, x15, he_, ?_⟩
    clear he_
    obtain ⟨B4, B5, B6, B7, B8, B9, B10, B11⟩ := ah8 ha_w17 B4 B5 B6 B7 B8 B9 B10 B11
    obtain ⟨A, X⟩ := axa2 ha_w17 A X
    replace X : Ext w17 w17 := Ext.refl _
    refine newC_t fun bk12 u20 hb12 ha_u20 _ B12 => ?_
    have g12 := le_eq A.size hb12
    have l4_12 := lt8 hb12 B4 B5 B6 B7 B8 B9 B10 B11
    obtain ⟨B4, B5, B6, B7, B8, B9, B10, B11⟩ := ah8 ha_u20 B4 B5 B6 B7 B8 B9 B10 B11
    obtain ⟨A, X⟩ := axa2 ha_u20 A X
    refine st3_t B12 rfl rfl rfl rfl fun u21 k_u21 B12 => ?_
    obtain ⟨B4, B5, B6, B7, B8, B9, B10, B11⟩ := up8 k_u21 B4 B5 B6 B7 B8 B9 B10 B11 (by omega)
    obtain ⟨A, X⟩ := axu2 k_u21 g12 A X
    refine ldB_t 0 B4 rfl ?_
    refine ldS_t 1 B4 rfl ?_
    refine ldI_t 2 B4 rfl ?_
    refine ldB_t 0 B5 rfl ?_
    refine ldS_t 1 B5 rfl ?_
    refine ldI_t 2 B5 rfl ?_
    replace h := h _ X A
    refine Calls.mono h ?_
    clear h
    rintro e10 w19 ⟨b10, s10, x16, x17, he_, ha_w19, h⟩
    refine ⟨b10, s10, x16, x17, he_, ?_⟩
    clear he_
    obtain ⟨B4, B5, B6, B7, B8, B9, B10, B11⟩ := ah8 ha_w19 B4 B5 B6 B7 B8 B9 B10 B11
    replace B12 := B12.ahead ha_w19
    obtain ⟨A, X⟩ := axa2 ha_w19 A X
    replace X : Ext w19 w19 := Ext.refl _
    refine newC_t fun bk13 u22 hb13 ha_u22 _ B13 => ?_
    have g13 := le_eq A.size hb13
    have l4_13 := lt8 hb13 B4 B5 B6 B7 B8 B9 B10 B11
    have l12_13 := lt1 hb13 B12
    obtain ⟨B4, B5, B6, B7, B8, B9, B10, B11⟩ := ah8 ha_u22 B4 B5 B6 B7 B8 B9 B10 B11
    replace B12 := B12.ahead ha_u22
    obtain ⟨A, X⟩ := axa2 ha_u22 A X
    refine st3_t B13 rfl rfl rfl rfl fun u23 k_u23 B13 => ?_
    obtain ⟨B4, B5, B6, B7, B8, B9, B10, B11⟩ := up8 k_u23 B4 B5 B6 B7 B8 B9 B10 B11 (by omega)
    replace B12 := k_u23.blt B12 (by omega)
    obtain ⟨A, X⟩ := axu2 k_u23 g13 A X
    refine ldB_t 0 B4 rfl ?_
    refine ldS_t 1 B4 rfl ?_
    refine ldI_t 2 B4 rfl ?_
    refine ldB_t 0 B5 rfl ?_
    refine ldS_t 1 B5 rfl ?_
    refine ldI_t 2 B5 rfl ?_
    replace h := h _ X A
    refine Calls.mono h ?_
    clear h
    rintro e11 w21 ⟨x18, x19, he_, ha_w21, h⟩
    refine ⟨x18, x19, he_, ?_⟩
    clear he_
    obtain ⟨B4, B5, B6, B7, B8, B9, B10, B11⟩ := ah8 ha_w21 B4 B5 B6 B7 B8 B9 B10 B11
    obtain ⟨B12, B13⟩ := ah2 ha_w21 B12 B13
    obtain ⟨A, X⟩ := axa2 ha_w21 A X
    replace X : Ext w21 w21 := Ext.refl _
    refine newC_map h fun ad1 w22 ha_w22 h_ => ?_
    clear h
    have h := h_
    clear h_
    obtain ⟨B4, B5, B6, B7, B8, B9, B10, B11⟩ := ah8 ha_w22 B4 B5 B6 B7 B8 B9 B10 B11
    obtain ⟨B12, B13⟩ := ah2 ha_w22 B12 B13
    obtain ⟨A, X⟩ := axa2 ha_w22 A X
    replace X : Ext w22 w22 := Ext.refl _
    refine Calls.mono h ?_
    clear h
    rintro e12 w23 ⟨b11, he_, ha_w23, h⟩
    refine ⟨b11, he_, ?_⟩
    clear he_
    obtain ⟨B4, B5, B6, B7, B8, B9, B10, B11⟩ := ah8 ha_w23 B4 B5 B6 B7 B8 B9 B10 B11
    obtain ⟨B12, B13⟩ := ah2 ha_w23 B12 B13
    obtain ⟨A, X⟩ := axa2 ha_w23 A X
    replace X : Ext w23 w23 := Ext.refl _
    refine br_map h (fun h_ => ?_) (fun h_ => ?_)
    ·clear h
     have h := h_
     clear h_
     refine Calls.mono h ?_
     clear h
     rintro e13 w24 ⟨b12, he_, ha_w24, h⟩
     refine ⟨b12, he_, ?_⟩
     clear he_
     obtain ⟨B4, B5, B6, B7, B8, B9, B10, B11⟩ := ah8 ha_w24 B4 B5 B6 B7 B8 B9 B10 B11
     obtain ⟨B12, B13⟩ := ah2 ha_w24 B12 B13
     obtain ⟨A, X⟩ := axa2 ha_w24 A X
     replace X : Ext w24 w24 := Ext.refl _
     exact ⟨A, h⟩
    ·clear h
     have h := h_
     clear h_
     refine ldB_t 0 B7 rfl ?_
     refine ldS_t 1 B7 rfl ?_
     refine ldI_t 2 B7 rfl ?_
     refine ldB_t 0 B6 rfl ?_
     refine ldS_t 1 B6 rfl ?_
     refine ldI_t 2 B6 rfl ?_
     refine Calls.mono h ?_
     clear h
     rintro e14 w25 ⟨b13, s11, x20, x21, he_, ha_w25, h⟩
     refine ⟨b13, s11, x20, x21, he_, ?_⟩
     clear he_
     obtain ⟨B4, B5, B6, B7, B8, B9, B10, B11⟩ := ah8 ha_w25 B4 B5 B6 B7 B8 B9 B10 B11
     obtain ⟨B12, B13⟩ := ah2 ha_w25 B12 B13
     obtain ⟨A, X⟩ := axa2 ha_w25 A X
     replace X : Ext w25 w25 := Ext.refl _
     refine newC_t fun bk14 u24 hb14 ha_u24 _ B14 => ?_
     have g14 := le_eq A.size hb14
     have l4_14 := lt8 hb14 B4 B5 B6 B7 B8 B9 B10 B11
     have l12_14 := lt2 hb14 B12 B13
     obtain ⟨B4, B5, B6, B7, B8, B9, B10, B11⟩ := ah8 ha_u24 B4 B5 B6 B7 B8 B9 B10 B11
     obtain ⟨B12, B13⟩ := ah2 ha_u24 B12 B13
     obtain ⟨A, X⟩ := axa2 ha_u24 A X
     refine st3_t B14 rfl rfl rfl rfl fun u25 k_u25 B14 => ?_
     obtain ⟨B4, B5, B6, B7, B8, B9, B10, B11⟩ := up8 k_u25 B4 B5 B6 B7 B8 B9 B10 B11 (by omega)
     obtain ⟨B12, B13⟩ := up2 k_u25 B12 B13 (by omega)
     obtain ⟨A, X⟩ := axu2 k_u25 g14 A X
     refine ldB_t 0 B4 rfl ?_
     refine ldS_t 1 B4 rfl ?_
     refine ldI_t 2 B4 rfl ?_
     refine ldB_t 0 B10 rfl ?_
     refine ldS_t 1 B10 rfl ?_
     refine ldI_t 2 B10 rfl ?_
     replace h := h _ X A
     refine Calls.mono h ?_
     clear h
     rintro e15 w27 ⟨b14, s12, x22, x23, he_, ha_w27, h⟩
     refine ⟨b14, s12, x22, x23, he_, ?_⟩
     clear he_
     obtain ⟨B4, B5, B6, B7, B8, B9, B10, B11⟩ := ah8 ha_w27 B4 B5 B6 B7 B8 B9 B10 B11
     obtain ⟨B12, B13, B14⟩ := ah3 ha_w27 B12 B13 B14
     obtain ⟨A, X⟩ := axa2 ha_w27 A X
     replace X : Ext w27 w27 := Ext.refl _
     refine newC_t fun bk15 u26 hb15 ha_u26 _ B15 => ?_
     have g15 := le_eq A.size hb15
     have l4_15 := lt8 hb15 B4 B5 B6 B7 B8 B9 B10 B11
     have l12_15 := lt3 hb15 B12 B13 B14
     obtain ⟨B4, B5, B6, B7, B8, B9, B10, B11⟩ := ah8 ha_u26 B4 B5 B6 B7 B8 B9 B10 B11
     obtain ⟨B12, B13, B14⟩ := ah3 ha_u26 B12 B13 B14
     obtain ⟨A, X⟩ := axa2 ha_u26 A X
     refine st3_t B15 rfl rfl rfl rfl fun u27 k_u27 B15 => ?_
     obtain ⟨B4, B5, B6, B7, B8, B9, B10, B11⟩ := up8 k_u27 B4 B5 B6 B7 B8 B9 B10 B11 (by omega)
     obtain ⟨B12, B13, B14⟩ := up3 k_u27 B12 B13 B14 (by omega)
     obtain ⟨A, X⟩ := axu2 k_u27 g15 A X
     refine ldB_t 0 B4 rfl ?_
     refine ldS_t 1 B4 rfl ?_
     refine ldI_t 2 B4 rfl ?_
     refine ldB_t 0 B11 rfl ?_
     refine ldS_t 1 B11 rfl ?_
     refine ldI_t 2 B11 rfl ?_
     replace h := h _ X A
     refine Calls.mono h ?_
     clear h
     rintro e16 w29 ⟨b15, s13, x24, x25, he_, ha_w29, h⟩
     refine ⟨b15, s13, x24, x25, he_, ?_⟩
     clear he_
     obtain ⟨B4, B5, B6, B7, B8, B9, B10, B11⟩ := ah8 ha_w29 B4 B5 B6 B7 B8 B9 B10 B11
     obtain ⟨B12, B13, B14, B15⟩ := ah4 ha_w29 B12 B13 B14 B15
     obtain ⟨A, X⟩ := axa2 ha_w29 A X
     replace X : Ext w29 w29 := Ext.refl _
     refine newC_t fun bk16 u28 hb16 ha_u28 _ B16 => ?_
     have g16 := le_eq A.size hb16
     have l4_16 := lt8 hb16 B4 B5 B6 B7 B8 B9 B10 B11
     have l12_16 := lt4 hb16 B12 B13 B14 B15
     obtain ⟨B4, B5, B6, B7, B8, B9, B10, B11⟩ := ah8 ha_u28 B4 B5 B6 B7 B8 B9 B10 B11
     obtain ⟨B12, B13, B14, B15⟩ := ah4 ha_u28 B12 B13 B14 B15
     obtain ⟨A, X⟩ := axa2 ha_u28 A X
     refine st3_t B16 rfl rfl rfl rfl fun u29 k_u29 B16 => ?_
     obtain ⟨B4, B5, B6, B7, B8, B9, B10, B11⟩ := up8 k_u29 B4 B5 B6 B7 B8 B9 B10 B11 (by omega)
     obtain ⟨B12, B13, B14, B15⟩ := up4 k_u29 B12 B13 B14 B15 (by omega)
     obtain ⟨A, X⟩ := axu2 k_u29 g16 A X
     refine ldB_t 0 B7 rfl ?_
     refine ldS_t 1 B7 rfl ?_
     refine ldI_t 2 B7 rfl ?_
     refine ldB_t 0 B9 rfl ?_
     refine ldS_t 1 B9 rfl ?_
     refine ldI_t 2 B9 rfl ?_
     replace h := h _ X A
     refine Calls.mono h ?_
     clear h
     rintro e17 w31 ⟨b16, s14, x26, x27, he_, ha_w31, h⟩
     refine ⟨b16, s14, x26, x27, he_, ?_⟩
     clear he_
     obtain ⟨B4, B5, B6, B7, B8, B9, B10, B11⟩ := ah8 ha_w31 B4 B5 B6 B7 B8 B9 B10 B11
     obtain ⟨B12, B13, B14, B15, B16⟩ := ah5 ha_w31 B12 B13 B14 B15 B16
     obtain ⟨A, X⟩ := axa2 ha_w31 A X
     replace X : Ext w31 w31 := Ext.refl _
     refine newC_t fun bk17 u30 hb17 ha_u30 _ B17 => ?_
     have g17 := le_eq A.size hb17
     have l4_17 := lt8 hb17 B4 B5 B6 B7 B8 B9 B10 B11
     have l12_17 := lt5 hb17 B12 B13 B14 B15 B16
     obtain ⟨B4, B5, B6, B7, B8, B9, B10, B11⟩ := ah8 ha_u30 B4 B5 B6 B7 B8 B9 B10 B11
     obtain ⟨B12, B13, B14, B15, B16⟩ := ah5 ha_u30 B12 B13 B14 B15 B16
     obtain ⟨A, X⟩ := axa2 ha_u30 A X
     refine st3_t B17 rfl rfl rfl rfl fun u31 k_u31 B17 => ?_
     obtain ⟨B4, B5, B6, B7, B8, B9, B10, B11⟩ := up8 k_u31 B4 B5 B6 B7 B8 B9 B10 B11 (by omega)
     obtain ⟨B12, B13, B14, B15, B16⟩ := up5 k_u31 B12 B13 B14 B15 B16 (by omega)
     obtain ⟨A, X⟩ := axu2 k_u31 g17 A X
     refine ldB_t 0 B13 rfl ?_
     refine ldS_t 1 B13 rfl ?_
     refine ldI_t 2 B13 rfl ?_
     refine ldB_t 0 B5 rfl ?_
     refine ldS_t 1 B5 rfl ?_
     refine ldI_t 2 B5 rfl ?_
     replace h := h _ X A
     refine Calls.mono h ?_
     clear h
     rintro e18 w33 ⟨b17, s15, x28, x29, he_, ha_w33, h⟩
     refine ⟨b17, s15, x28, x29, he_, ?_⟩
     clear he_
     obtain ⟨B4, B5, B6, B7, B8, B9, B10, B11⟩ := ah8 ha_w33 B4 B5 B6 B7 B8 B9 B10 B11
     obtain ⟨B12, B13, B14, B15, B16, B17⟩ := ah6 ha_w33 B12 B13 B14 B15 B16 B17
     obtain ⟨A, X⟩ := axa2 ha_w33 A X
     replace X : Ext w33 w33 := Ext.refl _
     refine newC_t fun bk18 u32 hb18 ha_u32 _ B18 => ?_
     have g18 := le_eq A.size hb18
     have l4_18 := lt8 hb18 B4 B5 B6 B7 B8 B9 B10 B11
     have l12_18 := lt6 hb18 B12 B13 B14 B15 B16 B17
     obtain ⟨B4, B5, B6, B7, B8, B9, B10, B11⟩ := ah8 ha_u32 B4 B5 B6 B7 B8 B9 B10 B11
     obtain ⟨B12, B13, B14, B15, B16, B17⟩ := ah6 ha_u32 B12 B13 B14 B15 B16 B17
     obtain ⟨A, X⟩ := axa2 ha_u32 A X
     refine st3_t B18 rfl rfl rfl rfl fun u33 k_u33 B18 => ?_
     obtain ⟨B4, B5, B6, B7, B8, B9, B10, B11⟩ := up8 k_u33 B4 B5 B6 B7 B8 B9 B10 B11 (by omega)
     obtain ⟨B12, B13, B14, B15, B16, B17⟩ := up6 k_u33 B12 B13 B14 B15 B16 B17 (by omega)
     obtain ⟨A, X⟩ := axu2 k_u33 g18 A X
     refine ldB_t 0 B4 rfl ?_
     refine ldS_t 1 B4 rfl ?_
     refine ldI_t 2 B4 rfl ?_
     replace h := h _ X A
     refine Calls.mono h ?_
     clear h
     rintro e19 w35 ⟨b18, s16, x30, x31, he_, ha_w35, h⟩
     refine ⟨b18, s16, x30, x31, he_, ?_⟩
     clear he_
     obtain ⟨B4, B5, B6, B7, B8, B9, B10, B11⟩ := ah8 ha_w35 B4 B5 B6 B7 B8 B9 B10 B11
     obtain ⟨B12, B13, B14, B15, B16, B17, B18⟩ := ah7 ha_w35 B12 B13 B14 B15 B16 B17 B18
     obtain ⟨A, X⟩ := axa2 ha_w35 A X
     replace X : Ext w35 w35 := Ext.refl _
     refine newC_t fun bk19 u34 hb19 ha_u34 _ B19 => ?_
     have g19 := le_eq A.size hb19
     have l4_19 := lt8 hb19 B4 B5 B6 B7 B8 B9 B10 B11
     have l12_19 := lt7 hb19 B12 B13 B14 B15 B16 B17 B18
     obtain ⟨B4, B5, B6, B7, B8, B9, B10, B11⟩ := ah8 ha_u34 B4 B5 B6 B7 B8 B9 B10 B11
     obtain ⟨B12, B13, B14, B15, B16, B17, B18⟩ := ah7 ha_u34 B12 B13 B14 B15 B16 B17 B18
     obtain ⟨A, X⟩ := axa2 ha_u34 A X
     refine st3_t B19 rfl rfl rfl rfl fun u35 k_u35 B19 => ?_
     obtain ⟨B4, B5, B6, B7, B8, B9, B10, B11⟩ := up8 k_u35 B4 B5 B6 B7 B8 B9 B10 B11 (by omega)
     obtain ⟨B12, B13, B14, B15, B16, B17, B18⟩ := up7 k_u35 B12 B13 B14 B15 B16 B17 B18 (by omega)
     obtain ⟨A, X⟩ := axu2 k_u35 g19 A X
     replace h := h _ X A
     refine newC_map h fun ad2 w37 ha_w37 h_ => ?_
     clear h
     have h := h_
     clear h_
     obtain ⟨B4, B5, B6, B7, B8, B9, B10, B11⟩ := ah8 ha_w37 B4 B5 B6 B7 B8 B9 B10 B11
     obtain ⟨B12, B13, B14, B15, B16, B17, B18, B19⟩ := ah8 ha_w37 B12 B13 B14 B15 B16 B17 B18 B19
     obtain ⟨A, X⟩ := axa2 ha_w37 A X
     replace X : Ext w37 w37 := Ext.refl _
     refine Calls.mono h ?_
     clear h
     rintro e20 w38 ⟨b19, he_, ha_w38, h⟩
     refine ⟨b19, he_, ?_⟩
     clear he_
     obtain ⟨B4, B5, B6, B7, B8, B9, B10, B11⟩ := ah8 ha_w38 B4 B5 B6 B7 B8 B9 B10 B11
     obtain ⟨B12, B13, B14, B15, B16, B17, B18, B19⟩ := ah8 ha_w38 B12 B13 B14 B15 B16 B17 B18 B19
     obtain ⟨A, X⟩ := axa2 ha_w38 A X
     replace X : Ext w38 w38 := Ext.refl _
     refine br_map h (fun h_ => ?_) (fun h_ => ?_)
     ·clear h
      have h := h_
      clear h_
      refine ldB_t 0 B7 rfl ?_
      refine ldS_t 1 B7 rfl ?_
      refine ldI_t 2 B7 rfl ?_
      refine ldB_t 0 B8 rfl ?_
      refine ldS_t 1 B8 rfl ?_
      refine ldI_t 2 B8 rfl ?_
      refine Calls.mono h ?_
      clear h
      rintro e21 w39 ⟨b20, he_, ha_w39, h⟩
      refine ⟨b20, he_, ?_⟩
      clear he_
      obtain ⟨B4, B5, B6, B7, B8, B9, B10, B11⟩ := ah8 ha_w39 B4 B5 B6 B7 B8 B9 B10 B11
      obtain ⟨B12, B13, B14, B15, B16, B17, B18, B19⟩ := ah8 ha_w39 B12 B13 B14 B15 B16 B17 B18 B19
      obtain ⟨A, X⟩ := axa2 ha_w39 A X
      replace X : Ext w39 w39 := Ext.refl _
      refine br_map h (fun h_ => ?_) (fun h_ => ?_)
      ·clear h
       have h := h_
       clear h_
       refine ldB_t 0 B11 rfl ?_
       refine ldS_t 1 B11 rfl ?_
       refine ldI_t 2 B11 rfl ?_
       refine ldB_t 0 B12 rfl ?_
       refine ldS_t 1 B12 rfl ?_
       refine ldI_t 2 B12 rfl ?_
       refine Calls.mono h ?_
       clear h
       rintro e22 w40 ⟨b21, he_, ha_w40, h⟩
       refine ⟨b21, he_, ?_⟩
       clear he_
       obtain ⟨B4, B5, B6, B7, B8, B9, B10, B11⟩ := ah8 ha_w40 B4 B5 B6 B7 B8 B9 B10 B11
       obtain ⟨B12, B13, B14, B15, B16, B17, B18, B19⟩ := ah8 ha_w40 B12 B13 B14 B15 B16 B17 B18 B19
       obtain ⟨A, X⟩ := axa2 ha_w40 A X
       replace X : Ext w40 w40 := Ext.refl _
       refine br_map h (fun h_ => ?_) (fun h_ => ?_)
       ·clear h
        have h := h_
        clear h_
        refine ldB_t 0 B13 rfl ?_
        refine ldS_t 1 B13 rfl ?_
        refine ldI_t 2 B13 rfl ?_
        refine Calls.mono h ?_
        clear h
        rintro e23 w41 ⟨x32, he_, ha_w41, h⟩
        refine ⟨x32, he_, ?_⟩
        clear he_
        obtain ⟨B4, B5, B6, B7, B8, B9, B10, B11⟩ := ah8 ha_w41 B4 B5 B6 B7 B8 B9 B10 B11
        obtain ⟨B12, B13, B14, B15, B16, B17, B18, B19⟩ := ah8 ha_w41 B12 B13 B14 B15 B16 B17 B18 B19
        obtain ⟨A, X⟩ := axa2 ha_w41 A X
        replace X : Ext w41 w41 := Ext.refl _
        refine br_map h (fun h_ => ?_) (fun h_ => ?_)
        ·clear h
         have h := h_
         clear h_
         refine Calls.mono h ?_
         clear h
         rintro e24 w42 ⟨b22, he_, ha_w42, h⟩
         refine ⟨b22, he_, ?_⟩
         clear he_
         obtain ⟨B4, B5, B6, B7, B8, B9, B10, B11⟩ := ah8 ha_w42 B4 B5 B6 B7 B8 B9 B10 B11
         obtain ⟨B12, B13, B14, B15, B16, B17, B18, B19⟩ := ah8 ha_w42 B12 B13 B14 B15 B16 B17 B18 B19
         obtain ⟨A, X⟩ := axa2 ha_w42 A X
         replace X : Ext w42 w42 := Ext.refl _
         exact ⟨A, h⟩
        ·clear h
         have h := h_
         clear h_
         exact ⟨A, h⟩
       ·clear h
        have h := h_
        clear h_
        exact ⟨A, h⟩
      ·clear h
       have h := h_
       clear h_
       exact ⟨A, h⟩
     ·clear h
      have h := h_
      clear h_
      refine ldB_t 0 B7 rfl ?_
      refine ldS_t 1 B7 rfl ?_
      refine ldI_t 2 B7 rfl ?_
      refine ldB_t 0 B8 rfl ?_
      refine ldS_t 1 B8 rfl ?_
      refine ldI_t 2 B8 rfl ?_
      refine Calls.mono h ?_
      clear h
      rintro e25 w43 ⟨b23, he_, ha_w43, h⟩
      refine ⟨b23, he_, ?_⟩
      clear he_
      obtain ⟨B4, B5, B6, B7, B8, B9, B10, B11⟩ := ah8 ha_w43 B4 B5 B6 B7 B8 B9 B10 B11
      obtain ⟨B12, B13, B14, B15, B16, B17, B18, B19⟩ := ah8 ha_w43 B12 B13 B14 B15 B16 B17 B18 B19
      obtain ⟨A, X⟩ := axa2 ha_w43 A X
      replace X : Ext w43 w43 := Ext.refl _
      refine br_map h (fun h_ => ?_) (fun h_ => ?_)
      ·clear h
       have h := h_
       clear h_
       refine ldB_t 0 B11 rfl ?_
       refine ldS_t 1 B11 rfl ?_
       refine ldI_t 2 B11 rfl ?_
       refine ldB_t 0 B12 rfl ?_
       refine ldS_t 1 B12 rfl ?_
       refine ldI_t 2 B12 rfl ?_
       refine Calls.mono h ?_
       clear h
       rintro e26 w44 ⟨b24, he_, ha_w44, h⟩
       refine ⟨b24, he_, ?_⟩
       clear he_
       obtain ⟨B4, B5, B6, B7, B8, B9, B10, B11⟩ := ah8 ha_w44 B4 B5 B6 B7 B8 B9 B10 B11
       obtain ⟨B12, B13, B14, B15, B16, B17, B18, B19⟩ := ah8 ha_w44 B12 B13 B14 B15 B16 B17 B18 B19
       obtain ⟨A, X⟩ := axa2 ha_w44 A X
       replace X : Ext w44 w44 := Ext.refl _
       refine br_map h (fun h_ => ?_) (fun h_ => ?_)
       ·clear h
        have h := h_
        clear h_
        refine ldB_t 0 B13 rfl ?_
        refine ldS_t 1 B13 rfl ?_
        refine ldI_t 2 B13 rfl ?_
        refine Calls.mono h ?_
        clear h
        rintro e27 w45 ⟨x33, he_, ha_w45, h⟩
        refine ⟨x33, he_, ?_⟩
        clear he_
        obtain ⟨B4, B5, B6, B7, B8, B9, B10, B11⟩ := ah8 ha_w45 B4 B5 B6 B7 B8 B9 B10 B11
        obtain ⟨B12, B13, B14, B15, B16, B17, B18, B19⟩ := ah8 ha_w45 B12 B13 B14 B15 B16 B17 B18 B19
        obtain ⟨A, X⟩ := axa2 ha_w45 A X
        replace X : Ext w45 w45 := Ext.refl _
        refine br_map h (fun h_ => ?_) (fun h_ => ?_)
        ·clear h
         have h := h_
         clear h_
         refine ldB_t 0 B14 rfl ?_
         refine ldS_t 1 B14 rfl ?_
         refine ldI_t 2 B14 rfl ?_
         refine ldB_t 0 B15 rfl ?_
         refine ldS_t 1 B15 rfl ?_
         refine ldI_t 2 B15 rfl ?_
         refine Calls.mono h ?_
         clear h
         rintro e28 w46 ⟨b25, he_, ha_w46, h⟩
         refine ⟨b25, he_, ?_⟩
         clear he_
         obtain ⟨B4, B5, B6, B7, B8, B9, B10, B11⟩ := ah8 ha_w46 B4 B5 B6 B7 B8 B9 B10 B11
         obtain ⟨B12, B13, B14, B15, B16, B17, B18, B19⟩ := ah8 ha_w46 B12 B13 B14 B15 B16 B17 B18 B19
         obtain ⟨A, X⟩ := axa2 ha_w46 A X
         replace X : Ext w46 w46 := Ext.refl _
         refine br_map h (fun h_ => ?_) (fun h_ => ?_)
         ·clear h
          have h := h_
          clear h_
          refine ldB_t 0 B16 rfl ?_
          refine ldS_t 1 B16 rfl ?_
          refine ldI_t 2 B16 rfl ?_
          refine ldB_t 0 B17 rfl ?_
          refine ldS_t 1 B17 rfl ?_
          refine ldI_t 2 B17 rfl ?_
          refine Calls.mono h ?_
          clear h
          rintro e29 w47 ⟨b26, he_, ha_w47, h⟩
          refine ⟨b26, he_, ?_⟩
          clear he_
          obtain ⟨B4, B5, B6, B7, B8, B9, B10, B11⟩ := ah8 ha_w47 B4 B5 B6 B7 B8 B9 B10 B11
          obtain ⟨B12, B13, B14, B15, B16, B17, B18, B19⟩ := ah8 ha_w47 B12 B13 B14 B15 B16 B17 B18 B19
          obtain ⟨A, X⟩ := axa2 ha_w47 A X
          replace X : Ext w47 w47 := Ext.refl _
          refine br_map h (fun h_ => ?_) (fun h_ => ?_)
          ·clear h
           have h := h_
           clear h_
           refine ldB_t 0 B18 rfl ?_
           refine ldS_t 1 B18 rfl ?_
           refine ldI_t 2 B18 rfl ?_
           refine ldB_t 0 B19 rfl ?_
           refine ldS_t 1 B19 rfl ?_
           refine ldI_t 2 B19 rfl ?_
           refine Calls.mono h ?_
           clear h
           rintro e30 w48 ⟨b27, he_, ha_w48, h⟩
           refine ⟨b27, he_, ?_⟩
           clear he_
           obtain ⟨B4, B5, B6, B7, B8, B9, B10, B11⟩ := ah8 ha_w48 B4 B5 B6 B7 B8 B9 B10 B11
           obtain ⟨B12, B13, B14, B15, B16, B17, B18, B19⟩ := ah8 ha_w48 B12 B13 B14 B15 B16 B17 B18 B19
           obtain ⟨A, X⟩ := axa2 ha_w48 A X
           replace X : Ext w48 w48 := Ext.refl _
           refine br_map h (fun h_ => ?_) (fun h_ => ?_)
           ·clear h
            have h := h_
            clear h_
            refine Calls.mono h ?_
            clear h
            rintro e31 w49 ⟨b28, he_, ha_w49, h⟩
            refine ⟨b28, he_, ?_⟩
            clear he_
            obtain ⟨B4, B5, B6, B7, B8, B9, B10, B11⟩ := ah8 ha_w49 B4 B5 B6 B7 B8 B9 B10 B11
            obtain ⟨B12, B13, B14, B15, B16, B17, B18, B19⟩ := ah8 ha_w49 B12 B13 B14 B15 B16 B17 B18 B19
            obtain ⟨A, X⟩ := axa2 ha_w49 A X
            replace X : Ext w49 w49 := Ext.refl _
            exact ⟨A, h⟩
           ·clear h
            have h := h_
            clear h_
            exact ⟨A, h⟩
          ·clear h
           have h := h_
           clear h_
           exact ⟨A, h⟩
         ·clear h
          have h := h_
          clear h_
          exact ⟨A, h⟩
        ·clear h
         have h := h_
         clear h_
         exact ⟨A, h⟩
       ·clear h
        have h := h_
        clear h_
        exact ⟨A, h⟩
      ·clear h
       have h := h_
       clear h_
       exact ⟨A, h⟩

end Go.Proofs.YtahbekmnphkiiaaDoor
