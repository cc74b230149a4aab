/- What the law leans on, part 3. No condition. -/
import Derived.Test.YtfdajpjiengihaaZMulTooms2
namespace Go.Proofs.Ytfdajpjiengihaa
open Go Go.RowKit Eng L2
set_option linter.unusedVariables false
set_option maxHeartbeats 2000000
set_option maxRecDepth 100000

/-- (surd/mul.signed).plus: function 73, its local variables as values. -/
theorem mul_signed_plus_v2 (a0_x_0 : Bool) (a0_x_1 : Slc) (a1_y_0 : Bool) (a1_y_1 : Slc) (w : World) (R : Ending → World → Prop)
    
    (h : br (a0_x_0 == a1_y_0)
    (∀ w1, Ext w w1 → Ahead w w1 →
     (Calls Try.prog 44 #[a0_x_1.v, a1_y_1.v] w1 fun e1 w2 =>
      ∃ s1 : Slc, e1 = .returned s1.v ∧ Ahead w1 w2 ∧
      (Calls Try.prog 41 #[s1.v] w2 fun e2 w3 =>
       ∃ s2 : Slc, e2 = .returned s2.v ∧ Ahead w2 w3 ∧
       (∀ w4, Ext w3 w4 → Ahead w w4 →
        (R (.returned (Value.agg #[Value.bool a0_x_0, s2.v])) w4)))))
    (∀ w5, Ext w w5 → Ahead w w5 →
     (Calls Try.prog 77 #[a0_x_1.v, a1_y_1.v] w5 fun e3 w6 =>
      ∃ x1 : Int, e3 = .returned (Value.int .i64 x1) ∧ Ahead w5 w6 ∧
      (br (decide (x1 ≥ 0))
       (∀ w7, Ext w6 w7 → Ahead w w7 →
        (Calls Try.prog 61 #[a0_x_1.v, a1_y_1.v] w7 fun e4 w8 =>
         ∃ s3 : Slc, e4 = .returned s3.v ∧ Ahead w7 w8 ∧
         (Calls Try.prog 41 #[s3.v] w8 fun e5 w9 =>
          ∃ s4 : Slc, e5 = .returned s4.v ∧ Ahead w8 w9 ∧
          (∀ w10, Ext w9 w10 → Ahead w w10 →
           (R (.returned (Value.agg #[Value.bool a0_x_0, s4.v])) w10)))))
       (∀ w11, Ext w6 w11 → Ahead w w11 →
        (Calls Try.prog 61 #[a1_y_1.v, a0_x_1.v] w11 fun e6 w12 =>
         ∃ s5 : Slc, e6 = .returned s5.v ∧ Ahead w11 w12 ∧
         (Calls Try.prog 41 #[s5.v] w12 fun e7 w13 =>
          ∃ s6 : Slc, e7 = .returned s6.v ∧ Ahead w12 w13 ∧
          (∀ w14, Ext w13 w14 → Ahead w w14 →
           (R (.returned (Value.agg #[Value.bool a1_y_0, s6.v])) w14)))))))))
     :
    Calls Try.prog 73 #[Value.agg #[Value.bool a0_x_0, a0_x_1.v], Value.agg #[Value.bool a1_y_0, a1_y_1.v]] w (fun e_ w_ => Ahead w w_ ∧ R e_ w_) := by
  refine mul_signed_plus_vc a0_x_0 a0_x_1 a1_y_0 a1_y_1 w _  ?_
  · have A : Ahead w w := Ahead.refl w
    have X : Ext w w := Ext.refl w
    refine newC_t fun bk1 u1 hb1 ha_u1 _ B1 => ?_
    have g1 := le_eq A.size hb1
    obtain ⟨A, X⟩ := axa2 ha_u1 A X
    refine newC_t fun bk2 u2 hb2 ha_u2 _ B2 => ?_
    have g2 := le_eq A.size hb2
    have l1_2 := lt1 hb2 B1
    replace B1 := B1.ahead ha_u2
    obtain ⟨A, X⟩ := axa2 ha_u2 A X
    refine newC_t fun bk3 u3 hb3 ha_u3 _ B3 => ?_
    have g3 := le_eq A.size hb3
    have l1_3 := lt2 hb3 B1 B2
    obtain ⟨B1, B2⟩ := ah2 ha_u3 B1 B2
    obtain ⟨A, X⟩ := axa2 ha_u3 A X
    refine ldB_t 0 B1 rfl ?_
    refine ldB_t 0 B2 rfl ?_
    refine br_map h (fun h_ => ?_) (fun h_ => ?_)
    ·clear h
     have h := h_
     clear h_
     have hd_ := Sp.Ahead.drew u3
     obtain ⟨B1, B2, B3⟩ := ah3 hd_ B1 B2 B3
     obtain ⟨A, X⟩ := axa2 hd_ A X
     clear hd_
     refine ldB_t 0 B1 rfl ?_
     refine ldS_t 1 B1 rfl ?_
     refine ldS_t 1 B2 rfl ?_
     replace h := h _ X A
     refine Calls.mono h ?_
     clear h
     rintro e1 w2 ⟨s1, he_, ha_w2, h⟩
     refine ⟨s1, he_, ?_⟩
     clear he_
     obtain ⟨B1, B2, B3⟩ := ah3 ha_w2 B1 B2 B3
     obtain ⟨A, X⟩ := axa2 ha_w2 A X
     replace X : Ext w2 w2 := Ext.refl _
     refine ⟨ha_w2, ?_⟩
     refine Calls.mono h ?_
     clear h
     rintro e2 w3 ⟨s2, he_, ha_w3, h⟩
     refine ⟨s2, he_, ?_⟩
     clear he_
     obtain ⟨B1, B2, B3⟩ := ah3 ha_w3 B1 B2 B3
     obtain ⟨A, X⟩ := axa2 ha_w3 A X
     replace X : Ext w3 w3 := Ext.refl _
     refine ⟨ha_w3, ?_⟩
     refine st2_t B3 rfl rfl rfl fun u4 k_u4 B3 => ?_
     obtain ⟨B1, B2⟩ := up2 k_u4 B1 B2 (by omega)
     obtain ⟨A, X⟩ := axu2 k_u4 g3 A X
     refine ldB_t 0 B3 rfl ?_
     refine ldS_t 1 B3 rfl ?_
     replace h := h _ X A
     exact ⟨A, h⟩
    ·clear h
     have h := h_
     clear h_
     refine ldS_t 1 B1 rfl ?_
     refine ldS_t 1 B2 rfl ?_
     replace h := h _ X A
     refine Calls.mono h ?_
     clear h
     rintro e3 w6 ⟨x1, he_, ha_w6, h⟩
     refine ⟨x1, he_, ?_⟩
     clear he_
     obtain ⟨B1, B2, B3⟩ := ah3 ha_w6 B1 B2 B3
     obtain ⟨A, X⟩ := axa2 ha_w6 A X
     replace X : Ext w6 w6 := Ext.refl _
     refine br_map h (fun h_ => ?_) (fun h_ => ?_)
     ·clear h
      have h := h_
      clear h_
      have hd_ := Sp.Ahead.drew w6
      obtain ⟨B1, B2, B3⟩ := ah3 hd_ B1 B2 B3
      obtain ⟨A, X⟩ := axa2 hd_ A X
      clear hd_
      refine ldB_t 0 B1 rfl ?_
      refine ldS_t 1 B1 rfl ?_
      refine ldS_t 1 B2 rfl ?_
      replace h := h _ X A
      refine Calls.mono h ?_
      clear h
      rintro e4 w8 ⟨s3, he_, ha_w8, h⟩
      refine ⟨s3, he_, ?_⟩
      clear he_
      obtain ⟨B1, B2, B3⟩ := ah3 ha_w8 B1 B2 B3
      obtain ⟨A, X⟩ := axa2 ha_w8 A X
      replace X : Ext w8 w8 := Ext.refl _
      refine ⟨ha_w8, ?_⟩
      refine Calls.mono h ?_
      clear h
      rintro e5 w9 ⟨s4, he_, ha_w9, h⟩
      refine ⟨s4, he_, ?_⟩
      clear he_
      obtain ⟨B1, B2, B3⟩ := ah3 ha_w9 B1 B2 B3
      obtain ⟨A, X⟩ := axa2 ha_w9 A X
      replace X : Ext w9 w9 := Ext.refl _
      refine ⟨ha_w9, ?_⟩
      refine st2_t B3 rfl rfl rfl fun u5 k_u5 B3 => ?_
      obtain ⟨B1, B2⟩ := up2 k_u5 B1 B2 (by omega)
      obtain ⟨A, X⟩ := axu2 k_u5 g3 A X
      refine ldB_t 0 B3 rfl ?_
      refine ldS_t 1 B3 rfl ?_
      replace h := h _ X A
      exact ⟨A, h⟩
     ·clear h
      have h := h_
      clear h_
      have hd_ := Sp.Ahead.drew w6
      obtain ⟨B1, B2, B3⟩ := ah3 hd_ B1 B2 B3
      obtain ⟨A, X⟩ := axa2 hd_ A X
      clear hd_
      refine ldB_t 0 B2 rfl ?_
      refine ldS_t 1 B2 rfl ?_
      refine ldS_t 1 B1 rfl ?_
      replace h := h _ X A
      refine Calls.mono h ?_
      clear h
      rintro e6 w12 ⟨s5, he_, ha_w12, h⟩
      refine ⟨s5, he_, ?_⟩
      clear he_
      obtain ⟨B1, B2, B3⟩ := ah3 ha_w12 B1 B2 B3
      obtain ⟨A, X⟩ := axa2 ha_w12 A X
      replace X : Ext w12 w12 := Ext.refl _
      refine ⟨ha_w12, ?_⟩
      refine Calls.mono h ?_
      clear h
      rintro e7 w13 ⟨s6, he_, ha_w13, h⟩
      refine ⟨s6, he_, ?_⟩
      clear he_
      obtain ⟨B1, B2, B3⟩ := ah3 ha_w13 B1 B2 B3
      obtain ⟨A, X⟩ := axa2 ha_w13 A X
      replace X : Ext w13 w13 := Ext.refl _
      refine ⟨ha_w13, ?_⟩
      refine st2_t B3 rfl rfl rfl fun u6 k_u6 B3 => ?_
      obtain ⟨B1, B2⟩ := up2 k_u6 B1 B2 (by omega)
      obtain ⟨A, X⟩ := axu2 k_u6 g3 A X
      refine ldB_t 0 B3 rfl ?_
      refine ldS_t 1 B3 rfl ?_
      replace h := h _ X A
      exact ⟨A, h⟩

/-- (surd/mul.signed).minus: function 70, its local variables as values. -/
theorem mul_signed_minus_v2 (a0_x_0 : Bool) (a0_x_1 : Slc) (a1_y_0 : Bool) (a1_y_1 : Slc) (w : World) (R : Ending → World → Prop)
    
    (h : ∀ w1, Ext w w1 → Ahead w w1 →
    (Calls Try.prog 73 #[Value.agg #[Value.bool a0_x_0, a0_x_1.v], Value.agg #[Value.bool (!a1_y_0), a1_y_1.v]] w1 fun e1 w2 =>
     ∃ b1 : Bool, ∃ s1 : Slc, e1 = .returned (Value.agg #[Value.bool b1, s1.v]) ∧ Ahead w1 w2 ∧
     (∀ w3, Ext w2 w3 → Ahead w w3 →
      (R (.returned (Value.agg #[Value.bool b1, s1.v])) w3))))
     :
    Calls Try.prog 70 #[Value.agg #[Value.bool a0_x_0, a0_x_1.v], Value.agg #[Value.bool a1_y_0, a1_y_1.v]] w (fun e_ w_ => Ahead w w_ ∧ R e_ w_) := by
  refine mul_signed_minus_vc a0_x_0 a0_x_1 a1_y_0 a1_y_1 w _  ?_
  · have A : Ahead w w := Ahead.refl w
    have X : Ext w w := Ext.refl w
    refine newC_t fun bk1 u1 hb1 ha_u1 _ B1 => ?_
    have g1 := le_eq A.size hb1
    obtain ⟨A, X⟩ := axa2 ha_u1 A X
    refine newC_t fun bk2 u2 hb2 ha_u2 _ B2 => ?_
    have g2 := le_eq A.size hb2
    have l1_2 := lt1 hb2 B1
    replace B1 := B1.ahead ha_u2
    obtain ⟨A, X⟩ := axa2 ha_u2 A X
    refine newC_t fun bk3 u3 hb3 ha_u3 _ B3 => ?_
    have g3 := le_eq A.size hb3
    have l1_3 := lt2 hb3 B1 B2
    obtain ⟨B1, B2⟩ := ah2 ha_u3 B1 B2
    obtain ⟨A, X⟩ := axa2 ha_u3 A X
    refine ldB_t 0 B2 rfl ?_
    refine stC_t 0 B2 rfl rfl rfl fun u4 k_u4 B2_ => ?_
    replace B2 : Blt u4 bk2 90 #[Value.bool (!a1_y_0), a1_y_1.v] := B2_
    clear B2_
    obtain ⟨B1, B3⟩ := up2 k_u4 B1 B3 (by omega)
    obtain ⟨A, X⟩ := axu2 k_u4 g2 A X
    refine ldB_t 0 B1 rfl ?_
    refine ldS_t 1 B1 rfl ?_
    refine ldB_t 0 B2 rfl ?_
    refine ldS_t 1 B2 rfl ?_
    replace h := h _ X A
    refine Calls.mono h ?_
    clear h
    rintro e1 w2 ⟨b1, s1, he_, ha_w2, h⟩
    refine ⟨b1, s1, he_, ?_⟩
    clear he_
    obtain ⟨B1, B2, B3⟩ := ah3 ha_w2 B1 B2 B3
    obtain ⟨A, X⟩ := axa2 ha_w2 A X
    replace X : Ext w2 w2 := Ext.refl _
    refine st2_t B3 rfl rfl rfl fun u5 k_u5 B3 => ?_
    obtain ⟨B1, B2⟩ := up2 k_u5 B1 B2 (by omega)
    obtain ⟨A, X⟩ := axu2 k_u5 g3 A X
    refine ldB_t 0 B3 rfl ?_
    refine ldS_t 1 B3 rfl ?_
    replace h := h _ X A
    exact ⟨A, h⟩

/-- (surd/mul.signed).double: function 74, its local variables as values. -/
theorem mul_signed_double_v2 (a0_x_0 : Bool) (a0_x_1 : Slc) (w : World) (R : Ending → World → Prop)
    
    (h : ∀ w1, Ext w w1 → Ahead w w1 →
    (Calls Try.prog 73 #[Value.agg #[Value.bool a0_x_0, a0_x_1.v], Value.agg #[Value.bool a0_x_0, a0_x_1.v]] w1 fun e1 w2 =>
     ∃ b1 : Bool, ∃ s1 : Slc, e1 = .returned (Value.agg #[Value.bool b1, s1.v]) ∧ Ahead w1 w2 ∧
     (∀ w3, Ext w2 w3 → Ahead w w3 →
      (R (.returned (Value.agg #[Value.bool b1, s1.v])) w3))))
     :
    Calls Try.prog 74 #[Value.agg #[Value.bool a0_x_0, a0_x_1.v]] w (fun e_ w_ => Ahead w w_ ∧ R e_ w_) := by
  refine mul_signed_double_vc a0_x_0 a0_x_1 w _  ?_
  · have A : Ahead w w := Ahead.refl w
    have X : Ext w w := Ext.refl w
    refine newC_t fun bk1 u1 hb1 ha_u1 _ B1 => ?_
    have g1 := le_eq A.size hb1
    obtain ⟨A, X⟩ := axa2 ha_u1 A X
    refine newC_t fun bk2 u2 hb2 ha_u2 _ B2 => ?_
    have g2 := le_eq A.size hb2
    have l1_2 := lt1 hb2 B1
    replace B1 := B1.ahead ha_u2
    obtain ⟨A, X⟩ := axa2 ha_u2 A X
    refine ldB_t 0 B1 rfl ?_
    refine ldS_t 1 B1 rfl ?_
    refine ldB_t 0 B1 rfl ?_
    refine ldS_t 1 B1 rfl ?_
    replace h := h _ X A
    refine Calls.mono h ?_
    clear h
    rintro e1 w2 ⟨b1, s1, he_, ha_w2, h⟩
    refine ⟨b1, s1, he_, ?_⟩
    clear he_
    obtain ⟨B1, B2⟩ := ah2 ha_w2 B1 B2
    obtain ⟨A, X⟩ := axa2 ha_w2 A X
    replace X : Ext w2 w2 := Ext.refl _
    refine st2_t B2 rfl rfl rfl fun u3 k_u3 B2 => ?_
    replace B1 := k_u3.blt B1 (by omega)
    obtain ⟨A, X⟩ := axu2 k_u3 g2 A X
    refine ldB_t 0 B2 rfl ?_
    refine ldS_t 1 B2 rfl ?_
    replace h := h _ X A
    exact ⟨A, h⟩

/-- surd/mul.points: function 69, its local variables as values. -/
theorem mul_points_v2 (a0_a : Slc) (a1_k : Int) (w : World) (R : Ending → World → Prop)
    
    (h : ∀ w1, Ext w w1 → Ahead w w1 →
    (Calls Try.prog 60 #[a0_a.v, Value.int .i64 0, Value.int .i64 a1_k] w1 fun e1 w2 =>
     ∃ s1 : Slc, e1 = .returned s1.v ∧ Ahead w1 w2 ∧
     (Calls Try.prog 60 #[a0_a.v, Value.int .i64 a1_k, Value.int .i64 (IntKind.i64.wrap (2 * a1_k))] w2 fun e2 w3 =>
      ∃ s2 : Slc, e2 = .returned s2.v ∧ Ahead w2 w3 ∧
      (Calls Try.prog 60 #[a0_a.v, Value.int .i64 (IntKind.i64.wrap (2 * a1_k)), Value.int .i64 (a0_a.n : Int)] w3 fun e3 w4 =>
       ∃ s3 : Slc, e3 = .returned s3.v ∧ Ahead w3 w4 ∧
       (∀ w5, Ext w4 w5 → Ahead w w5 →
        (Calls Try.prog 73 #[Value.agg #[Value.bool (false), s1.v], Value.agg #[Value.bool (false), s3.v]] w5 fun e4 w6 =>
         ∃ b1 : Bool, ∃ s4 : Slc, e4 = .returned (Value.agg #[Value.bool b1, s4.v]) ∧ Ahead w5 w6 ∧
         (∀ w7, Ext w6 w7 → Ahead w w7 →
          (Calls Try.prog 70 #[Value.agg #[Value.bool b1, s4.v], Value.agg #[Value.bool (false), s2.v]] w7 fun e5 w8 =>
           ∃ b2 : Bool, ∃ s5 : Slc, e5 = .returned (Value.agg #[Value.bool b2, s5.v]) ∧ Ahead w7 w8 ∧
           (∀ w9, Ext w8 w9 → Ahead w w9 →
            (Calls Try.prog 73 #[Value.agg #[Value.bool b1, s4.v], Value.agg #[Value.bool (false), s2.v]] w9 fun e6 w10 =>
             ∃ b3 : Bool, ∃ s6 : Slc, e6 = .returned (Value.agg #[Value.bool b3, s6.v]) ∧ Ahead w9 w10 ∧
             (Calls Try.prog 73 #[Value.agg #[Value.bool b2, s5.v], Value.agg #[Value.bool (false), s3.v]] w10 fun e7 w11 =>
              ∃ b4 : Bool, ∃ s7 : Slc, e7 = .returned (Value.agg #[Value.bool b4, s7.v]) ∧ Ahead w10 w11 ∧
              (Calls Try.prog 74 #[Value.agg #[Value.bool b4, s7.v]] w11 fun e8 w12 =>
               ∃ b5 : Bool, ∃ s8 : Slc, e8 = .returned (Value.agg #[Value.bool b5, s8.v]) ∧ Ahead w11 w12 ∧
               (Calls Try.prog 70 #[Value.agg #[Value.bool b5, s8.v], Value.agg #[Value.bool (false), s1.v]] w12 fun e9 w13 =>
                ∃ b6 : Bool, ∃ s9 : Slc, e9 = .returned (Value.agg #[Value.bool b6, s9.v]) ∧ Ahead w12 w13 ∧
                (∀ w14, Ext w13 w14 → Ahead w w14 →
                 (R (.returned (Value.agg #[Value.bool (false), s1.v, Value.bool b3, s6.v, Value.bool b2, s5.v, Value.bool b6, s9.v, Value.bool (false), s3.v])) w14)))))))))))))))
     :
    Calls Try.prog 69 #[a0_a.v, Value.int .i64 a1_k] w (fun e_ w_ => Ahead w w_ ∧ R e_ w_) := by
  refine mul_points_vc a0_a a1_k w _  ?_
  · have A : Ahead w w := Ahead.refl w
    have X : Ext w w := Ext.refl w
    refine newC_t fun bk1 u1 hb1 ha_u1 _ B1 => ?_
    have g1 := le_eq A.size hb1
    obtain ⟨A, X⟩ := axa2 ha_u1 A X
    replace h := h _ X A
    refine Calls.mono h ?_
    clear h
    rintro e1 w2 ⟨s1, he_, ha_w2, h⟩
    refine ⟨s1, he_, ?_⟩
    clear he_
    replace B1 := B1.ahead ha_w2
    obtain ⟨A, X⟩ := axa2 ha_w2 A X
    replace X : Ext w2 w2 := Ext.refl _
    refine Calls.mono h ?_
    clear h
    rintro e2 w3 ⟨s2, he_, ha_w3, h⟩
    refine ⟨s2, he_, ?_⟩
    clear he_
    replace B1 := B1.ahead ha_w3
    obtain ⟨A, X⟩ := axa2 ha_w3 A X
    replace X : Ext w3 w3 := Ext.refl _
    refine Calls.mono h ?_
    clear h
    rintro e3 w4 ⟨s3, he_, ha_w4, h⟩
    refine ⟨s3, he_, ?_⟩
    clear he_
    replace B1 := B1.ahead ha_w4
    obtain ⟨A, X⟩ := axa2 ha_w4 A X
    replace X : Ext w4 w4 := Ext.refl _
    refine newC_t fun bk2 u2 hb2 ha_u2 _ B2 => ?_
    have g2 := le_eq A.size hb2
    have l1_2 := lt1 hb2 B1
    replace B1 := B1.ahead ha_u2
    obtain ⟨A, X⟩ := axa2 ha_u2 A X
    refine newC_t fun bk3 u3 hb3 ha_u3 _ B3 => ?_
    have g3 := le_eq A.size hb3
    have l1_3 := lt2 hb3 B1 B2
    obtain ⟨B1, B2⟩ := ah2 ha_u3 B1 B2
    obtain ⟨A, X⟩ := axa2 ha_u3 A X
    refine newC_t fun bk4 u4 hb4 ha_u4 _ B4 => ?_
    have g4 := le_eq A.size hb4
    have l1_4 := lt3 hb4 B1 B2 B3
    obtain ⟨B1, B2, B3⟩ := ah3 ha_u4 B1 B2 B3
    obtain ⟨A, X⟩ := axa2 ha_u4 A X
    refine st2_t B2 rfl rfl rfl fun u5 k_u5 B2 => ?_
    obtain ⟨B1, B3, B4⟩ := up3 k_u5 B1 B3 B4 (by omega)
    obtain ⟨A, X⟩ := axu2 k_u5 g2 A X
    refine st2_t B3 rfl rfl rfl fun u6 k_u6 B3 => ?_
    obtain ⟨B1, B2, B4⟩ := up3 k_u6 B1 B2 B4 (by omega)
    obtain ⟨A, X⟩ := axu2 k_u6 g3 A X
    refine st2_t B4 rfl rfl rfl fun u7 k_u7 B4 => ?_
    obtain ⟨B1, B2, B3⟩ := up3 k_u7 B1 B2 B3 (by omega)
    obtain ⟨A, X⟩ := axu2 k_u7 g4 A X
    refine ldB_t 0 B2 rfl ?_
    refine ldS_t 1 B2 rfl ?_
    refine ldB_t 0 B4 rfl ?_
    refine ldS_t 1 B4 rfl ?_
    replace h := h _ X A
    refine Calls.mono h ?_
    clear h
    rintro e4 w6 ⟨b1, s4, he_, ha_w6, h⟩
    refine ⟨b1, s4, he_, ?_⟩
    clear he_
    obtain ⟨B1, B2, B3, B4⟩ := ah4 ha_w6 B1 B2 B3 B4
    obtain ⟨A, X⟩ := axa2 ha_w6 A X
    replace X : Ext w6 w6 := Ext.refl _
    refine newC_t fun bk5 u8 hb5 ha_u8 _ B5 => ?_
    have g5 := le_eq A.size hb5
    have l1_5 := lt4 hb5 B1 B2 B3 B4
    obtain ⟨B1, B2, B3, B4⟩ := ah4 ha_u8 B1 B2 B3 B4
    obtain ⟨A, X⟩ := axa2 ha_u8 A X
    refine st2_t B5 rfl rfl rfl fun u9 k_u9 B5 => ?_
    obtain ⟨B1, B2, B3, B4⟩ := up4 k_u9 B1 B2 B3 B4 (by omega)
    obtain ⟨A, X⟩ := axu2 k_u9 g5 A X
    refine ldB_t 0 B5 rfl ?_
    refine ldS_t 1 B5 rfl ?_
    refine ldB_t 0 B3 rfl ?_
    refine ldS_t 1 B3 rfl ?_
    replace h := h _ X A
    refine Calls.mono h ?_
    clear h
    rintro e5 w8 ⟨b2, s5, he_, ha_w8, h⟩
    refine ⟨b2, s5, he_, ?_⟩
    clear he_
    obtain ⟨B1, B2, B3, B4, B5⟩ := ah5 ha_w8 B1 B2 B3 B4 B5
    obtain ⟨A, X⟩ := axa2 ha_w8 A X
    replace X : Ext w8 w8 := Ext.refl _
    refine newC_t fun bk6 u10 hb6 ha_u10 _ B6 => ?_
    have g6 := le_eq A.size hb6
    have l1_6 := lt5 hb6 B1 B2 B3 B4 B5
    obtain ⟨B1, B2, B3, B4, B5⟩ := ah5 ha_u10 B1 B2 B3 B4 B5
    obtain ⟨A, X⟩ := axa2 ha_u10 A X
    refine st2_t B6 rfl rfl rfl fun u11 k_u11 B6 => ?_
    obtain ⟨B1, B2, B3, B4, B5⟩ := up5 k_u11 B1 B2 B3 B4 B5 (by omega)
    obtain ⟨A, X⟩ := axu2 k_u11 g6 A X
    have hd_ := Sp.Ahead.drew u11
    obtain ⟨B1, B2, B3, B4, B5, B6⟩ := ah6 hd_ B1 B2 B3 B4 B5 B6
    obtain ⟨A, X⟩ := axa2 hd_ A X
    clear hd_
    refine ldB_t 0 B2 rfl ?_
    refine ldS_t 1 B2 rfl ?_
    refine ldB_t 0 B5 rfl ?_
    refine ldS_t 1 B5 rfl ?_
    refine ldB_t 0 B3 rfl ?_
    refine ldS_t 1 B3 rfl ?_
    refine ldB_t 0 B6 rfl ?_
    refine ldS_t 1 B6 rfl ?_
    refine ldB_t 0 B6 rfl ?_
    refine ldS_t 1 B6 rfl ?_
    refine ldB_t 0 B4 rfl ?_
    refine ldS_t 1 B4 rfl ?_
    refine ldB_t 0 B2 rfl ?_
    refine ldS_t 1 B2 rfl ?_
    refine ldB_t 0 B4 rfl ?_
    refine ldS_t 1 B4 rfl ?_
    replace h := h _ X A
    refine Calls.mono h ?_
    clear h
    rintro e6 w10 ⟨b3, s6, he_, ha_w10, h⟩
    refine ⟨b3, s6, he_, ?_⟩
    clear he_
    obtain ⟨B1, B2, B3, B4, B5, B6⟩ := ah6 ha_w10 B1 B2 B3 B4 B5 B6
    obtain ⟨A, X⟩ := axa2 ha_w10 A X
    replace X : Ext w10 w10 := Ext.refl _
    refine ⟨ha_w10, ?_⟩
    refine Calls.mono h ?_
    clear h
    rintro e7 w11 ⟨b4, s7, he_, ha_w11, h⟩
    refine ⟨b4, s7, he_, ?_⟩
    clear he_
    obtain ⟨B1, B2, B3, B4, B5, B6⟩ := ah6 ha_w11 B1 B2 B3 B4 B5 B6
    obtain ⟨A, X⟩ := axa2 ha_w11 A X
    replace X : Ext w11 w11 := Ext.refl _
    refine ⟨ha_w11, ?_⟩
    refine Calls.mono h ?_
    clear h
    rintro e8 w12 ⟨b5, s8, he_, ha_w12, h⟩
    refine ⟨b5, s8, he_, ?_⟩
    clear he_
    obtain ⟨B1, B2, B3, B4, B5, B6⟩ := ah6 ha_w12 B1 B2 B3 B4 B5 B6
    obtain ⟨A, X⟩ := axa2 ha_w12 A X
    replace X : Ext w12 w12 := Ext.refl _
    refine ⟨ha_w12, ?_⟩
    refine Calls.mono h ?_
    clear h
    rintro e9 w13 ⟨b6, s9, he_, ha_w13, h⟩
    refine ⟨b6, s9, he_, ?_⟩
    clear he_
    obtain ⟨B1, B2, B3, B4, B5, B6⟩ := ah6 ha_w13 B1 B2 B3 B4 B5 B6
    obtain ⟨A, X⟩ := axa2 ha_w13 A X
    replace X : Ext w13 w13 := Ext.refl _
    refine ⟨ha_w13, ?_⟩
    refine stC_t 0 B1 rfl rfl rfl fun u12 k_u12 B1_ => ?_
    replace B1 : Blt u12 bk1 91 #[Value.bool (false), (⟨none, 0, 0⟩ : Slc).v, Value.bool false, (⟨none, 0, 0⟩ : Slc).v, Value.bool false, (⟨none, 0, 0⟩ : Slc).v, Value.bool false, (⟨none, 0, 0⟩ : Slc).v, Value.bool false, (⟨none, 0, 0⟩ : Slc).v] := B1_
    clear B1_
    refine stC_t 1 B1 rfl rfl rfl fun u13 k_u13 B1_ => ?_
    replace B1 : Blt u13 bk1 91 #[Value.bool (false), s1.v, Value.bool false, (⟨none, 0, 0⟩ : Slc).v, Value.bool false, (⟨none, 0, 0⟩ : Slc).v, Value.bool false, (⟨none, 0, 0⟩ : Slc).v, Value.bool false, (⟨none, 0, 0⟩ : Slc).v] := B1_
    clear B1_
    refine stC_t 2 B1 rfl rfl rfl fun u14 k_u14 B1_ => ?_
    replace B1 : Blt u14 bk1 91 #[Value.bool (false), s1.v, Value.bool b3, (⟨none, 0, 0⟩ : Slc).v, Value.bool false, (⟨none, 0, 0⟩ : Slc).v, Value.bool false, (⟨none, 0, 0⟩ : Slc).v, Value.bool false, (⟨none, 0, 0⟩ : Slc).v] := B1_
    clear B1_
    refine stC_t 3 B1 rfl rfl rfl fun u15 k_u15 B1_ => ?_
    replace B1 : Blt u15 bk1 91 #[Value.bool (false), s1.v, Value.bool b3, s6.v, Value.bool false, (⟨none, 0, 0⟩ : Slc).v, Value.bool false, (⟨none, 0, 0⟩ : Slc).v, Value.bool false, (⟨none, 0, 0⟩ : Slc).v] := B1_
    clear B1_
    refine stC_t 4 B1 rfl rfl rfl fun u16 k_u16 B1_ => ?_
    replace B1 : Blt u16 bk1 91 #[Value.bool (false), s1.v, Value.bool b3, s6.v, Value.bool b2, (⟨none, 0, 0⟩ : Slc).v, Value.bool false, (⟨none, 0, 0⟩ : Slc).v, Value.bool false, (⟨none, 0, 0⟩ : Slc).v] := B1_
    clear B1_
    refine stC_t 5 B1 rfl rfl rfl fun u17 k_u17 B1_ => ?_
    replace B1 : Blt u17 bk1 91 #[Value.bool (false), s1.v, Value.bool b3, s6.v, Value.bool b2, s5.v, Value.bool false, (⟨none, 0, 0⟩ : Slc).v, Value.bool false, (⟨none, 0, 0⟩ : Slc).v] := B1_
    clear B1_
    refine stC_t 6 B1 rfl rfl rfl fun u18 k_u18 B1_ => ?_
    replace B1 : Blt u18 bk1 91 #[Value.bool (false), s1.v, Value.bool b3, s6.v, Value.bool b2, s5.v, Value.bool b6, (⟨none, 0, 0⟩ : Slc).v, Value.bool false, (⟨none, 0, 0⟩ : Slc).v] := B1_
    clear B1_
    refine stC_t 7 B1 rfl rfl rfl fun u19 k_u19 B1_ => ?_
    replace B1 : Blt u19 bk1 91 #[Value.bool (false), s1.v, Value.bool b3, s6.v, Value.bool b2, s5.v, Value.bool b6, s9.v, Value.bool false, (⟨none, 0, 0⟩ : Slc).v] := B1_
    clear B1_
    refine stC_t 8 B1 rfl rfl rfl fun u20 k_u20 B1_ => ?_
    replace B1 : Blt u20 bk1 91 #[Value.bool (false), s1.v, Value.bool b3, s6.v, Value.bool b2, s5.v, Value.bool b6, s9.v, Value.bool (false), (⟨none, 0, 0⟩ : Slc).v] := B1_
    clear B1_
    refine stC_t 9 B1 rfl rfl rfl fun u21 k_u21 B1_ => ?_
    replace B1 : Blt u21 bk1 91 #[Value.bool (false), s1.v, Value.bool b3, s6.v, Value.bool b2, s5.v, Value.bool b6, s9.v, Value.bool (false), s3.v] := B1_
    clear B1_
    have kk_u12 := (((((((((k_u12.trans k_u13).trans k_u14).trans k_u15).trans k_u16).trans k_u17).trans k_u18).trans k_u19).trans k_u20).trans k_u21)
    obtain ⟨B2, B3, B4, B5, B6⟩ := up5 kk_u12 B2 B3 B4 B5 B6 (by omega)
    obtain ⟨A, X⟩ := axu2 kk_u12 g1 A X
    clear k_u21 k_u20 k_u19 k_u18 k_u17 k_u16 k_u15 k_u14 k_u13 k_u12
    refine ldB_t 0 B1 rfl ?_
    refine ldS_t 1 B1 rfl ?_
    refine ldB_t 2 B1 rfl ?_
    refine ldS_t 3 B1 rfl ?_
    refine ldB_t 4 B1 rfl ?_
    refine ldS_t 5 B1 rfl ?_
    refine ldB_t 6 B1 rfl ?_
    refine ldS_t 7 B1 rfl ?_
    refine ldB_t 8 B1 rfl ?_
    refine ldS_t 9 B1 rfl ?_
    replace h := h _ X A
    exact ⟨A, h⟩

end Go.Proofs.Ytfdajpjiengihaa
namespace Go.Proofs.Ytfdajpjiengihaa
open Go Go.RowKit Eng Sp Dg L2
set_option linter.unusedVariables false
set_option linter.unusedSimpArgs false
set_option maxRecDepth 100000
namespace Mul
open _root_.Go.Proofs.Ytfdajpjiengihaa.Nat (ldN ldNf stN mkN Fill mkF stF stFf Num OwnNil OwnNil.rd OwnNil.mono OwnNil.ahead cmp_num Norm_spec len_le quot_limb drop_set_self)
open Sb

def sv (n : Bool) (x : Nat) : Int := if n then -(x : Int) else x
theorem sv_abs (n : Bool) (x : Nat) : (sv n x).natAbs = x := by unfold sv; cases n <;> simp
theorem sv_add (n : Bool) (x y : Nat) : sv n (x + y) = sv n x + sv n y := by unfold sv; split <;> omega
theorem sv_sub (n : Bool) {x y : Nat} (h : y ≤ x) : sv n (x - y) = sv n x - sv n y := by unfold sv; split <;> omega
theorem sv_not (n : Bool) (x : Nat) : sv (!n) x = -sv n x := by unfold sv; cases n <;> simp
theorem sv_mul (n m : Bool) (x y : Nat) : sv (!(n == m)) (x * y) = sv n x * sv m y := by
  unfold sv
  cases n <;> cases m <;> simp [Int.neg_mul, Int.mul_neg]
theorem sv_scale (n : Bool) (k x : Nat) : sv n (k * x) = (k : Int) * sv n x := by unfold sv; cases n <;> simp [Int.mul_neg]
/-- A sign and limbs that mean the number. -/
structure Sg (w : World) (n : Bool) (s : Slc) (z : Int) : Prop where
  rd : Rd .u64 w s (nn (digs B64 z.natAbs))
  eq : sv n z.natAbs = z
theorem Sg.ahead {w w' : World} {n : Bool} {s : Slc} {z : Int} (h : Sg w n s z) (a : Ahead w w') : Sg w' n s z := ⟨h.rd.ahead a, h.eq⟩
theorem Sg.ext {w w' : World} {n : Bool} {s : Slc} {z : Int} (h : Sg w n s z) (a : Ext w w') : Sg w' n s z := ⟨h.rd.ext a, h.eq⟩
theorem Sg.upd {w w' : World} {n : Bool} {s : Slc} {z : Int} {b : Nat} (h : Sg w n s z) (u : Upd b w w') : Sg w' n s z := ⟨u.rd _ _ h.rd, h.eq⟩
theorem Sg.of {w : World} {n : Bool} {s : Slc} {z : Int} {x : Nat} (h : Rd .u64 w s (nn (digs B64 x))) (e : sv n x = z) : Sg w n s z := by
  have : z.natAbs = x := by rw [← e, sv_abs]
  exact ⟨by rw [this]; exact h, by rw [this]; exact e⟩
theorem Sg.neg {w : World} {n : Bool} {s : Slc} {z : Int} (h : Sg w n s z) : Sg w (!n) s (-z) := ⟨by rw [Int.natAbs_neg]; exact h.rd, by rw [Int.natAbs_neg, sv_not, h.eq]⟩
def SRet (w : World) (z : Int) (e : Ending) (w' : World) : Prop := Ahead w w' ∧ ∃ n s, e = .returned (.agg #[.bool n, Slc.v s]) ∧ Sg w' n s z
def szZ (z : Int) : Prop := (digs B64 z.natAbs).length + 2 ≤ 2 ^ 44
theorem num_dg {w : World} {s : Slc} {x : Nat} (r : Rd .u64 w s (nn (digs B64 x))) (l : (digs B64 x).length + 2 ≤ 2 ^ 44) : Num w s x := ⟨_, r, by omega, ok_digs two64 _, val_digs two64 _⟩

theorem plus_spec {w : World} {n m : Bool} {s t : Slc} {x y : Int} (hx : Sg w n s x) (hy : Sg w m t y) (lx : szZ x) (ly : szZ y) :
    Calls pr mul_signed_plus_id #[.agg #[.bool n, s.v], .agg #[.bool m, t.v]] w (SRet w (x + y)) := by
  unfold szZ at lx ly
  have ex := hx.eq
  have ey := hy.eq
  have rx := hx.rd
  have ry := hy.rd
  generalize hA : x.natAbs = A at *
  generalize hC : y.natAbs = C at *
  refine Calls.mono (mul_signed_plus_v2 n s m t w (fun e w' => ∃ n s, e = .returned (.agg #[.bool n, Slc.v s]) ∧ Sg w' n s (x + y)) (br_intro (fun he => fun w1 X1 a1 => ?_) (fun he => fun w5 X5 a5 => ?_))) fun e w' h => h
  · have he' : n = m := eq_of_beq he
    subst he'
    refine Calls.mono (sum_spec (rx.ahead a1) (ry.ahead a1) (ok_digs two64 _) (ok_digs two64 _) (by omega) (by omega)) ?_
    rintro e w2 ⟨h2, u, l, rfl, o2, n2, k2, v2⟩
    refine ⟨_, rfl, h2, Calls.mono (Norm_spec o2.rd (by omega) k2) ?_⟩
    rw [v2, val_digs two64, val_digs two64]
    rintro e w3 ⟨h3, v, rfl, o3⟩
    exact ⟨_, rfl, h3, fun w4 X4 a4 => ⟨_, _, rfl, Sg.of (o3.rd.ext X4) (by rw [sv_add, ex, ey])⟩⟩
  · have he' : m = !n := by
      have := beq_eq_false_iff_ne.1 he
      cases n <;> cases m <;> simp_all
    subst he'
    refine Calls.mono (cmp_num (num_dg (rx.ahead a5) lx) (num_dg (ry.ahead a5) ly)) ?_
    rintro e w6 ⟨h6, rfl⟩
    refine ⟨_, rfl, h6, br_intro (fun hl => fun w7 X7 a7 => ?_) (fun hl => fun w7 X7 a7 => ?_)⟩
    · have hle : C ≤ A := by
        have h1 := of_decide_eq_true hl
        rcases Nat.lt_or_ge A C with h | h
        · have := cmpI_neg.2 h; omega
        · exact h
      refine Calls.mono (less_spec (rx.ahead a7) (ry.ahead a7) (ok_digs two64 _) (ok_digs two64 _) (by omega) (by omega) (by rw [val_digs two64, val_digs two64]; exact hle)) ?_
      rintro e w2 ⟨h2, u, l, rfl, o2, n2, k2, v2⟩
      refine ⟨_, rfl, h2, Calls.mono (Norm_spec o2.rd (by omega) k2) ?_⟩
      rw [v2, val_digs two64, val_digs two64]
      rintro e w3 ⟨h3, v, rfl, o3⟩
      exact ⟨_, rfl, h3, fun w4 X4 a4 => ⟨_, _, rfl, Sg.of (o3.rd.ext X4) (by rw [sv_sub _ hle]; rw [sv_not] at ey; omega)⟩⟩
    · have hle : A ≤ C := by
        have h1 := of_decide_eq_false hl
        rcases Nat.lt_or_ge C A with h | h
        · have := cmpI_pos.2 h; omega
        · exact h
      refine Calls.mono (less_spec (ry.ahead a7) (rx.ahead a7) (ok_digs two64 _) (ok_digs two64 _) (by omega) (by omega) (by rw [val_digs two64, val_digs two64]; exact hle)) ?_
      rintro e w2 ⟨h2, u, l, rfl, o2, n2, k2, v2⟩
      refine ⟨_, rfl, h2, Calls.mono (Norm_spec o2.rd (by omega) k2) ?_⟩
      rw [v2, val_digs two64, val_digs two64]
      rintro e w3 ⟨h3, v, rfl, o3⟩
      exact ⟨_, rfl, h3, fun w4 X4 a4 => ⟨_, _, rfl, Sg.of (o3.rd.ext X4) (by rw [sv_sub _ hle, sv_not, sv_not]; rw [sv_not] at ey; omega)⟩⟩
theorem minus_spec {w : World} {n m : Bool} {s t : Slc} {x y : Int} (hx : Sg w n s x) (hy : Sg w m t y) (lx : szZ x) (ly : szZ y) :
    Calls pr mul_signed_minus_id #[.agg #[.bool n, s.v], .agg #[.bool m, t.v]] w (SRet w (x - y)) := by
  refine Calls.mono (mul_signed_minus_v2 n s m t w (fun e w' => ∃ n s, e = .returned (.agg #[.bool n, Slc.v s]) ∧ Sg w' n s (x - y)) fun w1 X1 a1 => ?_) fun e w' h => h
  refine Calls.mono (plus_spec (hx.ahead a1) (hy.ahead a1).neg lx (by unfold szZ at ly ⊢; rw [Int.natAbs_neg]; exact ly)) ?_
  rintro e w2 ⟨h2, n2, s2, rfl, g2⟩
  exact ⟨_, _, rfl, h2, fun w3 X3 a3 => ⟨_, _, rfl, g2.ext X3⟩⟩
theorem double_spec {w : World} {n : Bool} {s : Slc} {x : Int} (hx : Sg w n s x) (lx : szZ x) :
    Calls pr mul_signed_double_id #[.agg #[.bool n, s.v]] w (SRet w (x + x)) := by
  refine Calls.mono (mul_signed_double_v2 n s w (fun e w' => ∃ n s, e = .returned (.agg #[.bool n, Slc.v s]) ∧ Sg w' n s (x + x)) fun w1 X1 a1 => ?_) fun e w' h => h
  refine Calls.mono (plus_spec (hx.ahead a1) (hx.ahead a1) lx lx) ?_
  rintro e w2 ⟨h2, n2, s2, rfl, g2⟩
  exact ⟨_, _, rfl, h2, fun w3 X3 a3 => ⟨_, _, rfl, g2.ext X3⟩⟩

theorem half_step {V A P v a c a0 M : Nat} (h : 2 * V + a0 = A + (a % 2) * P) (hv : v = a / 2 + (c % 2) * M) : 2 * (V + P * v) + a0 = (A + P * a) + (c % 2) * (P * (2 * M)) := by
  subst hv
  have e1 := Nat.mod_add_div a 2
  have e2 : P * a = P * (a % 2) + 2 * (P * (a / 2)) := by
    rw [← Nat.mul_left_comm, ← Nat.mul_add, e1]
  rw [e2]
  rw [Nat.mul_comm (a % 2) P] at h
  have e3 : c % 2 * (P * (2 * M)) = 2 * (P * (c % 2 * M)) := by ac_rfl
  rw [e3]
  simp only [Nat.mul_add]
  omega
theorem or_half {v c : Nat} (hv : v < 9223372036854775808) : v ||| (c % 2) * 9223372036854775808 = v + (c % 2) * 9223372036854775808 := by
  rcases Nat.mod_two_eq_zero_or_one c with h | h
  · rw [h]; simp
  · rw [h, Nat.one_mul, Nat.or_comm]
    have := Nat.two_pow_add_eq_or_of_lt (i := 63) (b := v) (by omega) 1
    rw [Nat.mul_one] at this
    have e : (2 : Nat) ^ 63 = 9223372036854775808 := by decide
    rw [e] at this
    omega
theorem half_spec {w : World} {n : Bool} {s : Slc} {z : Int} (hx : Sg w n s (2 * z)) (lx : szZ (2 * z)) :
    Calls pr mul_signed_half_id #[.agg #[.bool n, s.v]] w (SRet w z) := by
  have hB := B64v
  unfold szZ at lx
  have ez := hx.eq
  have rs := hx.rd
  have hA2 : (2 * z).natAbs = 2 * z.natAbs := by rw [Int.natAbs_mul]; rfl
  have vA := val_digs two64 (2 * z).natAbs
  have oA := ok_digs two64 (2 * z).natAbs
  have hz : sv n z.natAbs = z := by rw [hA2, sv_scale] at ez; omega
  generalize digs B64 (2 * z).natAbs = A at *
  rw [hA2] at vA
  have hn : s.n = A.length := by rw [rs.n, nn_length]
  refine mul_signed_half_vc n s w _ (fun t1 t2 out s4 m i w' => ∃ b1 b2, t1 = ⟨b1, 0, none⟩ ∧ t2 = ⟨b2, 0, none⟩ ∧ s4 = s ∧ m = (A.length : Int) ∧ w.heap.size ≤ b2 ∧ ∃ (l : List Nat) (j : Nat), i = (j : Int) ∧ j ≤ A.length ∧
    Fill w w' out l (fun w' => Rd .u64 w' s (nn A) ∧ Blk w' b1 (c2 n s) ∧ Blk w' b2 (c2 false ⟨none, 0, 0⟩)) ∧ l.length = A.length ∧ ok B64 l ∧ 2 * val B64 (l.take j) + A.getD 0 0 % 2 = val B64 (A.take j) + (A.getD j 0 % 2) * B64 ^ j) (fun _ _ _ _ m i _ => (m - i).toNat) ?_ ?_
  · refine newC_b fun b1 w1 hb1 h1 hs1 B1 => newC_b fun b2 w2 hb2 h2 hs2 B2 => ?_
    have h02 := h1.trans h2
    refine ldS_b 1 (B1.ahead h2) rfl ?_
    rw [hn]
    refine mkF (w0 := w) (S := fun w' => Rd .u64 w' s (nn A) ∧ Blk w' b1 (c2 n s) ∧ Blk w' b2 (c2 false ⟨none, 0, 0⟩)) (by omega) (by omega) h02 ⟨rs.ahead h02, B1.ahead h2, B2⟩ ?_
    intro c w3 hcn hf ha
    refine ldS_b 1 ((B1.ahead h2).ahead ha) rfl ?_
    refine ⟨b1, b2, rfl, rfl, rfl, by rw [hn], by have := h1.size; omega, _, 0, rfl, Nat.zero_le _, hf, by rw [List.length_replicate]; omega, ok_replicate (by omega) _, by simp [val]⟩
  · rintro _ _ out _ m i w1 ⟨b1, b2, rfl, rfl, rfl, rfl, hb2, l, j, rfl, hj, hf, hl, ol, hv⟩
    obtain ⟨r1, B1, B2⟩ := hf.src (fun _ a ⟨q1, q2, q3⟩ => ⟨q1.ahead a, q2.ahead a, q3.ahead a⟩)
    refine br_intro (fun hlt => ?_) (fun hge => ?_)
    · have hj' : j < A.length := by have := of_decide_eq_true hlt; omega
      have ha := ok_getD oA (by omega : 0 < B64) j
      have hc := ok_getD oA (by omega : 0 < B64) (j + 1)
      have t1 := val_take_succ' A j (B := B64)
      have e8 : IntKind.i64.wrap ((j : Int) + 1) = ((j + 1 : Nat) : Int) := by rw [wrap_i64 (by omega) (by omega)]; omega
      refine ldN r1 (by omega) (by omega) ?_
      rw [Int.toNat_natCast, Nat.fdivN, Nat.pow_one]
      refine stF hf (by omega) (by omega) ?_
      intro w6 hf6
      rw [Int.toNat_natCast] at hf6
      obtain ⟨r6, B16, B26⟩ := hf6.src (fun _ a ⟨q1, q2, q3⟩ => ⟨q1.ahead a, q2.ahead a, q3.ahead a⟩)
      refine ldS_b 1 B16 rfl ?_
      rw [e8]
      have hlj : (l.set j (A.getD j 0 / 2)).getD j 0 = A.getD j 0 / 2 := by rw [getD_set _ _ _ _ (by omega), if_pos rfl]
      generalize hga : A.getD j 0 = a at *
      generalize hgc : A.getD (j + 1) 0 = c at *
      refine br_intro (fun hm => ?_) (fun hm => ?_)
      · have hm' : j + 1 < A.length := by have := of_decide_eq_true hm; omega
        refine ldNf hf6.rd (by omega) (by simp; omega) (ldS_b 1 B16 rfl (ldNf r6 (by omega) (by omega) ?_))
        rw [Int.toNat_natCast, Int.toNat_natCast, hlj, hgc]
        have ew : IntKind.u64.wrap ((c : Int) * 2 ^ (63 : Nat)) = (((c % 2) * 9223372036854775808 : Nat) : Int) := by
          rw [wrap_u64, show (2 : Int) ^ (63 : Nat) = 9223372036854775808 from by decide]; omega
        rw [ew, Nat.orI_nat (by omega) (by omega), or_half (by omega)]
        refine stFf hf6 (Ahead.drew _) (by omega) (by simp; omega) ?_
        intro w7 hf7
        rw [Int.toNat_natCast, List.set_set] at hf7
        refine ⟨⟨b1, b2, rfl, rfl, rfl, rfl, hb2, _, j + 1, rfl, hj', hf7, by simpa using hl, ok_set ol (by omega), ?_⟩, by omega⟩
        rw [val_take_set _ _ _ (by omega), t1, Nat.pow_succ, hgc, hB]
        rw [hB] at hv
        have := half_step (P := 18446744073709551616 ^ j) (v := a / 2 + (c % 2) * 9223372036854775808) (c := c) (M := 9223372036854775808) hv rfl
        exact this
      · have hm' : j + 1 = A.length := by have := of_decide_eq_false hm; omega
        have hc0 : c = 0 := by rw [← hgc, getD_ge _ _ (by omega)]
        refine ⟨⟨b1, b2, rfl, rfl, rfl, rfl, hb2, _, j + 1, rfl, hj', hf6, by simpa using hl, ok_set ol (by omega), ?_⟩, by omega⟩
        rw [val_take_set _ _ _ (by omega), t1, Nat.pow_succ, hgc, hB, hc0]
        rw [hB] at hv
        have := half_step (P := 18446744073709551616 ^ j) (v := a / 2) (c := 0) (M := 9223372036854775808) hv (by simp)
        exact this
    · have hj' : j = A.length := by have := of_decide_eq_false hge; omega
      subst hj'
      rw [val_take_all l (by omega), List.take_length, getD_ge A 0 (Nat.le_refl _), vA] at hv
      have hv' : val B64 l = z.natAbs := by omega
      have ad := Ahead.drew w1
      refine ldB_b 0 (B1.ahead ad) rfl (Calls.mono (Norm_spec (hf.rd.ahead ad) (by omega) ol) ?_)
      rw [hv']
      rintro e w8 ⟨h8, u, rfl, o8⟩
      refine ⟨_, rfl, h8, ret2 ((B2.ahead ad).ahead h8) fun w' up _ => ⟨up.ahead ((hf.base.trans ad).trans h8) hb2, n, u, rfl, Sg.of (up.rd _ _ o8.rd) hz⟩⟩

theorem third_spec {w : World} {n : Bool} {s : Slc} {z : Int} (hx : Sg w n s (3 * z)) (lx : szZ (3 * z)) :
    Calls pr mul_signed_third_id #[.agg #[.bool n, s.v]] w (SRet w z) := by
  have hB := B64v
  unfold szZ at lx
  have ez := hx.eq
  have rs := hx.rd
  have hA2 : (3 * z).natAbs = 3 * z.natAbs := by rw [Int.natAbs_mul]; rfl
  have vA := val_digs two64 (3 * z).natAbs
  have oA := ok_digs two64 (3 * z).natAbs
  have hz : sv n z.natAbs = z := by rw [hA2, sv_scale] at ez; omega
  generalize digs B64 (3 * z).natAbs = A at *
  rw [hA2] at vA
  have hn : s.n = A.length := by rw [rs.n, nn_length]
  refine mul_signed_third_vc n s w _ (fun t1 t2 out r5 i w' => ∃ b1 b2, t1 = ⟨b1, 0, none⟩ ∧ t2 = ⟨b2, 0, none⟩ ∧ w.heap.size ≤ b2 ∧ ∃ (l : List Nat) (j r : Nat), r5 = (r : Int) ∧ r < 3 ∧ i = (j : Int) - 1 ∧ j ≤ A.length ∧
    Fill w w' out l (fun w' => Rd .u64 w' s (nn A) ∧ Blk w' b1 (c2 n s) ∧ Blk w' b2 (c2 false ⟨none, 0, 0⟩)) ∧ l.length = A.length ∧ ok B64 l ∧ val B64 (A.drop j) = val B64 (l.drop j) * 3 + r) (fun _ _ _ _ i _ => (i + 1).toNat) ?_ ?_
  · refine newC_b fun b1 w1 hb1 h1 hs1 B1 => newC_b fun b2 w2 hb2 h2 hs2 B2 => ?_
    have h02 := h1.trans h2
    refine ldS_b 1 (B1.ahead h2) rfl ?_
    rw [hn]
    refine mkF (w0 := w) (S := fun w' => Rd .u64 w' s (nn A) ∧ Blk w' b1 (c2 n s) ∧ Blk w' b2 (c2 false ⟨none, 0, 0⟩)) (by omega) (by omega) h02 ⟨rs.ahead h02, B1.ahead h2, B2⟩ ?_
    intro c w3 hcn hf ha
    refine ldS_b 1 ((B1.ahead h2).ahead ha) rfl ?_
    rw [hn, wrap_i64 (by omega) (by omega)]
    refine ⟨b1, b2, rfl, rfl, by have := h1.size; omega, _, A.length, 0, rfl, by omega, rfl, Nat.le_refl _, hf, by rw [List.length_replicate]; omega, ok_replicate (by omega) _, ?_⟩
    rw [List.drop_eq_nil_of_le (Nat.le_refl _), List.drop_eq_nil_of_le (by simp)]; simp [val]
  · rintro _ _ out _ i w1 ⟨b1, b2, rfl, rfl, hb2, l, j, r, rfl, hr, rfl, hj, hf, hl, ol, hv⟩
    obtain ⟨r1, B1, B2⟩ := hf.src (fun _ a ⟨q1, q2, q3⟩ => ⟨q1.ahead a, q2.ahead a, q3.ahead a⟩)
    refine br_intro (fun hge => ?_) (fun hlt => ?_)
    · have hj' : 1 ≤ j := by have := of_decide_eq_true hge; omega
      have e1 : ((j : Int) - 1) = ((j - 1 : Nat) : Int) := by omega
      have hx := ok_getD oA (by omega : 0 < B64) (j - 1)
      rw [e1]
      refine ldS_b 1 B1 rfl (ldN r1 (by omega) (by omega) ?_)
      rw [Int.toNat_natCast]
      refine Calls.mono (Nat.Div64_spec hr hx (show 3 < B64 by omega)) ?_
      rintro e w4 ⟨h4, rfl⟩
      refine ⟨_, _, rfl, ?_⟩
      refine stF (hf.ahead h4) (by omega) (by omega) ?_
      intro w6 hf6
      rw [Int.toNat_natCast] at hf6
      have hq := quot_limb hr hx
      have hm := Nat.mod_lt (r * B64 + A.getD (j - 1) 0) (show 0 < 3 by omega)
      have hdm := Nat.mod_add_div (r * B64 + A.getD (j - 1) 0) 3
      rw [wrap_i64 (by omega) (by omega)]
      refine ⟨⟨b1, b2, rfl, rfl, hb2, _, j - 1, _, rfl, hm, rfl, by omega, hf6, by simpa using hl, ok_set ol hq, ?_⟩, by omega⟩
      rw [drop_set_self _ _ _ (by omega), List.drop_eq_getElem_cons (by omega : j - 1 < A.length), ← getD_lt _ 0, show j - 1 + 1 = j by omega]
      simp only [val]
      rw [hv]
      generalize (r * B64 + A.getD (j - 1) 0) / 3 = q at *
      generalize (r * B64 + A.getD (j - 1) 0) % 3 = m at *
      generalize A.getD (j - 1) 0 = x at *
      generalize val B64 (l.drop j) = V at *
      rw [Nat.mul_add, Nat.add_mul, ← Nat.mul_assoc, Nat.mul_comm B64 r]
      omega
    · have hj' : j = 0 := by have := of_decide_eq_false hlt; omega
      subst hj'
      rw [List.drop_zero, List.drop_zero, vA] at hv
      have hv' : val B64 l = z.natAbs := by omega
      have ad := Ahead.drew w1
      refine ldB_b 0 (B1.ahead ad) rfl (Calls.mono (Norm_spec (hf.rd.ahead ad) (by omega) ol) ?_)
      rw [hv']
      rintro e w8 ⟨h8, u, rfl, o8⟩
      refine ⟨_, rfl, h8, ret2 ((B2.ahead ad).ahead h8) fun w' up _ => ⟨up.ahead ((hf.base.trans ad).trans h8) hb2, n, u, rfl, Sg.of (up.rd _ _ o8.rd) hz⟩⟩

theorem sz_small {z : Int} {k : Nat} (h : z.natAbs ≤ 100 * B64 ^ k) (hk : k + 4 ≤ 2 ^ 44) : szZ z := by
  unfold szZ
  have hB := B64v
  have hp : 0 < B64 ^ k := Nat.pow_pos (by omega)
  have h1 : 100 * B64 ^ k < B64 ^ k * B64 := by rw [Nat.mul_comm 100]; exact Nat.mul_lt_mul_of_pos_left (by omega) hp
  have := digs_length_le two64 (n := z.natAbs) (m := k + 1) (by rw [Nat.pow_succ]; omega)
  omega
/-- What points tells. -/
def Pts (w : World) (a0 a1 a2 : Int) (e : Ending) (w' : World) : Prop := Ahead w w' ∧ ∃ n0 s0 n1 s1 n2 s2 n3 s3 n4 s4, e = .returned (.agg #[.bool n0, Slc.v s0, .bool n1, Slc.v s1, .bool n2, Slc.v s2, .bool n3, Slc.v s3, .bool n4, Slc.v s4]) ∧
  Sg w' n0 s0 a0 ∧ Sg w' n1 s1 (a0 + a2 + a1) ∧ Sg w' n2 s2 (a0 + a2 - a1) ∧ Sg w' n3 s3 ((a0 + a2 - a1 + a2) + (a0 + a2 - a1 + a2) - a0) ∧ Sg w' n4 s4 a2
theorem points_spec {w : World} {a : Slc} {l : List Nat} {k : Nat} (h : Rd .u64 w a (nn l)) (ol : ok B64 l) (ll : l.length ≤ 3 * k) (hk : k + 4 ≤ 2 ^ 44) :
    Calls pr mul_points_id #[a.v, .int .i64 (k : Int)] w (Pts w (val B64 (l.take k) : Nat) (val B64 ((l.drop k).take k) : Nat) (val B64 (l.drop (2 * k)) : Nat)) := by
  have hB := B64v
  have hna : a.n = l.length := by rw [h.n, nn_length]
  have b0 : val B64 (l.take k) ≤ B64 ^ k := by
    refine Nat.le_of_lt (Nat.lt_of_lt_of_le (val_lt (ok_take ol k)) (Nat.pow_le_pow_right (by omega) (by simp; omega)))
  have b1 : val B64 ((l.drop k).take k) ≤ B64 ^ k := by
    refine Nat.le_of_lt (Nat.lt_of_lt_of_le (val_lt (ok_take (ok_drop ol k) k)) (Nat.pow_le_pow_right (by omega) (by simp; omega)))
  have b2 : val B64 (l.drop (2 * k)) ≤ B64 ^ k := by
    refine Nat.le_of_lt (Nat.lt_of_lt_of_le (val_lt (ok_drop ol (2 * k))) (Nat.pow_le_pow_right (by omega) (by simp; omega)))
  refine Calls.mono (mul_points_v2 a k w (fun e w' => ∃ n0 s0 n1 s1 n2 s2 n3 s3 n4 s4, e = .returned (.agg #[.bool n0, Slc.v s0, .bool n1, Slc.v s1, .bool n2, Slc.v s2, .bool n3, Slc.v s3, .bool n4, Slc.v s4]) ∧
    Sg w' n0 s0 (val B64 (l.take k) : Nat) ∧ Sg w' n1 s1 ((val B64 (l.take k) : Nat) + (val B64 (l.drop (2 * k)) : Nat) + (val B64 ((l.drop k).take k) : Nat)) ∧ Sg w' n2 s2 ((val B64 (l.take k) : Nat) + (val B64 (l.drop (2 * k)) : Nat) - (val B64 ((l.drop k).take k) : Nat)) ∧
    Sg w' n3 s3 ((((val B64 (l.take k) : Nat) + (val B64 (l.drop (2 * k)) : Nat) - (val B64 ((l.drop k).take k) : Nat) + (val B64 (l.drop (2 * k)) : Nat)) + ((val B64 (l.take k) : Nat) + (val B64 (l.drop (2 * k)) : Nat) - (val B64 ((l.drop k).take k) : Nat) + (val B64 (l.drop (2 * k)) : Nat)) - (val B64 (l.take k) : Nat) : Int)) ∧ Sg w' n4 s4 (val B64 (l.drop (2 * k)) : Nat)) fun w1 X1 a1 => ?_) fun e w' h => h
  have r1 := h.ahead a1
  refine Calls.mono (part_lo r1 ol (by omega) k) ?_
  rintro e w2 ⟨rfl, s0, rfl, q0, -⟩
  refine ⟨_, rfl, Ahead.refl _, ?_⟩
  rw [wrap_i64 (x := 2 * (k : Int)) (by omega) (by omega), show 2 * (k : Int) = ((2 * k : Nat) : Int) by omega]
  refine Calls.mono (part_spec r1 ol (by omega) (f := (k : Int)) (t := ((2 * k : Nat) : Int)) (by omega) (by simp only [Int.toNat_natCast]; omega) (by omega)) ?_
  rintro e w3 ⟨rfl, s1, rfl, q1⟩
  have e1 : (l.drop (min ((k : Int)).toNat l.length)).take (min (((2 * k : Nat) : Int)).toNat l.length - min ((k : Int)).toNat l.length) = (l.drop k).take k := by
    simp only [Int.toNat_natCast]
    rcases Nat.le_total k l.length with h | h
    · rw [Nat.min_eq_left h]
      rcases Nat.le_total (2 * k) l.length with h2 | h2
      · rw [Nat.min_eq_left h2, show 2 * k - k = k by omega]
      · rw [Nat.min_eq_right h2, List.take_of_length_le (by simp), List.take_of_length_le (by simp; omega)]
    · rw [Nat.min_eq_right h, Nat.min_eq_right (by omega), List.drop_of_length_le (Nat.le_refl _), List.drop_of_length_le h]; simp
  rw [e1] at q1
  refine ⟨_, rfl, Ahead.refl _, ?_⟩
  rw [hna]
  refine Calls.mono (part_hi r1 ol (by omega) (2 * k) _ rfl) ?_
  rintro e w4 ⟨rfl, s2, rfl, q2, -⟩
  generalize val B64 (l.take k) = A0 at *
  generalize val B64 ((l.drop k).take k) = A1 at *
  generalize val B64 (l.drop (2 * k)) = A2 at *
  have S0 : Sg w4 false s0 (A0 : Int) := ⟨q0, rfl⟩
  have S1 : Sg w4 false s1 (A1 : Int) := ⟨q1, rfl⟩
  have S2 : Sg w4 false s2 (A2 : Int) := ⟨q2, rfl⟩
  have sz : ∀ z : Int, z.natAbs ≤ 100 * B64 ^ k → szZ z := fun z hz => sz_small hz hk
  generalize B64 ^ k = P at *
  refine ⟨_, rfl, Ahead.refl _, fun w5 X5 a5 => ?_⟩
  refine Calls.mono (plus_spec (S0.ext X5) (S2.ext X5) (sz _ (by omega)) (sz _ (by omega))) ?_
  rintro e w6 ⟨h6, m1, t1, rfl, T1⟩
  refine ⟨_, _, rfl, h6, fun w7 X7 a7 => ?_⟩
  have Y7 := X5.trans (h6.ext.trans X7)
  refine Calls.mono (minus_spec (T1.ext X7) (S1.ext Y7) (sz _ (by omega)) (sz _ (by omega))) ?_
  rintro e w8 ⟨h8, m2, t2, rfl, T2⟩
  refine ⟨_, _, rfl, h8, fun w9 X9 a9 => ?_⟩
  have Y9 := Y7.trans (h8.ext.trans X9)
  have Z9 := X7.trans (h8.ext.trans X9)
  refine Calls.mono (plus_spec (T1.ext Z9) (S1.ext Y9) (sz _ (by omega)) (sz _ (by omega))) ?_
  rintro e w10 ⟨h10, m3, t3, rfl, T3⟩
  refine ⟨_, _, rfl, h10, Calls.mono (plus_spec ((T2.ext X9).ahead h10) ((S2.ext Y9).ahead h10) (sz _ (by omega)) (sz _ (by omega))) ?_⟩
  rintro e w11 ⟨h11, m4, t4, rfl, T4⟩
  refine ⟨_, _, rfl, h11, Calls.mono (double_spec T4 (sz _ (by omega))) ?_⟩
  rintro e w12 ⟨h12, m5, t5, rfl, T5⟩
  have Y12 := (h10.trans h11).trans h12
  refine ⟨_, _, rfl, h12, Calls.mono (minus_spec T5 ((S0.ext Y9).ahead Y12) (sz _ (by omega)) (sz _ (by omega))) ?_⟩
  rintro e w13 ⟨h13, m6, t6, rfl, T6⟩
  refine ⟨_, _, rfl, h13, fun w14 X14 a14 => ?_⟩
  have W := (Y12.trans h13).ext.trans X14
  exact ⟨_, _, _, _, _, _, _, _, _, _, rfl, S0.ext (Y9.trans W), T3.ext (((h11.trans h12).trans h13).ext.trans X14), T2.ext (X9.trans W), T6.ext X14, S2.ext (Y9.trans W)⟩

end Mul
end Go.Proofs.Ytfdajpjiengihaa
namespace Go.Proofs.Ytfdajpjiengihaa
open Go Go.RowKit Eng Sp Dg L2
set_option linter.unusedVariables false
set_option linter.unusedSimpArgs false
set_option maxRecDepth 100000
namespace Mul
open _root_.Go.Proofs.Ytfdajpjiengihaa.Nat (ldN ldNf stN mkN Fill mkF stF stFf Num OwnNil OwnNil.rd OwnNil.mono OwnNil.ahead Norm_spec len_le Ret bigC bigC_ok Yes num_of)
open _root_.Go.Proofs.Ytfdajpjiengihaa.Ref (RN Lend_spec Of_spec Kept_spec own_list digs_own_len low_ahead)
open Sb

abbrev cf (N : Nat → Bool) (S : Nat → Slc) : Array Value := #[.bool (N 0), (S 0).v, .bool (N 1), (S 1).v, .bool (N 2), (S 2).v, .bool (N 3), (S 3).v, .bool (N 4), (S 4).v]
def sel5 {α : Type} (a b c d e : α) : Nat → α
  | 0 => a | 1 => b | 2 => c | 3 => d | _ => e
def arB (P : Program) (t : TypeId) : Bool := match P.underlying t with
  | some (.array n e) => n == 5 && (match P.info? e with
    | some i => i.size == 2
    | none => false) && (match P.underlying e with
    | some (.struct _) => true
    | _ => false)
  | _ => false
theorem arB_out {P : Program} {t : TypeId} (h : arB P t = true) : ∃ e i f, P.underlying t = some (.array 5 e) ∧ P.info? e = some i ∧ i.size = 2 ∧ P.underlying e = some (.struct f) := by
  unfold arB at h
  split at h
  · rename_i n e hu
    simp only [Bool.and_eq_true] at h
    obtain ⟨⟨h1, h2⟩, h3⟩ := h
    split at h2
    · rename_i i hi
      split at h3
      · rename_i f hf
        have : n = 5 := eq_of_beq h1
        subst this
        exact ⟨e, i, f, hu, hi, eq_of_beq h2, hf⟩
      · cases h3
    · cases h2
  · cases h
theorem run_arr {P : Program} {t : TypeId} (hT : arB P t = true) (w : World) (b : Nat) {j : Nat} (hj : j < 5) : (Instr.indexAt t (.pointer (some ⟨b, 0, none⟩)) (.int .i64 (j : Int))).run P w = .ok (.pointer (some ⟨b, 2 * j, none⟩)) w := by
  obtain ⟨e, i, f, hu, hi, hs, hf⟩ := arB_out hT
  have e1 : (⟨b, 0, none⟩ : Addr).add (j * 2) = ⟨b, 2 * j, none⟩ := by rw [add_off, Nat.mul_comm]
  simp only [Instr.indexAt, asIntOf, underlying, program, Sem.run_bind, Sem.run, Result.andThen, hu, Sem.run_pure, Instr.sureAddr]
  simp [hj, show (0 : Int) ≤ (j : Int) by omega, show (j : Int) < 5 by omega, sizeOf, typeInfo, program, Sem.run, hi, hs, e1]
theorem arr_sem {t : TypeId} {w : World} {b j : Nat} (hj : j < 5) {K : Addr → World → Prop} (hk : K ⟨b, 2 * j, none⟩ w) (hT : arB pr t = true := by kernel_rfl) : semA pr (Instr.indexAt t (.pointer (some ⟨b, 0, none⟩)) (.int .i64 (j : Int))) w K := by
  unfold semA
  rw [Sem.wp_iff_run, run_arr hT w b hj]
  exact ⟨_, rfl, hk⟩
theorem arr_fix {t : TypeId} {w : World} {b j : Nat} (hj : j < 5) {K : Addr → Prop} (hk : K ⟨b, 2 * j, none⟩) (hT : arB pr t = true := by kernel_rfl) : fixA pr (Instr.indexAt t (.pointer (some ⟨b, 0, none⟩)) (.int .i64 (j : Int))) w K :=
  ⟨_, fun w' _ => run_arr hT w' b hj, hk⟩
theorem arr_any {t : TypeId} {b j : Nat} (hj : j < 5) {K : Addr → Prop} (hk : K ⟨b, 2 * j, none⟩) (hT : arB pr t = true := by kernel_rfl) : anyA pr (Instr.indexAt t (.pointer (some ⟨b, 0, none⟩)) (.int .i64 (j : Int))) K :=
  ⟨_, fun w' => run_arr hT w' b hj, hk⟩
theorem cf_get0 (N : Nat → Bool) (S : Nat → Slc) {j : Nat} (hj : j < 5) : (cf N S)[2 * j]? = some (.bool (N j)) := by
  match j, hj with
  | 0, _ => rfl
  | 1, _ => rfl
  | 2, _ => rfl
  | 3, _ => rfl
  | 4, _ => rfl
theorem cf_get1 (N : Nat → Bool) (S : Nat → Slc) {j : Nat} (hj : j < 5) : (cf N S)[2 * j + 1]? = some (S j).v := by
  match j, hj with
  | 0, _ => rfl
  | 1, _ => rfl
  | 2, _ => rfl
  | 3, _ => rfl
  | 4, _ => rfl
theorem cf_set (N : Nat → Bool) (S : Nat → Slc) {j : Nat} (hj : j < 5) (n : Bool) (s : Slc) : ((cf N S).setIfInBounds (2 * j) (.bool n)).setIfInBounds (2 * j + 1) s.v = cf (fun i => if i = j then n else N i) (fun i => if i = j then s else S i) := by
  match j, hj with
  | 0, _ => rfl
  | 1, _ => rfl
  | 2, _ => rfl
  | 3, _ => rfl
  | 4, _ => rfl
theorem cf_noU (N : Nat → Bool) (S : Nat → Slc) : Sb.noU (cf N S) = true := rfl
theorem cf_noU' (N : Nat → Bool) (S : Nat → Slc) {j : Nat} (hj : j < 5) (n : Bool) : Sb.noU ((cf N S).setIfInBounds (2 * j) (.bool n)) = true := by
  match j, hj with
  | 0, _ => rfl
  | 1, _ => rfl
  | 2, _ => rfl
  | 3, _ => rfl
  | 4, _ => rfl
theorem at1 {b i : Nat} : (⟨b, i, none⟩ : Addr).add 1 = ⟨b, i + 1, none⟩ := by simp [Addr.add]
/-- One of the five, read. -/
theorem get5 {w : World} {b j : Nat} {N : Nat → Bool} {S : Nat → Slc} (h : Blk w b (cf N S)) (hj : j < 5) {K : Bool → Slc → Prop} (hk : K (N j) (S j)) : ldB ⟨b, 2 * j, none⟩ w fun x => ldS ((⟨b, 2 * j, none⟩ : Addr).add 1) w fun s => K x s :=
  ⟨_, h.cell (cf_get0 N S hj), _, by rw [at1]; exact h.cell (cf_get1 N S hj), hk⟩
theorem getB5 {w : World} {b j : Nat} {N : Nat → Bool} {S : Nat → Slc} (h : Blk w b (cf N S)) (hj : j < 5) {K : Bool → Prop} (hk : K (N j)) : ldB ⟨b, 2 * j, none⟩ w K :=
  ⟨_, h.cell (cf_get0 N S hj), hk⟩
theorem getS5 {w : World} {b j : Nat} {N : Nat → Bool} {S : Nat → Slc} (h : Blk w b (cf N S)) (hj : j < 5) {K : Slc → Prop} (hk : K (S j)) : ldS ((⟨b, 2 * j, none⟩ : Addr).add 1) w K :=
  ⟨_, by rw [at1]; exact h.cell (cf_get1 N S hj), hk⟩
theorem set5 {w : World} {b j : Nat} {N : Nat → Bool} {S : Nat → Slc} (h : Blk w b (cf N S)) (hj : j < 5) {n : Bool} {s : Slc} {K : World → Prop} (hk : ∀ w', Upd b w w' → Blk w' b (cf (fun i => if i = j then n else N i) (fun i => if i = j then s else S i)) → K w') :
    stC ⟨b, 2 * j, none⟩ (.bool n) w fun w1 => stC ((⟨b, 2 * j, none⟩ : Addr).add 1) s.v w1 fun w2 => K w2 :=
  stC_b (2 * j) h (by simp; omega) (cf_noU N S) (fun w1 u1 h1 => stC_b (2 * j + 1) h1 (by simp; omega) (cf_noU' N S hj n) (fun w2 u2 h2 => hk w2 (u1.trans u2) (by rw [← cf_set N S hj n s]; exact h2)) at1) rfl
theorem set10 {w : World} {b : Nat} {N : Nat → Bool} {S : Nat → Slc} {n0 n1 n2 n3 n4 : Bool} {s0 s1 s2 s3 s4 : Slc} {K : World → Prop} (h : Blk w b (cf N S)) (hk : ∀ w', Upd b w w' → Blk w' b (cf (sel5 n0 n1 n2 n3 n4) (sel5 s0 s1 s2 s3 s4)) → K w') :
    stC ⟨b, 0, none⟩ (.bool n0) w fun w1 => stC ((⟨b, 0, none⟩ : Addr).add 1) s0.v w1 fun w2 => stC ((⟨b, 0, none⟩ : Addr).add 2) (.bool n1) w2 fun w3 => stC ((⟨b, 0, none⟩ : Addr).add 3) s1.v w3 fun w4 => stC ((⟨b, 0, none⟩ : Addr).add 4) (.bool n2) w4 fun w5 => stC ((⟨b, 0, none⟩ : Addr).add 5) s2.v w5 fun w6 => stC ((⟨b, 0, none⟩ : Addr).add 6) (.bool n3) w6 fun w7 => stC ((⟨b, 0, none⟩ : Addr).add 7) s3.v w7 fun w8 => stC ((⟨b, 0, none⟩ : Addr).add 8) (.bool n4) w8 fun w9 => stC ((⟨b, 0, none⟩ : Addr).add 9) s4.v w9 fun w10 => K w10 :=
  stC_b 0 (cs := #[.bool (N 0), (S 0).v, .bool (N 1), (S 1).v, .bool (N 2), (S 2).v, .bool (N 3), (S 3).v, .bool (N 4), (S 4).v]) h (by simp) rfl (fun w1 u1 h1 => stC_b 1 (cs := #[.bool n0, (S 0).v, .bool (N 1), (S 1).v, .bool (N 2), (S 2).v, .bool (N 3), (S 3).v, .bool (N 4), (S 4).v]) h1 (by simp) rfl (fun w2 u2 h2 => stC_b 2 (cs := #[.bool n0, s0.v, .bool (N 1), (S 1).v, .bool (N 2), (S 2).v, .bool (N 3), (S 3).v, .bool (N 4), (S 4).v]) h2 (by simp) rfl (fun w3 u3 h3 => stC_b 3 (cs := #[.bool n0, s0.v, .bool n1, (S 1).v, .bool (N 2), (S 2).v, .bool (N 3), (S 3).v, .bool (N 4), (S 4).v]) h3 (by simp) rfl (fun w4 u4 h4 => stC_b 4 (cs := #[.bool n0, s0.v, .bool n1, s1.v, .bool (N 2), (S 2).v, .bool (N 3), (S 3).v, .bool (N 4), (S 4).v]) h4 (by simp) rfl (fun w5 u5 h5 => stC_b 5 (cs := #[.bool n0, s0.v, .bool n1, s1.v, .bool n2, (S 2).v, .bool (N 3), (S 3).v, .bool (N 4), (S 4).v]) h5 (by simp) rfl (fun w6 u6 h6 => stC_b 6 (cs := #[.bool n0, s0.v, .bool n1, s1.v, .bool n2, s2.v, .bool (N 3), (S 3).v, .bool (N 4), (S 4).v]) h6 (by simp) rfl (fun w7 u7 h7 => stC_b 7 (cs := #[.bool n0, s0.v, .bool n1, s1.v, .bool n2, s2.v, .bool n3, (S 3).v, .bool (N 4), (S 4).v]) h7 (by simp) rfl (fun w8 u8 h8 => stC_b 8 (cs := #[.bool n0, s0.v, .bool n1, s1.v, .bool n2, s2.v, .bool n3, s3.v, .bool (N 4), (S 4).v]) h8 (by simp) rfl (fun w9 u9 h9 => stC_b 9 (cs := #[.bool n0, s0.v, .bool n1, s1.v, .bool n2, s2.v, .bool n3, s3.v, .bool n4, (S 4).v]) h9 (by simp) rfl (fun w10 u10 h10 => hk w10 (((((((((u1.trans u2).trans u3).trans u4).trans u5).trans u6).trans u7).trans u8).trans u9).trans u10) h10))))))))))

def pv (a0 a1 a2 : Int) : Nat → Int := sel5 a0 (a0 + a2 + a1) (a0 + a2 - a1) ((a0 + a2 - a1 + a2) + (a0 + a2 - a1 + a2) - a0) a2
theorem pv_le {a0 a1 a2 P : Nat} (h0 : a0 ≤ P) (h1 : a1 ≤ P) (h2 : a2 ≤ P) (i : Nat) : (pv a0 a1 a2 i).natAbs ≤ 7 * P := by
  unfold pv sel5
  split <;> omega
/-- The product's parts. -/
def pr5 (a0 a1 a2 b0 b1 b2 : Nat) : Nat → Nat := sel5 (a0 * b0) (a0 * b1 + a1 * b0) (a0 * b2 + a1 * b1 + a2 * b0) (a1 * b2 + a2 * b1) (a2 * b2)
def ps (r : Nat → Nat) (P : Nat) : Nat → Nat
  | 0 => 0
  | j + 1 => ps r P j + r j * P ^ j
theorem ps_mono (r : Nat → Nat) (P : Nat) {i j : Nat} (h : i ≤ j) : ps r P i ≤ ps r P j := by
  induction j with
  | zero => rw [show i = 0 by omega]; exact Nat.le_refl _
  | succ j ih =>
    by_cases hi : i = j + 1
    · rw [hi]; exact Nat.le_refl _
    · exact Nat.le_trans (ih (by omega)) (Nat.le_add_right _ _)
theorem ps_all (a0 a1 a2 b0 b1 b2 P : Nat) : ps (pr5 a0 a1 a2 b0 b1 b2) P 5 = (a0 + P * (a1 + P * a2)) * (b0 + P * (b1 + P * b2)) := by
  show 0 + a0 * b0 * P ^ 0 + (a0 * b1 + a1 * b0) * P ^ 1 + (a0 * b2 + a1 * b1 + a2 * b0) * P ^ 2 + (a1 * b2 + a2 * b1) * P ^ 3 + a2 * b2 * P ^ 4 = _
  rw [show P ^ 0 = 1 by simp, show P ^ 1 = P by simp, show P ^ 2 = P * P by rw [Nat.pow_succ, Nat.pow_one], show P ^ 3 = P * P * P by simp [Nat.pow_succ], show P ^ 4 = P * P * P * P by simp [Nat.pow_succ]]
  simp only [Nat.add_mul, Nat.mul_add]
  ac_nf
theorem addAt_far {w : World} {c b : Slc} {l : List Nat} {k at_ : Nat} (hc : Own .u64 tU64 w c (nn l) k) (ll : l.length ≤ 2 ^ 46) (hat : l.length ≤ at_) :
    Calls pr mul_addAt_id #[c.v, b.v, .int .i64 (at_ : Int)] w fun e w' => e = .returned (.tuple #[]) ∧ w' = w := by
  have hcn : c.n = l.length := by rw [hc.n, nn_length]
  refine mul_addAt_vc c b at_ w _ (fun t0 _ _ _ i w' => t0 = c ∧ i = (at_ : Int) ∧ w' = w) (fun _ _ _ _ _ _ => 0) ⟨rfl, rfl, rfl⟩ ?_
  rintro t0 t1 t2 t6 t7 w1 ⟨rfl, rfl, rfl⟩
  exact br_false (decide_eq_false (by omega)) ⟨rfl, rfl⟩
theorem run_idx5 {P : Program} {t : TypeId} (hT : arB P t = true) (w : World) (N : Nat → Bool) (S : Nat → Slc) {j : Nat} (hj : j < 5) : (Instr.index t (.agg (cf N S)) (.int .i64 (j : Int))).run P w = .ok (.agg #[.bool (N j), (S j).v]) w := by
  obtain ⟨e, i, f, hu, hi, hs, hf⟩ := arB_out hT
  have he : (cf N S).extract (j * 2) (j * 2 + 2) = #[.bool (N j), (S j).v] := by
    match j, hj with
    | 0, _ => rfl
    | 1, _ => rfl
    | 2, _ => rfl
    | 3, _ => rfl
    | 4, _ => rfl
  obtain ⟨cs, hcs⟩ : ∃ cs, cs = cf N S := ⟨_, rfl⟩
  rw [← hcs] at he ⊢
  simp only [Instr.index, asIntOf, underlying, program, Sem.run_bind, Sem.run, Result.andThen, hu, Sem.run_pure]
  simp [hj, show (0 : Int) ≤ (j : Int) by omega, show (j : Int) < 5 by omega, sizeOf, typeInfo, program, Sem.run, hi, hs, part, isAgg, underlying, hf, he]

end Mul
end Go.Proofs.Ytfdajpjiengihaa
namespace Go.Proofs.Ytfdajpjiengihaa
open Go Go.RowKit Eng Sp Dg L2
set_option linter.unusedVariables false
set_option linter.unusedSimpArgs false
set_option maxRecDepth 100000
namespace Mul
open _root_.Go.Proofs.Ytfdajpjiengihaa.Nat (ldN ldNf stN mkN Fill mkF stF stFf Num OwnNil OwnNil.rd OwnNil.mono OwnNil.ahead Norm_spec len_le Ret bigC bigC_ok Yes num_of)
open _root_.Go.Proofs.Ytfdajpjiengihaa.Ref (RN Lend_spec Of_spec Kept_spec own_list digs_own_len low_ahead)
open Sb

theorem val_td (l : List Nat) (k : Nat) : val B64 l = val B64 (l.take k) + B64 ^ k * val B64 (l.drop k) := by
  rcases Nat.le_total k l.length with h | h
  · exact val_take_drop l k h
  · rw [List.take_of_length_le h, List.drop_of_length_le h]; simp [val]
theorem id1 (a0 a1 a2 b0 b1 b2 : Int) : (a0 + a2 + a1) * (b0 + b2 + b1) = a0 * b0 + (a0 * b1 + a1 * b0) + (a0 * b2 + a1 * b1 + a2 * b0) + (a1 * b2 + a2 * b1) + a2 * b2 := by
  simp only [Int.add_mul, Int.mul_add]; omega
theorem id2 (a0 a1 a2 b0 b1 b2 : Int) : (a0 + a2 - a1) * (b0 + b2 - b1) = a0 * b0 - (a0 * b1 + a1 * b0) + (a0 * b2 + a1 * b1 + a2 * b0) - (a1 * b2 + a2 * b1) + a2 * b2 := by
  simp only [Int.add_mul, Int.mul_add, Int.sub_mul, Int.mul_sub]; omega
theorem id3 (a0 a1 a2 b0 b1 b2 : Int) : ((a0 + a2 - a1 + a2) + (a0 + a2 - a1 + a2) - a0) * ((b0 + b2 - b1 + b2) + (b0 + b2 - b1 + b2) - b0) = a0 * b0 - 2 * (a0 * b1 + a1 * b0) + 4 * (a0 * b2 + a1 * b1 + a2 * b0) - 8 * (a1 * b2 + a2 * b1) + 16 * (a2 * b2) := by
  simp only [Int.add_mul, Int.mul_add, Int.sub_mul, Int.mul_sub]; omega
theorem prod_le {a b P : Nat} (ha : a ≤ P) (hb : b ≤ P) : a * b ≤ P * P := Nat.mul_le_mul ha hb
theorem idx_wp {t : TypeId} {w : World} {N : Nat → Bool} {S : Nat → Slc} {j : Nat} (hj : j < 5) {K : Value → World → Prop} (hk : K (.agg #[.bool (N j), (S j).v]) w) (hT : arB pr t = true := by kernel_rfl) :
    Sem.wp pr (Instr.index t (.agg (cf N S)) (.int .i64 (j : Int))) K (fun _ _ => False) w := by
  rw [Sem.wp_iff_run, run_idx5 hT w N S hj]
  exact hk
theorem bar_upd {b bp : Nat} {w w' : World} (u : Upd b w w') (h : bp ≠ b) : Bar (fun q => q ≠ bp) w w' :=
  ⟨u.only.1, u.only.2.1, u.only.2.2.1, Nat.le_of_eq u.size.symm, fun k _ hk => u.only.2.2.2.2 k (fun e => hk (fun e2 => h (e2 ▸ e)))⟩

set_option maxHeartbeats 4000000 in
theorem thirds_spec : ∀ (n : Nat) (w : World) (a : Slc) (la : List Nat) (ha : Rd .u64 w a (nn la)) (oa : ok B64 la) (b : Slc) (lb : List Nat) (hb : Rd .u64 w b (nn lb)) (ob : ok B64 lb) (cut : Int) (hc0 : 9 ≤ cut) (hc1 : cut ≤ 9223372036854775807)
    (hsz : la.length + lb.length + 12 ≤ 2 ^ 44) (hn : la.length + lb.length ≤ n), Calls pr mul_thirds_id #[a.v, b.v, .int .i64 cut] w (Res w (val B64 la * val B64 lb) (la.length + lb.length + 3)) := by
  have hB := B64v
  intro n
  induction n using Nat.strongRecOn with
  | ind n ih =>
  intro w a la ha oa b lb hb ob cut hc0 hc1 hsz hn
  have dA := len_le oa
  have dC := len_le ob
  have kA := ok_digs two64 (val B64 la)
  have kC := ok_digs two64 (val B64 lb)
  have vA := val_digs two64 (val B64 la)
  have vC := val_digs two64 (val B64 lb)
  have nA := Norm_spec ha (by omega) oa
  have nC := fun (w1 : World) (h1 : Ahead w w1) => Norm_spec (hb.ahead h1) (by omega) ob
  generalize hXX : val B64 la = XX at *
  generalize hYY : val B64 lb = YY at *
  generalize digs B64 XX = A at *
  generalize digs B64 YY = C at *
  obtain ⟨k, hk⟩ : ∃ k, k = (max A.length C.length + 2) / 3 := ⟨_, rfl⟩
  have tA := val_td A k
  have tA2 := val_td (A.drop k) k
  have tC := val_td C k
  have tC2 := val_td (C.drop k) k
  rw [List.drop_drop, show k + k = 2 * k by omega] at tA2 tC2
  rw [tA2, vA] at tA
  rw [tC2, vC] at tC
  have lt1 : val B64 (A.take k) ≤ B64 ^ k := Nat.le_of_lt (Nat.lt_of_lt_of_le (val_lt (ok_take kA k)) (Nat.pow_le_pow_right (by omega) (by simp; omega)))
  have lt2 : val B64 ((A.drop k).take k) ≤ B64 ^ k := Nat.le_of_lt (Nat.lt_of_lt_of_le (val_lt (ok_take (ok_drop kA k) k)) (Nat.pow_le_pow_right (by omega) (by simp; omega)))
  have lt3 : val B64 (A.drop (2 * k)) ≤ B64 ^ k := Nat.le_of_lt (Nat.lt_of_lt_of_le (val_lt (ok_drop kA (2 * k))) (Nat.pow_le_pow_right (by omega) (by simp; omega)))
  have lt4 : val B64 (C.take k) ≤ B64 ^ k := Nat.le_of_lt (Nat.lt_of_lt_of_le (val_lt (ok_take kC k)) (Nat.pow_le_pow_right (by omega) (by simp; omega)))
  have lt5 : val B64 ((C.drop k).take k) ≤ B64 ^ k := Nat.le_of_lt (Nat.lt_of_lt_of_le (val_lt (ok_take (ok_drop kC k) k)) (Nat.pow_le_pow_right (by omega) (by simp; omega)))
  have lt6 : val B64 (C.drop (2 * k)) ≤ B64 ^ k := Nat.le_of_lt (Nat.lt_of_lt_of_le (val_lt (ok_drop kC (2 * k))) (Nat.pow_le_pow_right (by omega) (by simp; omega)))
  have ptA := fun (w1 : World) (s : Slc) (r : Rd .u64 w1 s (nn A)) => points_spec (k := k) r kA (by omega) (by omega)
  have ptC := fun (w1 : World) (s : Slc) (r : Rd .u64 w1 s (nn C)) => points_spec (k := k) r kC (by omega) (by omega)
  have hAlt := val_lt kA
  have hClt := val_lt kC
  rw [vA] at hAlt
  rw [vC] at hClt
  generalize val B64 (A.take k) = a0 at *
  generalize val B64 ((A.drop k).take k) = a1 at *
  generalize val B64 (A.drop (2 * k)) = a2 at *
  generalize val B64 (C.take k) = b0 at *
  generalize val B64 ((C.drop k).take k) = b1 at *
  generalize val B64 (C.drop (2 * k)) = b2 at *
  have hXY : XX * YY < B64 ^ (A.length + C.length + 3) := by
    have h3 : XX * YY < B64 ^ (A.length + C.length) := by rw [Nat.pow_add]; exact Nat.mul_lt_mul_of_lt_of_lt hAlt hClt
    exact Nat.lt_of_lt_of_le h3 (Nat.pow_le_pow_right (by omega) (by omega))
  have hall := ps_all a0 a1 a2 b0 b1 b2 (B64 ^ k)
  rw [← tA, ← tC] at hall
  have ek : IntKind.i64.wrap (Int.tdiv (IntKind.i64.wrap (((max A.length C.length : Nat) : Int) + 2)) 3) = (k : Int) := by
    rw [wrap_i64 (x := ((max A.length C.length : Nat) : Int) + 2) (by omega) (by omega), Int.tdiv_eq_ediv_of_nonneg (by omega), wrap_i64 (by omega) (by omega)]; omega
  have sch : ∀ (w1 : World) (s t : Slc), Ahead w w1 → Rd .u64 w1 s (nn A) → Rd .u64 w1 t (nn C) → Calls pr mul_school_id #[s.v, t.v] w1 fun e w2 => ∃ s1 : Slc, e = .returned s1.v ∧ Res w (XX * YY) (la.length + lb.length + 3) (.returned s1.v) w2 := by
    intro w1 s t h1 rs rt
    refine Calls.mono (school_spec rs rt kA kC (by omega)) ?_
    rintro e w2 ⟨h2, u, l, rfl, ho, hl, ol, hv⟩
    exact ⟨_, rfl, h1.trans h2, u, l, rfl, ho.mono h1.size, by omega, ol, by rw [hv, vA, vC]⟩
  refine mul_thirds_vc a b cut w _
    (fun t0 t1 t2 t7 t8 t9 t10 t50 w' => t0.n = A.length ∧ t1.n = C.length ∧ t2 = cut ∧ t7 = (k : Int) ∧ 9 ≤ A.length ∧ 9 ≤ C.length ∧ ∃ (bx by_ bp : Nat) (Nx : Nat → Bool) (Sx : Nat → Slc) (Ny : Nat → Bool) (Sy : Nat → Slc) (N : Nat → Bool) (S : Nat → Slc) (j : Nat),
      t8 = ⟨bx, 0, none⟩ ∧ t9 = ⟨by_, 0, none⟩ ∧ t10 = ⟨bp, 0, none⟩ ∧ t50 = (j : Int) ∧ j ≤ 5 ∧ Ahead w w' ∧ w.heap.size ≤ bp ∧ bx ≠ bp ∧ by_ ≠ bp ∧ Blk w' bx (cf Nx Sx) ∧ Blk w' by_ (cf Ny Sy) ∧ Blk w' bp (cf N S) ∧
      (∀ i, i < 5 → Sg w' (Nx i) (Sx i) (pv a0 a1 a2 i)) ∧ (∀ i, i < 5 → Sg w' (Ny i) (Sy i) (pv b0 b1 b2 i)) ∧ (∀ i, i < j → Sg w' (N i) (S i) (pv a0 a1 a2 i * pv b0 b1 b2 i)))
    (fun _ _ _ _ _ _ _ i _ => (5 - i).toNat)
    (fun t7 out n0 s0 n1 s1 n2 s2 n3 s3 n4 s4 i w' => t7 = (k : Int) ∧ ∃ (j bo : Nat) (l : List Nat), i = (j : Int) ∧ j ≤ 5 ∧ Ahead w w' ∧ w.heap.size ≤ bo ∧ out.c ≤ maxLen ∧ Own .u64 tU64 w' out (nn l) bo ∧ l.length = A.length + C.length + 3 ∧ ok B64 l ∧ val B64 l = ps (pr5 a0 a1 a2 b0 b1 b2) (B64 ^ k) j ∧
      ∀ i, i < 5 → Rd .u64 w' (sel5 s0 s1 s2 s3 s4 i) (nn (digs B64 (pr5 a0 a1 a2 b0 b1 b2 i))) ∧ Off bo (sel5 s0 s1 s2 s3 s4 i))
    (fun _ _ _ _ _ _ _ _ _ _ _ _ i _ => (5 - i).toNat)
    (fun t0 t1 t7 t10 t12 t13 w' => t0.n = A.length ∧ t1.n = C.length ∧ t7 = (k : Int) ∧ ∃ (bp b0_ b4_ : Nat) (N : Nat → Bool) (S : Nat → Slc), t10 = ⟨bp, 0, none⟩ ∧ t12 = ⟨b0_, 0, none⟩ ∧ t13 = ⟨b4_, 0, none⟩ ∧ Ahead w w' ∧ Blk w' bp (cf N S) ∧ Blk w' b0_ (c2 (N 0) (S 0)) ∧ Blk w' b4_ (c2 (N 4) (S 4)) ∧
      (∀ i, i < 5 → Sg w' (N i) (S i) (pv a0 a1 a2 i * pv b0 b1 b2 i))) ?_ ?_ ?_ ?_
  · -- the beginning
    refine Calls.mono nA ?_
    rintro e w1 ⟨h1, s, rfl, os⟩
    refine ⟨_, rfl, Calls.mono (nC w1 h1) ?_⟩
    rintro e w2 ⟨h2, t, rfl, ot⟩
    have h02 := h1.trans h2
    have hsn : s.n = A.length := by rw [os.rd.n, nn_length]
    have htn : t.n = C.length := by rw [ot.rd.n, nn_length]
    have rs := (os.ahead h2).rd
    have rt := ot.rd
    refine ⟨_, rfl, br_intro (fun hl => sch w2 s t h02 rs rt) (fun hl => br_intro (fun hl2 => sch w2 s t h02 rs rt) (fun hl2 => ?_))⟩
    have g1 := of_decide_eq_false hl
    have g2 := of_decide_eq_false hl2
    have em : maxI (s.n : Int) (t.n : Int) = ((max A.length C.length : Nat) : Int) := by unfold maxI; split <;> omega
    rw [em, ek]
    refine Calls.mono (ptA w2 s rs) ?_
    rintro e w5 ⟨h5, n0, s0, n1, s1, n2, s2, n3, s3, n4, s4, rfl, x0, x1, x2, x3, x4⟩
    refine ⟨_, _, _, _, _, _, _, _, _, _, rfl, Calls.mono (ptC w5 t (rt.ahead h5)) ?_⟩
    rintro e w6 ⟨h6, m0, t0, m1, t1, m2, t2, m3, t3, m4, t4, rfl, y0, y1, y2, y3, y4⟩
    refine ⟨_, _, _, _, _, _, _, _, _, _, rfl, newC_b fun bx w7 hbx h7 hs7 BX => newC_b fun by_ w8 hby h8 hs8 BY => ?_⟩
    have lx := BX.lt
    refine set10 (N := fun _ => false) (S := fun _ => ⟨none, 0, 0⟩) (BX.ahead h8) fun w18 u18 BX2 => ?_
    refine set10 (N := fun _ => false) (S := fun _ => ⟨none, 0, 0⟩) (u18.blk BY (by omega)) fun w28 u28 BY2 => ?_
    have ly := BY2.lt
    have lx2 := BX2.lt
    have e28 := u28.size
    refine newC_b fun bp w29 hbp h29 hs29 BP => ?_
    have h06 := (h02.trans h5).trans h6
    have h08 := (h06.trans h7).trans h8
    have q6 := h06.size
    have q7 := h7.size
    have A18 := u18.ahead h08 (by omega)
    have A28 := u28.ahead A18 (by omega)
    have q28 := A28.size
    have tr : ∀ {n : Bool} {s : Slc} {z : Int}, Sg w6 n s z → Sg w29 n s z := fun h => ((((h.ahead h7).ahead h8).upd u18).upd u28).ahead h29
    refine ⟨hsn, htn, rfl, rfl, by omega, by omega, bx, by_, bp, _, _, _, _, fun _ => false, fun _ => ⟨none, 0, 0⟩, 0, rfl, rfl, rfl, rfl, by omega, A28.trans h29, by omega, by omega, by omega, (u28.blk BX2 (by omega)).ahead h29, BY2.ahead h29, BP, ?_, ?_, fun i hi => absurd hi (by omega)⟩
    · intro i hi
      match i, hi with
      | 0, _ => exact tr (x0.ahead h6)
      | 1, _ => exact tr (x1.ahead h6)
      | 2, _ => exact tr (x2.ahead h6)
      | 3, _ => exact tr (x3.ahead h6)
      | 4, _ => exact tr (x4.ahead h6)
    · intro i hi
      match i, hi with
      | 0, _ => exact tr y0
      | 1, _ => exact tr y1
      | 2, _ => exact tr y2
      | 3, _ => exact tr y3
      | 4, _ => exact tr y4
  · -- the five products
    rintro t0 t1 t2 _ _ _ _ _ w1 ⟨e0, e1, hcut, rfl, n9, m9, bx, by_, bp, Nx, Sx, Ny, Sy, N, S, j, rfl, rfl, rfl, rfl, hj, h01, hbp, nx, ny, BX, BY, BP, gx, gy, gp⟩
    have hcut' := hcut.symm
    subst hcut'
    have ad := Ahead.drew w1
    refine br_intro (fun hlt => ?_) (fun hge => ?_)
    · have hj' : j < 5 := by have := of_decide_eq_true hlt; omega
      have dl : ∀ z : Int, z.natAbs ≤ 7 * B64 ^ k → (digs B64 z.natAbs).length ≤ k + 1 := fun z hz => digs_length_le two64 (by
        rw [Nat.pow_succ]
        have hp : 0 < B64 ^ k := Nat.pow_pos (by omega)
        have : 7 * B64 ^ k < B64 ^ k * B64 := by rw [Nat.mul_comm 7]; exact Nat.mul_lt_mul_of_pos_left (by omega) hp
        omega)
      have d1 := dl _ (pv_le lt1 lt2 lt3 j)
      have d2 := dl _ (pv_le lt4 lt5 lt6 j)
      refine arr_fix hj' (getB5 (BX.ahead ad) hj' (arr_fix hj' (getB5 (BY.ahead ad) hj' (arr_fix hj' (getS5 (BX.ahead ad) hj' (arr_fix hj' (getS5 (BY.ahead ad) hj' ?_)))))))
      refine Calls.mono (ih (2 * k + 2) (by omega) w1.drew (Sx j) _ ((gx j hj').ahead ad).rd (ok_digs two64 _) (Sy j) _ ((gy j hj').ahead ad).rd (ok_digs two64 _) cut hc0 hc1 (by omega) (by omega)) ?_
      rintro e w2 ⟨h2, s, L, rfl, os, ns, ks, vs⟩
      refine ⟨_, rfl, h2, Calls.mono (Norm_spec os.rd (by omega) ks) ?_⟩
      rw [vs, val_digs two64, val_digs two64]
      rintro e w3 ⟨h3, u, rfl, ou⟩
      have h13 := (ad.trans h2).trans h3
      refine ⟨_, rfl, h3, arr_fix hj' (set5 (BP.ahead h13) hj' fun w4 u4 Q4 => ?_)⟩
      rw [wrap_i64 (by omega) (by omega)]
      refine ⟨⟨e0, e1, rfl, rfl, n9, m9, bx, by_, bp, Nx, Sx, Ny, Sy, _, _, j + 1, rfl, rfl, rfl, rfl, hj', u4.ahead (h01.trans h13) hbp, hbp, nx, ny, u4.blk (BX.ahead h13) nx, u4.blk (BY.ahead h13) ny, Q4, fun i hi => ((gx i hi).ahead h13).upd u4, fun i hi => ((gy i hi).ahead h13).upd u4, fun i hi => ?_⟩, by omega⟩
      show Sg w4 (if i = j then _ else _) (if i = j then _ else _) _
      by_cases h : i = j
      · subst h
        rw [if_pos rfl, if_pos rfl]
        exact Sg.of (u4.rd _ _ ou.rd) (by rw [sv_mul, (gx i hj').eq, (gy i hj').eq])
      · rw [if_neg h, if_neg h]
        exact ((gp i (by omega)).ahead h13).upd u4
    · have hj' : j = 5 := by have := of_decide_eq_false hge; omega
      subst hj'
      have BPd := BP.ahead ad
      have lp := BPd.lt
      refine ⟨fun _ q => q ≠ bp, arr_any (j := 0) (by omega) ⟨fun h => h rfl, get5 BPd (by omega) (arr_any (j := 4) (by omega) ⟨fun h => h rfl, get5 BPd (by omega) ⟨?_, ?_⟩⟩)⟩⟩
      · refine newC_b fun c1 w2 hc1 h2 hs2 B1 => ⟨Bar.of_ahead h2, Bar.of_ahead h2, newC_b fun c2_ w3 hc2 h3 hs3 B2 => ⟨Bar.of_ahead h3, Bar.of_ahead h3, ?_⟩⟩
        have s2 := h2.size
        have s3 := h3.size
        have s0 := (h01.trans ad).size
        refine set2 (x0 := false) (s0 := ⟨none, 0, 0⟩) (B1.ahead h3) fun w4 u4 C1 => ⟨bar_upd u4 (by omega), set2 (x0 := false) (s0 := ⟨none, 0, 0⟩) (u4.blk B2 (by omega)) fun w5 u5 C2 => ?_⟩
        have h13 := (ad.trans h2).trans h3
        have A5 := u5.ahead (u4.ahead (h01.trans h13) (by omega)) (by omega)
        exact ⟨e0, e1, rfl, bp, c1, c2_, N, S, rfl, rfl, rfl, A5, u5.blk (u4.blk (BP.ahead h13) (by omega)) (by omega), u5.blk C1 (by omega), C2, fun i hi => (((gp i hi).ahead h13).upd u4).upd u5⟩
      · refine newC_b fun c1 w2 hc1 h2 hs2 B1 => ⟨Bar.of_ahead h2, Bar.of_ahead h2, newC_b fun c2_ w3 hc2 h3 hs3 B2 => ⟨Bar.of_ahead h3, Bar.of_ahead h3, ?_⟩⟩
        have s2 := h2.size
        have s3 := h3.size
        have s0 := (h01.trans ad).size
        refine set2 (x0 := false) (s0 := ⟨none, 0, 0⟩) B2 fun w4 u4 C1 => ⟨bar_upd u4 (by omega), set2 (x0 := false) (s0 := ⟨none, 0, 0⟩) (u4.blk (B1.ahead h3) (by omega)) fun w5 u5 C2 => ?_⟩
        have h13 := (ad.trans h2).trans h3
        have A5 := u5.ahead (u4.ahead (h01.trans h13) (by omega)) (by omega)
        exact ⟨e0, e1, rfl, bp, c2_, c1, N, S, rfl, rfl, rfl, A5, u5.blk (u4.blk (BP.ahead h13) (by omega)) (by omega), u5.blk C1 (by omega), C2, fun i hi => (((gp i hi).ahead h13).upd u4).upd u5⟩
  · -- the sum
    rintro _ out n0 s0 n1 s1 n2 s2 n3 s3 n4 s4 _ w1 ⟨rfl, j, bo, l, rfl, hj, h01, hbo, hoc, oo, hl, ol, hv, hr⟩
    refine br_intro (fun hlt => ?_) (fun hge => ?_)
    · have hj' : j < 5 := by have := of_decide_eq_true hlt; omega
      refine idx_wp (N := sel5 n0 n1 n2 n3 n4) (S := sel5 s0 s1 s2 s3 s4) hj' ⟨_, _, rfl, ?_⟩
      obtain ⟨rj, fj⟩ := hr j hj'
      refine newC_b fun c w2 hc h2 hs2 B => ?_
      have lo := oo.lt
      refine set2 (x0 := false) (s0 := ⟨none, 0, 0⟩) B fun w4 u4 B4 => ldS_b 1 B4 rfl ?_
      have o4 : Own .u64 tU64 w4 out (nn l) bo := u4.only.own (oo.ahead h2) (by omega)
      have A4 : Ahead w w4 := u4.ahead (h01.trans h2) (by have := h01.size; omega)
      have r4 : ∀ i, i < 5 → Rd .u64 w4 (sel5 s0 s1 s2 s3 s4 i) (nn (digs B64 (pr5 a0 a1 a2 b0 b1 b2 i))) := fun i hi => u4.rd _ _ ((hr i hi).1.ahead h2)
      have e1 : IntKind.i64.wrap ((j : Int) * (k : Int)) = ((j * k : Nat) : Int) := by
        have : j * k ≤ 5 * k := Nat.mul_le_mul_right _ hj
        rw [← Int.natCast_mul, wrap_i64 (by omega) (by omega)]
      have e2 : IntKind.i64.wrap ((j : Int) + 1) = ((j + 1 : Nat) : Int) := by rw [wrap_i64 (by omega) (by omega)]; omega
      rw [e1, e2]
      have hpj : (B64 ^ k) ^ j = B64 ^ (j * k) := by rw [← Nat.pow_mul, Nat.mul_comm]
      have hstep : ps (pr5 a0 a1 a2 b0 b1 b2) (B64 ^ k) (j + 1) = val B64 l + pr5 a0 a1 a2 b0 b1 b2 j * B64 ^ (j * k) := by rw [hv, ← hpj]; rfl
      have hle : ps (pr5 a0 a1 a2 b0 b1 b2) (B64 ^ k) (j + 1) ≤ XX * YY := by rw [← hall]; exact ps_mono _ _ hj'
      have hfit : val B64 l + pr5 a0 a1 a2 b0 b1 b2 j * B64 ^ (j * k) < B64 ^ l.length := by rw [← hstep, hl]; omega
      rcases Nat.lt_or_ge l.length (j * k) with hfar | hnear
      · have h0 : pr5 a0 a1 a2 b0 b1 b2 j = 0 := by
          rcases Nat.eq_zero_or_pos (pr5 a0 a1 a2 b0 b1 b2 j) with h | h
          · exact h
          · have q1 : B64 ^ l.length ≤ B64 ^ (j * k) := Nat.pow_le_pow_right (by omega) (by omega)
            have q2 : B64 ^ (j * k) ≤ pr5 a0 a1 a2 b0 b1 b2 j * B64 ^ (j * k) := Nat.le_mul_of_pos_left _ h
            omega
        refine Calls.mono (addAt_far o4 (by omega) (by omega)) ?_
        rintro e w5 ⟨rfl, rfl⟩
        refine ⟨rfl, ⟨rfl, j + 1, bo, l, rfl, hj', A4, hbo, hoc, o4, hl, ol, ?_, fun i hi => ⟨r4 i hi, (hr i hi).2⟩⟩, by omega⟩
        rw [hstep, h0, Nat.zero_mul, Nat.add_zero]
      · have hlen : (digs B64 (pr5 a0 a1 a2 b0 b1 b2 j)).length ≤ 2 ^ 46 := by
          refine Nat.le_trans (digs_length_le two64 (m := l.length) ?_) (by omega)
          refine Nat.lt_of_le_of_lt ?_ hfit
          have : 0 < B64 ^ (j * k) := Nat.pow_pos (by omega)
          exact Nat.le_trans (Nat.le_mul_of_pos_right _ this) (Nat.le_add_left _ _)
        refine Calls.mono (addAt_spec (at_ := j * k) o4 (r4 j hj') fj ol (ok_digs two64 _) (by omega) hlen hnear (by rw [val_digs two64]; exact hfit)) ?_
        rintro e w5 ⟨rfl, on, l5, o5, n5, k5, v5⟩
        rw [val_digs two64] at v5
        refine ⟨rfl, ⟨rfl, j + 1, bo, l5, rfl, hj', on.ahead A4 hbo, hbo, hoc, o5, by omega, k5, by rw [v5, hstep], fun i hi => ⟨on.rd (r4 i hi) (hr i hi).2, (hr i hi).2⟩⟩, by omega⟩
    · have hj' : j = 5 := by have := of_decide_eq_false hge; omega
      subst hj'
      exact ⟨h01, out, l, rfl, .inr ⟨bo, hbo, hoc, oo⟩, by omega, ol, by rw [hv, hall]⟩
  · -- from the five values to the parts
    rintro t0 t1 _ _ _ _ w0 ⟨e0, e1, rfl, bp, c0, c4, N, S, rfl, rfl, rfl, A0, BP, B0, B4, gp⟩
    have G0 := gp 0 (by omega)
    have G1 := gp 1 (by omega)
    have G2 := gp 2 (by omega)
    have G3 := gp 3 (by omega)
    have G4 := gp 4 (by omega)
    clear gp
    have i1 := id1 a0 a1 a2 b0 b1 b2
    have i2 := id2 a0 a1 a2 b0 b1 b2
    have i3 := id3 a0 a1 a2 b0 b1 b2
    have f0 : pv a0 a1 a2 0 * pv b0 b1 b2 0 = (a0 : Int) * b0 := rfl
    have f1 : pv a0 a1 a2 1 * pv b0 b1 b2 1 = _ := i1
    have f2 : pv a0 a1 a2 2 * pv b0 b1 b2 2 = _ := i2
    have f3 : pv a0 a1 a2 3 * pv b0 b1 b2 3 = _ := i3
    have f4 : pv a0 a1 a2 4 * pv b0 b1 b2 4 = (a2 : Int) * b2 := rfl
    rw [f0] at G0
    rw [f1] at G1
    rw [f2] at G2
    rw [f3] at G3
    rw [f4] at G4
    clear f0 f1 f2 f3 f4 i1 i2 i3
    have z0 : pr5 a0 a1 a2 b0 b1 b2 0 = a0 * b0 := rfl
    have z1 : pr5 a0 a1 a2 b0 b1 b2 1 = a0 * b1 + a1 * b0 := rfl
    have z2 : pr5 a0 a1 a2 b0 b1 b2 2 = a0 * b2 + a1 * b1 + a2 * b0 := rfl
    have z3 : pr5 a0 a1 a2 b0 b1 b2 3 = a1 * b2 + a2 * b1 := rfl
    have z4 : pr5 a0 a1 a2 b0 b1 b2 4 = a2 * b2 := rfl
    have y0 : ((a0 : Int) * b0) = ((a0 * b0 : Nat) : Int) := by push_cast; rfl
    have y1 : ((a0 : Int) * b1 + a1 * b0) = ((a0 * b1 + a1 * b0 : Nat) : Int) := by push_cast; rfl
    have y2 : ((a0 : Int) * b2 + a1 * b1 + a2 * b0) = ((a0 * b2 + a1 * b1 + a2 * b0 : Nat) : Int) := by push_cast; rfl
    have y3 : ((a1 : Int) * b2 + a2 * b1) = ((a1 * b2 + a2 * b1 : Nat) : Int) := by push_cast; rfl
    have y4 : ((a2 : Int) * b2) = ((a2 * b2 : Nat) : Int) := by push_cast; rfl
    rw [y0] at G0
    rw [y0, y1, y2, y3, y4] at G1 G2 G3
    rw [y4] at G4
    have m0 : a0 * b0 ≤ B64 ^ (2 * k) := by rw [Nat.two_mul, Nat.pow_add]; exact prod_le lt1 lt4
    have m1 : a0 * b1 + a1 * b0 ≤ 2 * B64 ^ (2 * k) := by rw [Nat.two_mul k, Nat.pow_add]; have := prod_le lt1 lt5; have := prod_le lt2 lt4; omega
    have m2 : a0 * b2 + a1 * b1 + a2 * b0 ≤ 3 * B64 ^ (2 * k) := by rw [Nat.two_mul k, Nat.pow_add]; have := prod_le lt1 lt6; have := prod_le lt2 lt5; have := prod_le lt3 lt4; omega
    have m3 : a1 * b2 + a2 * b1 ≤ 2 * B64 ^ (2 * k) := by rw [Nat.two_mul k, Nat.pow_add]; have := prod_le lt2 lt6; have := prod_le lt3 lt5; omega
    have m4 : a2 * b2 ≤ B64 ^ (2 * k) := by rw [Nat.two_mul, Nat.pow_add]; exact prod_le lt3 lt6
    have sz : ∀ z : Int, z.natAbs ≤ 100 * B64 ^ (2 * k) → szZ z := fun z hz => sz_small hz (by omega)
    rw [← z0] at G0
    rw [← z0, ← z1, ← z2, ← z3, ← z4] at G1 G2 G3
    rw [← z4] at G4
    rw [← z0] at m0
    rw [← z1] at m1
    rw [← z2] at m2
    rw [← z3] at m3
    rw [← z4] at m4
    clear z0 z1 z2 z3 z4 y0 y1 y2 y3 y4
    generalize B64 ^ (2 * k) = Q at m0 m1 m2 m3 m4 sz
    clear hall tA tC tA2 tC2 lt1 lt2 lt3 lt4 lt5 lt6 hXY hAlt hClt ptA ptC nA nC ih sch
    generalize hP : pr5 a0 a1 a2 b0 b1 b2 = R at *
    refine arr_sem (j := 3) (by omega) (get5 BP (by omega) (arr_sem (j := 1) (by omega) (get5 BP (by omega) ?_)))
    refine Calls.mono (minus_spec G3 G1 (sz _ (by omega)) (sz _ (by omega))) ?_
    rintro e v1 ⟨h1, n_D1, s_D1, rfl, D1⟩
    replace G0 := G0.ahead h1
    replace G1 := G1.ahead h1
    replace G2 := G2.ahead h1
    replace G3 := G3.ahead h1
    replace G4 := G4.ahead h1
    replace BP := BP.ahead h1
    replace B0 := B0.ahead h1
    replace B4 := B4.ahead h1
    replace A0 := A0.trans h1
    refine ⟨_, _, rfl, ?_⟩
    have q1 : (R 0 : Int) - 2 * (R 1 : Int) + 4 * (R 2 : Int) - 8 * (R 3 : Int) + 16 * (R 4 : Int) - ((R 0 : Int) + (R 1 : Int) + (R 2 : Int) + (R 3 : Int) + (R 4 : Int)) = 3 * (-(R 1 : Int) + (R 2 : Int) - 3 * (R 3 : Int) + 5 * (R 4 : Int)) := by omega
    rw [q1] at D1
    refine Calls.mono (third_spec D1 (sz _ (by omega))) ?_
    rintro e v2 ⟨h2, n_E3, s_E3, rfl, E3⟩
    replace G0 := G0.ahead h2
    replace G1 := G1.ahead h2
    replace G2 := G2.ahead h2
    replace G3 := G3.ahead h2
    replace G4 := G4.ahead h2
    replace D1 := D1.ahead h2
    replace BP := BP.ahead h2
    replace B0 := B0.ahead h2
    replace B4 := B4.ahead h2
    replace A0 := A0.trans h2
    refine ⟨_, _, rfl, ?_⟩
    refine newC_b fun c3_ v3 hb3 h3 hs3 B3 => ?_
    have ne_c3__bp : bp < c3_ := by have := BP.lt; omega
    have ne_c3__c0 : c0 < c3_ := by have := B0.lt; omega
    have ne_c3__c4 : c4 < c3_ := by have := B4.lt; omega
    have ge_c3_ : w.heap.size ≤ c3_ := by have := A0.size; omega
    replace G0 := G0.ahead h3
    replace G1 := G1.ahead h3
    replace G2 := G2.ahead h3
    replace G3 := G3.ahead h3
    replace G4 := G4.ahead h3
    replace D1 := D1.ahead h3
    replace E3 := E3.ahead h3
    replace BP := BP.ahead h3
    replace B0 := B0.ahead h3
    replace B4 := B4.ahead h3
    replace A0 := A0.trans h3
    refine set2 (x0 := false) (s0 := ⟨none, 0, 0⟩) B3 fun v4 u4 B3_ => ?_
    replace B3 := B3_
    clear B3_
    replace BP := u4.blk BP (by omega)
    replace B0 := u4.blk B0 (by omega)
    replace B4 := u4.blk B4 (by omega)
    replace G0 := G0.upd u4
    replace G1 := G1.upd u4
    replace G2 := G2.upd u4
    replace G3 := G3.upd u4
    replace G4 := G4.upd u4
    replace D1 := D1.upd u4
    replace E3 := E3.upd u4
    replace A0 := u4.ahead A0 ge_c3_
    refine arr_sem (j := 1) (by omega) (get5 BP (by omega) (arr_sem (j := 2) (by omega) (get5 BP (by omega) ?_)))
    refine Calls.mono (minus_spec G1 G2 (sz _ (by omega)) (sz _ (by omega))) ?_
    rintro e v5 ⟨h5, n_D2, s_D2, rfl, D2⟩
    replace G0 := G0.ahead h5
    replace G1 := G1.ahead h5
    replace G2 := G2.ahead h5
    replace G3 := G3.ahead h5
    replace G4 := G4.ahead h5
    replace D1 := D1.ahead h5
    replace E3 := E3.ahead h5
    replace BP := BP.ahead h5
    replace B0 := B0.ahead h5
    replace B4 := B4.ahead h5
    replace B3 := B3.ahead h5
    replace A0 := A0.trans h5
    refine ⟨_, _, rfl, ?_⟩
    have q2 : (R 0 : Int) + (R 1 : Int) + (R 2 : Int) + (R 3 : Int) + (R 4 : Int) - ((R 0 : Int) - (R 1 : Int) + (R 2 : Int) - (R 3 : Int) + (R 4 : Int)) = 2 * ((R 1 : Int) + (R 3 : Int)) := by omega
    rw [q2] at D2
    refine Calls.mono (half_spec D2 (sz _ (by omega))) ?_
    rintro e v6 ⟨h6, n_E1, s_E1, rfl, E1⟩
    replace G0 := G0.ahead h6
    replace G1 := G1.ahead h6
    replace G2 := G2.ahead h6
    replace G3 := G3.ahead h6
    replace G4 := G4.ahead h6
    replace D1 := D1.ahead h6
    replace E3 := E3.ahead h6
    replace D2 := D2.ahead h6
    replace BP := BP.ahead h6
    replace B0 := B0.ahead h6
    replace B4 := B4.ahead h6
    replace B3 := B3.ahead h6
    replace A0 := A0.trans h6
    refine ⟨_, _, rfl, ?_⟩
    refine newC_b fun c1_ v7 hb7 h7 hs7 B1 => ?_
    have ne_c1__bp : bp < c1_ := by have := BP.lt; omega
    have ne_c1__c0 : c0 < c1_ := by have := B0.lt; omega
    have ne_c1__c4 : c4 < c1_ := by have := B4.lt; omega
    have ne_c1__c3_ : c3_ < c1_ := by have := B3.lt; omega
    have ge_c1_ : w.heap.size ≤ c1_ := by have := A0.size; omega
    replace G0 := G0.ahead h7
    replace G1 := G1.ahead h7
    replace G2 := G2.ahead h7
    replace G3 := G3.ahead h7
    replace G4 := G4.ahead h7
    replace D1 := D1.ahead h7
    replace E3 := E3.ahead h7
    replace D2 := D2.ahead h7
    replace E1 := E1.ahead h7
    replace BP := BP.ahead h7
    replace B0 := B0.ahead h7
    replace B4 := B4.ahead h7
    replace B3 := B3.ahead h7
    replace A0 := A0.trans h7
    refine set2 (x0 := false) (s0 := ⟨none, 0, 0⟩) B1 fun v8 u8 B1_ => ?_
    replace B1 := B1_
    clear B1_
    replace BP := u8.blk BP (by omega)
    replace B0 := u8.blk B0 (by omega)
    replace B4 := u8.blk B4 (by omega)
    replace B3 := u8.blk B3 (by omega)
    replace G0 := G0.upd u8
    replace G1 := G1.upd u8
    replace G2 := G2.upd u8
    replace G3 := G3.upd u8
    replace G4 := G4.upd u8
    replace D1 := D1.upd u8
    replace E3 := E3.upd u8
    replace D2 := D2.upd u8
    replace E1 := E1.upd u8
    replace A0 := u8.ahead A0 ge_c1_
    refine arr_sem (j := 2) (by omega) (get5 BP (by omega) (arr_sem (j := 0) (by omega) (get5 BP (by omega) ?_)))
    refine Calls.mono (minus_spec G2 G0 (sz _ (by omega)) (sz _ (by omega))) ?_
    rintro e v9 ⟨h9, n_E2, s_E2, rfl, E2⟩
    replace G0 := G0.ahead h9
    replace G1 := G1.ahead h9
    replace G2 := G2.ahead h9
    replace G3 := G3.ahead h9
    replace G4 := G4.ahead h9
    replace D1 := D1.ahead h9
    replace E3 := E3.ahead h9
    replace D2 := D2.ahead h9
    replace E1 := E1.ahead h9
    replace BP := BP.ahead h9
    replace B0 := B0.ahead h9
    replace B4 := B4.ahead h9
    replace B3 := B3.ahead h9
    replace B1 := B1.ahead h9
    replace A0 := A0.trans h9
    refine ⟨_, _, rfl, ?_⟩
    refine newC_b fun c2_ v10 hb10 h10 hs10 B2 => ?_
    have ne_c2__bp : bp < c2_ := by have := BP.lt; omega
    have ne_c2__c0 : c0 < c2_ := by have := B0.lt; omega
    have ne_c2__c4 : c4 < c2_ := by have := B4.lt; omega
    have ne_c2__c3_ : c3_ < c2_ := by have := B3.lt; omega
    have ne_c2__c1_ : c1_ < c2_ := by have := B1.lt; omega
    have ge_c2_ : w.heap.size ≤ c2_ := by have := A0.size; omega
    replace G0 := G0.ahead h10
    replace G1 := G1.ahead h10
    replace G2 := G2.ahead h10
    replace G3 := G3.ahead h10
    replace G4 := G4.ahead h10
    replace D1 := D1.ahead h10
    replace E3 := E3.ahead h10
    replace D2 := D2.ahead h10
    replace E1 := E1.ahead h10
    replace E2 := E2.ahead h10
    replace BP := BP.ahead h10
    replace B0 := B0.ahead h10
    replace B4 := B4.ahead h10
    replace B3 := B3.ahead h10
    replace B1 := B1.ahead h10
    replace A0 := A0.trans h10
    refine set2 (x0 := false) (s0 := ⟨none, 0, 0⟩) B2 fun v11 u11 B2_ => ?_
    replace B2 := B2_
    clear B2_
    replace BP := u11.blk BP (by omega)
    replace B0 := u11.blk B0 (by omega)
    replace B4 := u11.blk B4 (by omega)
    replace B3 := u11.blk B3 (by omega)
    replace B1 := u11.blk B1 (by omega)
    replace G0 := G0.upd u11
    replace G1 := G1.upd u11
    replace G2 := G2.upd u11
    replace G3 := G3.upd u11
    replace G4 := G4.upd u11
    replace D1 := D1.upd u11
    replace E3 := E3.upd u11
    replace D2 := D2.upd u11
    replace E1 := E1.upd u11
    replace E2 := E2.upd u11
    replace A0 := u11.ahead A0 ge_c2_
    have h12 := Ahead.drew v11
    replace G0 := G0.ahead h12
    replace G1 := G1.ahead h12
    replace G2 := G2.ahead h12
    replace G3 := G3.ahead h12
    replace G4 := G4.ahead h12
    replace D1 := D1.ahead h12
    replace E3 := E3.ahead h12
    replace D2 := D2.ahead h12
    replace E1 := E1.ahead h12
    replace E2 := E2.ahead h12
    replace BP := BP.ahead h12
    replace B0 := B0.ahead h12
    replace B4 := B4.ahead h12
    replace B3 := B3.ahead h12
    replace B1 := B1.ahead h12
    replace B2 := B2.ahead h12
    replace A0 := A0.trans h12
    refine get2 B2 rfl rfl (get2 B3 rfl rfl (get2 B4 rfl rfl ?_))
    refine Calls.mono (minus_spec E2 E3 (sz _ (by omega)) (sz _ (by omega))) ?_
    rintro e v13 ⟨h13, n_D3, s_D3, rfl, D3⟩
    replace G0 := G0.ahead h13
    replace G1 := G1.ahead h13
    replace G2 := G2.ahead h13
    replace G3 := G3.ahead h13
    replace G4 := G4.ahead h13
    replace D1 := D1.ahead h13
    replace E3 := E3.ahead h13
    replace D2 := D2.ahead h13
    replace E1 := E1.ahead h13
    replace E2 := E2.ahead h13
    replace BP := BP.ahead h13
    replace B0 := B0.ahead h13
    replace B4 := B4.ahead h13
    replace B3 := B3.ahead h13
    replace B1 := B1.ahead h13
    replace B2 := B2.ahead h13
    replace A0 := A0.trans h13
    refine ⟨_, _, rfl, h13, ?_⟩
    have q3 : (R 0 : Int) - (R 1 : Int) + (R 2 : Int) - (R 3 : Int) + (R 4 : Int) - (R 0 : Int) - (-(R 1 : Int) + (R 2 : Int) - 3 * (R 3 : Int) + 5 * (R 4 : Int)) = 2 * ((R 3 : Int) - 2 * (R 4 : Int)) := by omega
    rw [q3] at D3
    refine Calls.mono (half_spec D3 (sz _ (by omega))) ?_
    rintro e v14 ⟨h14, n_D4, s_D4, rfl, D4⟩
    replace G0 := G0.ahead h14
    replace G1 := G1.ahead h14
    replace G2 := G2.ahead h14
    replace G3 := G3.ahead h14
    replace G4 := G4.ahead h14
    replace D1 := D1.ahead h14
    replace E3 := E3.ahead h14
    replace D2 := D2.ahead h14
    replace E1 := E1.ahead h14
    replace E2 := E2.ahead h14
    replace D3 := D3.ahead h14
    replace BP := BP.ahead h14
    replace B0 := B0.ahead h14
    replace B4 := B4.ahead h14
    replace B3 := B3.ahead h14
    replace B1 := B1.ahead h14
    replace B2 := B2.ahead h14
    replace A0 := A0.trans h14
    refine ⟨_, _, rfl, h14, ?_⟩
    refine Calls.mono (double_spec G4 (sz _ (by omega))) ?_
    rintro e v15 ⟨h15, n_D5, s_D5, rfl, D5⟩
    replace G0 := G0.ahead h15
    replace G1 := G1.ahead h15
    replace G2 := G2.ahead h15
    replace G3 := G3.ahead h15
    replace G4 := G4.ahead h15
    replace D1 := D1.ahead h15
    replace E3 := E3.ahead h15
    replace D2 := D2.ahead h15
    replace E1 := E1.ahead h15
    replace E2 := E2.ahead h15
    replace D3 := D3.ahead h15
    replace D4 := D4.ahead h15
    replace BP := BP.ahead h15
    replace B0 := B0.ahead h15
    replace B4 := B4.ahead h15
    replace B3 := B3.ahead h15
    replace B1 := B1.ahead h15
    replace B2 := B2.ahead h15
    replace A0 := A0.trans h15
    refine ⟨_, _, rfl, h15, ?_⟩
    refine Calls.mono (plus_spec D4 D5 (sz _ (by omega)) (sz _ (by omega))) ?_
    rintro e v16 ⟨h16, n_F3, s_F3, rfl, F3⟩
    replace G0 := G0.ahead h16
    replace G1 := G1.ahead h16
    replace G2 := G2.ahead h16
    replace G3 := G3.ahead h16
    replace G4 := G4.ahead h16
    replace D1 := D1.ahead h16
    replace E3 := E3.ahead h16
    replace D2 := D2.ahead h16
    replace E1 := E1.ahead h16
    replace E2 := E2.ahead h16
    replace D3 := D3.ahead h16
    replace D4 := D4.ahead h16
    replace D5 := D5.ahead h16
    replace BP := BP.ahead h16
    replace B0 := B0.ahead h16
    replace B4 := B4.ahead h16
    replace B3 := B3.ahead h16
    replace B1 := B1.ahead h16
    replace B2 := B2.ahead h16
    replace A0 := A0.trans h16
    refine ⟨_, _, rfl, h16, ?_⟩
    rw [show (R 3 : Int) - 2 * (R 4 : Int) + ((R 4 : Int) + (R 4 : Int)) = (R 3 : Int) by omega] at F3
    refine set2 (x0 := n_E3) (s0 := s_E3) B3 fun v17 u17 B3_ => ?_
    replace B3 := B3_
    clear B3_
    replace BP := u17.blk BP (by omega)
    replace B0 := u17.blk B0 (by omega)
    replace B4 := u17.blk B4 (by omega)
    replace B1 := u17.blk B1 (by omega)
    replace B2 := u17.blk B2 (by omega)
    replace G0 := G0.upd u17
    replace G1 := G1.upd u17
    replace G2 := G2.upd u17
    replace G3 := G3.upd u17
    replace G4 := G4.upd u17
    replace D1 := D1.upd u17
    replace E3 := E3.upd u17
    replace D2 := D2.upd u17
    replace E1 := E1.upd u17
    replace E2 := E2.upd u17
    replace D3 := D3.upd u17
    replace D4 := D4.upd u17
    replace D5 := D5.upd u17
    replace F3 := F3.upd u17
    replace A0 := u17.ahead A0 ge_c3_
    have h18 := Ahead.drew v17
    replace G0 := G0.ahead h18
    replace G1 := G1.ahead h18
    replace G2 := G2.ahead h18
    replace G3 := G3.ahead h18
    replace G4 := G4.ahead h18
    replace D1 := D1.ahead h18
    replace E3 := E3.ahead h18
    replace D2 := D2.ahead h18
    replace E1 := E1.ahead h18
    replace E2 := E2.ahead h18
    replace D3 := D3.ahead h18
    replace D4 := D4.ahead h18
    replace D5 := D5.ahead h18
    replace F3 := F3.ahead h18
    replace BP := BP.ahead h18
    replace B0 := B0.ahead h18
    replace B4 := B4.ahead h18
    replace B3 := B3.ahead h18
    replace B1 := B1.ahead h18
    replace B2 := B2.ahead h18
    replace A0 := A0.trans h18
    refine get2 B2 rfl rfl (get2 B1 rfl rfl (get2 B4 rfl rfl ?_))
    refine Calls.mono (plus_spec E2 E1 (sz _ (by omega)) (sz _ (by omega))) ?_
    rintro e v19 ⟨h19, n_D6, s_D6, rfl, D6⟩
    replace G0 := G0.ahead h19
    replace G1 := G1.ahead h19
    replace G2 := G2.ahead h19
    replace G3 := G3.ahead h19
    replace G4 := G4.ahead h19
    replace D1 := D1.ahead h19
    replace E3 := E3.ahead h19
    replace D2 := D2.ahead h19
    replace E1 := E1.ahead h19
    replace E2 := E2.ahead h19
    replace D3 := D3.ahead h19
    replace D4 := D4.ahead h19
    replace D5 := D5.ahead h19
    replace F3 := F3.ahead h19
    replace BP := BP.ahead h19
    replace B0 := B0.ahead h19
    replace B4 := B4.ahead h19
    replace B3 := B3.ahead h19
    replace B1 := B1.ahead h19
    replace B2 := B2.ahead h19
    replace A0 := A0.trans h19
    refine ⟨_, _, rfl, h19, ?_⟩
    refine Calls.mono (minus_spec D6 G4 (sz _ (by omega)) (sz _ (by omega))) ?_
    rintro e v20 ⟨h20, n_F2, s_F2, rfl, F2⟩
    replace G0 := G0.ahead h20
    replace G1 := G1.ahead h20
    replace G2 := G2.ahead h20
    replace G3 := G3.ahead h20
    replace G4 := G4.ahead h20
    replace D1 := D1.ahead h20
    replace E3 := E3.ahead h20
    replace D2 := D2.ahead h20
    replace E1 := E1.ahead h20
    replace E2 := E2.ahead h20
    replace D3 := D3.ahead h20
    replace D4 := D4.ahead h20
    replace D5 := D5.ahead h20
    replace F3 := F3.ahead h20
    replace D6 := D6.ahead h20
    replace BP := BP.ahead h20
    replace B0 := B0.ahead h20
    replace B4 := B4.ahead h20
    replace B3 := B3.ahead h20
    replace B1 := B1.ahead h20
    replace B2 := B2.ahead h20
    replace A0 := A0.trans h20
    refine ⟨_, _, rfl, h20, ?_⟩
    rw [show (R 0 : Int) - (R 1 : Int) + (R 2 : Int) - (R 3 : Int) + (R 4 : Int) - (R 0 : Int) + ((R 1 : Int) + (R 3 : Int)) - (R 4 : Int) = (R 2 : Int) by omega] at F2
    refine set2 (x0 := n_E2) (s0 := s_E2) B2 fun v21 u21 B2_ => ?_
    replace B2 := B2_
    clear B2_
    replace BP := u21.blk BP (by omega)
    replace B0 := u21.blk B0 (by omega)
    replace B4 := u21.blk B4 (by omega)
    replace B3 := u21.blk B3 (by omega)
    replace B1 := u21.blk B1 (by omega)
    replace G0 := G0.upd u21
    replace G1 := G1.upd u21
    replace G2 := G2.upd u21
    replace G3 := G3.upd u21
    replace G4 := G4.upd u21
    replace D1 := D1.upd u21
    replace E3 := E3.upd u21
    replace D2 := D2.upd u21
    replace E1 := E1.upd u21
    replace E2 := E2.upd u21
    replace D3 := D3.upd u21
    replace D4 := D4.upd u21
    replace D5 := D5.upd u21
    replace F3 := F3.upd u21
    replace D6 := D6.upd u21
    replace F2 := F2.upd u21
    replace A0 := u21.ahead A0 ge_c2_
    refine get2 B1 rfl rfl (get2 B3 rfl rfl ?_)
    refine Calls.mono (minus_spec E1 F3 (sz _ (by omega)) (sz _ (by omega))) ?_
    rintro e v22 ⟨h22, n_F1, s_F1, rfl, F1⟩
    replace G0 := G0.ahead h22
    replace G1 := G1.ahead h22
    replace G2 := G2.ahead h22
    replace G3 := G3.ahead h22
    replace G4 := G4.ahead h22
    replace D1 := D1.ahead h22
    replace E3 := E3.ahead h22
    replace D2 := D2.ahead h22
    replace E1 := E1.ahead h22
    replace E2 := E2.ahead h22
    replace D3 := D3.ahead h22
    replace D4 := D4.ahead h22
    replace D5 := D5.ahead h22
    replace F3 := F3.ahead h22
    replace D6 := D6.ahead h22
    replace F2 := F2.ahead h22
    replace BP := BP.ahead h22
    replace B0 := B0.ahead h22
    replace B4 := B4.ahead h22
    replace B3 := B3.ahead h22
    replace B1 := B1.ahead h22
    replace B2 := B2.ahead h22
    replace A0 := A0.trans h22
    refine ⟨_, _, rfl, ?_⟩
    rw [show (R 1 : Int) + (R 3 : Int) - (R 3 : Int) = (R 1 : Int) by omega] at F1
    refine set2 (x0 := n_E1) (s0 := s_E1) B1 fun v23 u23 B1_ => ?_
    replace B1 := B1_
    clear B1_
    replace BP := u23.blk BP (by omega)
    replace B0 := u23.blk B0 (by omega)
    replace B4 := u23.blk B4 (by omega)
    replace B3 := u23.blk B3 (by omega)
    replace B2 := u23.blk B2 (by omega)
    replace G0 := G0.upd u23
    replace G1 := G1.upd u23
    replace G2 := G2.upd u23
    replace G3 := G3.upd u23
    replace G4 := G4.upd u23
    replace D1 := D1.upd u23
    replace E3 := E3.upd u23
    replace D2 := D2.upd u23
    replace E1 := E1.upd u23
    replace E2 := E2.upd u23
    replace D3 := D3.upd u23
    replace D4 := D4.upd u23
    replace D5 := D5.upd u23
    replace F3 := F3.upd u23
    replace D6 := D6.upd u23
    replace F2 := F2.upd u23
    replace F1 := F1.upd u23
    replace A0 := u23.ahead A0 ge_c1_
    rw [e0, e1, wrap_i64 (x := (A.length : Int) + (C.length : Int)) (by omega) (by omega), wrap_i64 (by omega) (by omega), show (A.length : Int) + (C.length : Int) + 3 = ((A.length + C.length + 3 : Nat) : Int) by omega]
    refine mkN (by omega) (by omega) ?_
    intro out w9 hoc oo h9 hs9
    have offs : ∀ {n : Bool} {s : Slc} {z : Int}, Sg v23 n s z → Off v23.heap.size s := fun h => rd_off h.rd (Nat.le_refl _)
    refine get2 (B0.ahead h9) rfl rfl (get2 (B1.ahead h9) rfl rfl (get2 (B2.ahead h9) rfl rfl (get2 (B3.ahead h9) rfl rfl (get2 (B4.ahead h9) rfl rfl ?_))))
    have rdz : ∀ {n : Bool} {s : Slc} {x : Nat}, Sg v23 n s (x : Int) → Rd .u64 w9 s (nn (digs B64 x)) ∧ Off v23.heap.size s := fun h => ⟨by have := h.rd.ahead h9; rwa [Int.natAbs_natCast] at this, offs h⟩
    refine ⟨rfl, 0, v23.heap.size, _, rfl, by omega, A0.trans h9, A0.size, by rw [hoc]; unfold maxLen; omega, oo, by rw [List.length_replicate]; omega, ok_replicate (by omega) _, ?_, ?_⟩
    · rw [val_replicate]; rfl
    · intro i hi
      match i, hi with
      | 0, _ => exact rdz G0
      | 1, _ => exact rdz F1
      | 2, _ => exact rdz F2
      | 3, _ => exact rdz F3
      | 4, _ => exact rdz G4

end Mul
end Go.Proofs.Ytfdajpjiengihaa
namespace Go.Proofs.Ytfdajpjiengihaa
open Go Go.RowKit Eng Sp Dg
set_option linter.unusedVariables false
set_option linter.unusedSimpArgs false
set_option maxRecDepth 100000
namespace Mul
open _root_.Go.Proofs.Ytfdajpjiengihaa.Nat (Num OwnNil OwnNil.rd OwnNil.mono OwnNil.ahead Norm_spec Ret bigC bigC_ok digs_len_bl Yes num_of)
open _root_.Go.Proofs.Ytfdajpjiengihaa.Ref (RN Lend_spec Of_spec Kept_spec own_list digs_own_len low_ahead)

theorem prod_core3 {w : World} {a b : Slc} {x y : Nat} (ha : Num w a x) (hb : Num w b y) (la : (digs B64 x).length + 16 ≤ 2 ^ 44) (lb : (digs B64 y).length + 16 ≤ 2 ^ 44) (g : Nat) (args : Slc → Slc → Array Value)
    (hg : ∀ (w3 : World) (s t : Slc), Ahead w w3 → Rd .u64 w3 s (nn (digs B64 x)) → Rd .u64 w3 t (nn (digs B64 y)) → (digs B64 x).length + (digs B64 y).length + 16 ≤ 2 ^ 44 →
      Calls pr g (args s t) w3 (Res w3 (x * y) ((digs B64 x).length + (digs B64 y).length + 3))) :
    Calls pr nat_Norm_id #[a.v] w fun e1 w1 => ∃ s1 : Slc, e1 = .returned s1.v ∧
      (Calls pr nat_Norm_id #[b.v] w1 fun e2 w2 => ∃ s2 : Slc, e2 = .returned s2.v ∧
        (Calls pr mul_great_id #[s1.v, s2.v] w2 fun e3 w3 => ∃ b1 : Bool, e3 = .returned (Value.bool b1) ∧
          (br b1 (Ret w (bigC (x * y)) (x * y) (.returned (Value.tuple #[(⟨none, 0, 0⟩ : Slc).v, Value.int .i64 3])) w3)
            (Calls pr g (args s1 s2) w3 fun e4 w4 => ∃ s3 : Slc, e4 = .returned s3.v ∧
              (Calls pr mul_fits_id #[s3.v] w4 fun e5 w5 => ∃ s4 : Slc, ∃ x1 : Int, e5 = .returned (Value.tuple #[s4.v, Value.int .i64 x1]) ∧
                (Ret w (bigC (x * y)) (x * y) (.returned (Value.tuple #[s4.v, Value.int .i64 x1])) w5)))))) := by
  obtain ⟨l, ra, na, oa, rfl⟩ := ha
  obtain ⟨m, rb, nb, ob, rfl⟩ := hb
  refine (Calls.mono (Norm_spec ra na oa) ?_)
  rintro e w1 ⟨h1, s, rfl, os⟩
  refine ⟨_, rfl, Calls.mono (Norm_spec (rb.ahead h1) nb ob) ?_⟩
  rintro e w2 ⟨h2, t, rfl, ot⟩
  have h12 := h1.trans h2
  have rs := (os.ahead h2).rd
  have rt := ot.rd
  have ns : Num w2 s (val B64 l) := ⟨_, rs, by omega, ok_digs two64 _, val_digs two64 _⟩
  have nt : Num w2 t (val B64 m) := ⟨_, rt, by omega, ok_digs two64 _, val_digs two64 _⟩
  generalize val B64 l = x at *
  generalize val B64 m = y at *
  refine ⟨_, rfl, Calls.mono (great_spec ns nt) ?_⟩
  rintro e w3 ⟨rfl, c, rfl, hc⟩
  refine ⟨_, rfl, br_intro (fun h => ?_) (fun h => ?_)⟩
  · obtain ⟨h3, h4, h5⟩ := hc.1 h
    have := bl_mul h3 h4
    have hcc : bigC (x * y) = 3 := by rw [bigC, if_neg (by omega)]
    rw [hcc]
    exact ⟨h12, _, rfl, by rw [if_neg (by omega)]; exact Or.inl ⟨rfl, rfl⟩⟩
  · have hsz : (digs B64 x).length + (digs B64 y).length + 16 ≤ 2 ^ 44 := by
      by_cases hx : x = 0
      · subst hx; rw [digs_zero]; simp; omega
      · by_cases hy : y = 0
        · subst hy; rw [digs_zero]; simp; omega
        · have hbl : bl x + bl y - 1 ≤ 67108864 := by
            rcases Nat.lt_or_ge 67108864 (bl x + bl y - 1) with h6 | h6
            · have := hc.2 ⟨hx, hy, h6⟩; rw [h] at this; cases this
            · exact h6
          have p1 := bl_pos hx
          have p2 := bl_pos hy
          have := digs_len_bl (N := x) (m := 2 ^ 21) (by omega)
          have := digs_len_bl (N := y) (m := 2 ^ 21) (by omega)
          omega
    refine Calls.mono (hg w3 s t h12 rs rt hsz) ?_
    rintro e w4 ⟨h4, u, L, rfl, ou, nu, ku, vu⟩
    refine ⟨_, rfl, Calls.mono (fits_spec ou.rd (by omega) ku) ?_⟩
    rw [vu]
    rintro e w5 ⟨h5, v, rfl, ov⟩
    have hsz := (h12.trans h4).size
    exact ⟨_, _, rfl, (h12.trans h4).trans h5, _, rfl, ov.mono hsz⟩

/-- Toom's answer: a cut below 3 is refused. -/
def toomC (cut : Int) (n : Nat) : Int := if cut < 3 then 1 else bigC n
theorem Toom_spec {w : World} {a b : Slc} {x y : Nat} {cut : Int} (ha : Num w a x) (hb : Num w b y) (la : (digs B64 x).length + 16 ≤ 2 ^ 44) (lb : (digs B64 y).length + 16 ≤ 2 ^ 44)
    (hcut : cut ≤ 9223372036854775807) : Calls pr mul_Toom_id #[a.v, b.v, .int .i64 cut] w (Ret w (toomC cut (x * y)) (x * y)) := by
  refine mul_Toom_vc a b cut w _ ?_
  have h1 := Ahead.alloc w (.cells #[Value.int .i64 cut] tInt (0, 0))
  have r1 := lit_rd .i64 tInt w [cut]
  have hcell : (w.alloc (.cells #[Value.int .i64 cut] tInt (0, 0))).cell? ⟨w.heap.size, 0, none⟩ = some (.int .i64 cut) := by
    rw [World.cell?, get_alloc]; rfl
  refine ⟨cut, hcell, br_intro (fun hlt => ?_) (fun hge => ?_)⟩
  · have hc : toomC cut (x * y) = 1 := if_pos (by simpa using hlt)
    rw [hc]
    exact ⟨h1, _, rfl, by rw [if_neg (by omega)]; exact Or.inl ⟨rfl, rfl⟩⟩
  have hc : toomC cut (x * y) = bigC (x * y) := if_neg (by simpa using hge)
  rw [hc]
  refine mul_product__mul_Toom_1_vc a b ⟨w.heap.size, 0, none⟩ _ _ ?_
  refine Calls.mono (prod_core3 (ha.ahead h1) (hb.ahead h1) la lb mul_Toom_1_id (fun s t => #[s.v, t.v, .pointer (some ⟨w.heap.size, 0, none⟩)]) ?_) ?_
  · intro w3 s t h3 rs rt hs
    refine mul_Toom_1_vc s t ⟨w.heap.size, 0, none⟩ w3 _ ⟨cut, h3.cell hcell, ?_⟩
    have hm : maxI cut 9 = if 9 > cut then 9 else cut := by unfold maxI; rfl
    refine Calls.mono (thirds_spec _ w3 s _ rs (ok_digs two64 x) t _ rt (ok_digs two64 y) (maxI cut 9) (by rw [hm]; split <;> omega) (by rw [hm]; split <;> omega) (by omega) (Nat.le_refl _)) ?_
    rintro e w4 ⟨h4, u, L, rfl, ou, nu, ku, vu⟩
    rw [val_digs two64, val_digs two64] at vu
    exact ⟨_, rfl, h4, u, L, rfl, ou, nu, ku, vu⟩
  · rintro e w1 ⟨s1, rfl, h1'⟩
    refine ⟨s1, rfl, Calls.mono h1' ?_⟩
    rintro e w2 ⟨s2, rfl, h2⟩
    refine ⟨s2, rfl, Calls.mono h2 ?_⟩
    rintro e w3 ⟨c, rfl, h3⟩
    refine ⟨c, rfl, ?_⟩
    have fin : ∀ {code : Int} {e : Ending} {w' : World}, Ret (w.alloc (.cells #[Value.int .i64 cut] tInt (0, 0))) code (x * y) e w' → Ret w code (x * y) e w' := by
      rintro code e w' ⟨ha', s, rfl, ho⟩
      exact ⟨h1.trans ha', s, rfl, ho.mono h1.size⟩
    cases c
    · refine br_false rfl (Calls.mono (show Calls _ _ _ _ _ from h3) ?_)
      rintro e w4 ⟨s3, rfl, h4⟩
      refine ⟨s3, rfl, Calls.mono h4 ?_⟩
      rintro e w5 ⟨s4, c, rfl, h5⟩
      exact ⟨_, _, rfl, _, _, rfl, fin h5⟩
    · exact br_true rfl ⟨_, _, rfl, fin h3⟩

theorem MulTooms_ok {w : World} {s0 s1 : Slc} {l0 l1 : List Nat} {x2 : Int} (r0 : Rd .u64 w s0 (nn l0)) (o0 : ok B64 l0) (n0 : l0.length * 8 ≤ 140737488351232)
    (r1 : Rd .u64 w s1 (nn l1)) (o1 : ok B64 l1) (n1 : l1.length * 8 ≤ 140737488351232) (hcut : -9223372036854775808 ≤ x2 ∧ x2 ≤ 9223372036854775807) :
    Calls pr surdlaw02_MulTooms_id #[s0.v, s1.v, .int .i64 x2] w (Yes w) := by
  have hx := len32 o0
  have hy := len32 o1
  have hdx := Nat.len_le o0
  have hdy := Nat.len_le o1
  refine surdlaw02_MulTooms_vc s0 s1 x2 w _ ?_
  refine Calls.mono (Lend_spec r0 n0 o0) ?_
  rintro e w1 ⟨h1, wa, pa, rfl, la⟩
  refine ⟨_, _, rfl, Calls.mono (Lend_spec (r1.ahead h1) n1 o1) ?_⟩
  rintro e w2 ⟨h2, wb, pb, rfl, lb⟩
  have h02 := h1.trans h2
  have la2 := la.ahead h2
  have pna : Num w2 pa (val B64 l0) := num_of la2.part o0 n0
  have pnb : Num w2 pb (val B64 l1) := num_of lb.part o1 n1
  have ofX := fun (w3 : World) (h3 : Ahead w w3) => Of_spec (r0.ahead h3) n0 o0
  have ofY := fun (w3 : World) (h3 : Ahead w w3) => Of_spec (r1.ahead h3) n1 o1
  generalize val B64 l0 = X at *
  generalize val B64 l1 = Y at *
  refine ⟨_, _, rfl, Calls.mono (Toom_spec pna pnb (by omega) (by omega) hcut.2) ?_⟩
  rintro e w3 ⟨h3, p, rfl, op⟩
  have h03 := h02.trans h3
  refine ⟨_, _, rfl, br_intro (fun hlt => ?_) (fun hge => ?_)⟩
  · have hc : toomC x2 (X * Y) = 1 := if_pos (of_decide_eq_true hlt)
    rw [hc] at op ⊢
    rw [if_neg (by omega)] at op
    have hn := op.rd.n
    refine Calls.mono num_spec ?_
    rintro e w4 ⟨rfl, rfl⟩
    refine ⟨_, rfl, br_true rfl (br_true (by simp at hn; rw [hn]; rfl) (end_awake h03))⟩
  have hc : toomC x2 (X * Y) = bigC (X * Y) := if_neg (of_decide_eq_false hge)
  rw [hc] at op ⊢
  refine Calls.mono (ofX w3 h03) ?_
  rintro e w4 ⟨h4, x, rfl, rx⟩
  have h04 := h03.trans h4
  refine ⟨_, rfl, Calls.mono (ofY w4 h04) ?_⟩
  rintro e w5 ⟨h5, y, rfl, ry⟩
  refine ⟨_, rfl, Calls.mono (refMul_spec (rx.ahead h5) ry (by omega) (by omega)) ?_⟩
  rintro e w6 ⟨h6, v, rfl, rv⟩
  have h36 := (h4.trans h5).trans h6
  refine ⟨_, _, rfl, Calls.mono (alike_spec (op.ahead h36).rd rv bigC_bl) ?_⟩
  rintro e w7 ⟨h7, rfl⟩
  have h37 := h36.trans h7
  have h27 := h3.trans h37
  have h07 := h02.trans h27
  refine ⟨_, rfl, br_true rfl (Calls.mono (Kept_spec (la2.ahead h27).whole (r0.ahead h07) n0) ?_)⟩
  rintro e w8 ⟨rfl, rfl⟩
  refine ⟨_, rfl, br_true rfl (Calls.mono (Kept_spec (lb.ahead h27).whole (r1.ahead h07) n1) ?_)⟩
  rintro e w9 ⟨rfl, rfl⟩
  have hlen := digs_own_len (n := X * Y) rfl
  refine ⟨_, rfl, br_true rfl ?_⟩
  refine Calls.mono (own_list (base := w2.heap.size) [(p, if bigC (X * Y) = 0 then digs B64 (X * Y) else [])] h27.size ?_ ?_ (by simp) rfl rfl) ?_
  · intro z hz
    simp only [List.mem_cons, List.not_mem_nil, or_false] at hz
    subst hz
    exact ⟨op.ahead h37, hlen⟩
  · simp
  rintro e w11 ⟨rfl, hb11⟩
  have h211 : Ahead w2 w11 := low_ahead h27 (Nat.le_refl _) hb11
  have h011 := h02.trans h211
  refine ⟨_, rfl, br_true rfl (Calls.mono (Kept_spec (la2.ahead h211).whole (r0.ahead h011) n0) ?_)⟩
  rintro e w12 ⟨rfl, rfl⟩
  refine ⟨_, rfl, br_true rfl (Calls.mono (Kept_spec (lb.ahead h211).whole (r1.ahead h011) n1) ?_)⟩
  rintro e w13 ⟨rfl, rfl⟩
  exact ⟨_, rfl, br_true rfl (end_awake h011)⟩

end Mul
end Go.Proofs.Ytfdajpjiengihaa
