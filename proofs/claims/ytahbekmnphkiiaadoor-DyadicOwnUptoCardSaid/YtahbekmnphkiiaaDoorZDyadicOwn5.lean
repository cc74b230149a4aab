/- What the law leans on, part 5. No condition. -/
import Derived.Test.YtahbekmnphkiiaaDoorZDyadicOwn4
namespace Go.Proofs.YtahbekmnphkiiaaDoor
open Go Go.RowKit Eng L2
set_option linter.unusedVariables false
set_option maxHeartbeats 2000000
set_option maxRecDepth 100000

/-- surd/dyadic.compare: function 58, its local variables as values. -/
theorem dyadic_compare_v2 (a0_0 : Bool) (a0_1 : Slc) (a0_2 : Int) (a1_0 : Bool) (a1_1 : Slc) (a1_2 : Int) (w : World) (R : Ending → World → Prop)
    
    (h : ∀ w1, Ext w w1 → Ahead w w1 →
    (Calls Tryd.prog 64 #[Value.agg #[Value.bool a0_0, a0_1.v]] w1 fun e1 w2 =>
     ∃ x1 : Int, e1 = .returned (Value.int .i64 x1) ∧ Ahead w1 w2 ∧
     (Calls Tryd.prog 64 #[Value.agg #[Value.bool a1_0, a1_1.v]] w2 fun e2 w3 =>
      ∃ x2 : Int, e2 = .returned (Value.int .i64 x2) ∧ Ahead w2 w3 ∧
      (br (decide (x1 < x2))
       (R (.returned (Value.int .i64 (-1))) w3)
       (br (decide (x1 > x2))
        (R (.returned (Value.int .i64 1)) w3)
        (br (x1 == 0)
         (R (.returned (Value.int .i64 0)) w3)
         (∀ w4, Ext w3 w4 → Ahead w w4 →
          (Calls Tryd.prog 78 #[Value.agg #[Value.bool a0_0, a0_1.v, Value.int .i64 a0_2]] w4 fun e3 w5 =>
           ∃ x3 : Int, e3 = .returned (Value.int .i64 x3) ∧ Ahead w4 w5 ∧
           (Calls Tryd.prog 78 #[Value.agg #[Value.bool a1_0, a1_1.v, Value.int .i64 a1_2]] w5 fun e4 w6 =>
            ∃ x4 : Int, e4 = .returned (Value.int .i64 x4) ∧ Ahead w5 w6 ∧
            (br (x3 != x4)
             (∀ w7, Ext w6 w7 → Ahead w w7 →
              (Calls Tryd.prog 78 #[Value.agg #[Value.bool a0_0, a0_1.v, Value.int .i64 a0_2]] w7 fun e5 w8 =>
               ∃ x5 : Int, e5 = .returned (Value.int .i64 x5) ∧ Ahead w7 w8 ∧
               (Calls Tryd.prog 78 #[Value.agg #[Value.bool a1_0, a1_1.v, Value.int .i64 a1_2]] w8 fun e6 w9 =>
                ∃ x6 : Int, e6 = .returned (Value.int .i64 x6) ∧ Ahead w8 w9 ∧
                (br (decide (x5 < x6))
                 (R (.returned (Value.int .i64 (IntKind.i64.wrap (0 - x1)))) w9)
                 (R (.returned (Value.int .i64 x1)) w9)))))
             (br (decide (a0_2 > a1_2))
              (∀ w11, Ext w6 w11 → Ahead w w11 →
               (Calls Tryd.prog 80 #[a0_1.v, Value.int .i64 (IntKind.i64.wrap (a0_2 - a1_2))] w11 fun e7 w12 =>
                ∃ s1 : Slc, e7 = .returned s1.v ∧ Ahead w11 w12 ∧
                (Calls Tryd.prog 83 #[s1.v, a1_1.v] w12 fun e8 w13 =>
                 ∃ x7 : Int, e8 = .returned (Value.int .i64 x7) ∧ Ahead w12 w13 ∧
                 (R (.returned (Value.int .i64 (IntKind.i64.wrap (x1 * x7)))) w13))))
              (∀ w14, Ext w6 w14 → Ahead w w14 →
               (Calls Tryd.prog 80 #[a1_1.v, Value.int .i64 (IntKind.i64.wrap (a1_2 - a0_2))] w14 fun e9 w15 =>
                ∃ s2 : Slc, e9 = .returned s2.v ∧ Ahead w14 w15 ∧
                (Calls Tryd.prog 83 #[a0_1.v, s2.v] w15 fun e10 w16 =>
                 ∃ x8 : Int, e10 = .returned (Value.int .i64 x8) ∧ Ahead w15 w16 ∧
                 (R (.returned (Value.int .i64 (IntKind.i64.wrap (x1 * x8)))) w16)))))))))))))))
     :
    Calls Tryd.prog 58 #[Value.agg #[Value.bool a0_0, a0_1.v, Value.int .i64 a0_2], Value.agg #[Value.bool a1_0, a1_1.v, Value.int .i64 a1_2]] w (fun e_ w_ => Ahead w w_ ∧ R e_ w_) := by
  refine dyadic_compare_vc a0_0 a0_1 a0_2 a1_0 a1_1 a1_2 w _  ?_
  · have A : Ahead w w := Ahead.refl w
    have X : Ext w w := Ext.refl w
    refine newC_t fun bk1 u1 hb1 ha_u1 _ B1 => ?_
    have g1 := le_eq A.size hb1
    obtain ⟨A, X⟩ := axa2 ha_u1 A X
    refine newC_t fun bk2 u2 hb2 ha_u2 _ B2 => ?_
    have g2 := le_eq A.size hb2
    have l1_2 := lt1 hb2 B1
    replace B1 := B1.ahead ha_u2
    obtain ⟨A, X⟩ := axa2 ha_u2 A X
    have hd_ := Sp.Ahead.drew u2
    obtain ⟨B1, B2⟩ := ah2 hd_ B1 B2
    obtain ⟨A, X⟩ := axa2 hd_ A X
    clear hd_
    refine ldB_t 0 B1 rfl ?_
    refine ldS_t 1 B1 rfl ?_
    refine ldB_t 0 B2 rfl ?_
    refine ldS_t 1 B2 rfl ?_
    replace h := h _ X A
    refine Calls.mono h ?_
    clear h
    rintro e1 w2 ⟨x1, he_, ha_w2, h⟩
    refine ⟨x1, he_, ?_⟩
    clear he_
    obtain ⟨B1, B2⟩ := ah2 ha_w2 B1 B2
    obtain ⟨A, X⟩ := axa2 ha_w2 A X
    replace X : Ext w2 w2 := Ext.refl _
    refine ⟨ha_w2, ?_⟩
    refine Calls.mono h ?_
    clear h
    rintro e2 w3 ⟨x2, he_, ha_w3, h⟩
    refine ⟨x2, he_, ?_⟩
    clear he_
    obtain ⟨B1, B2⟩ := ah2 ha_w3 B1 B2
    obtain ⟨A, X⟩ := axa2 ha_w3 A X
    replace X : Ext w3 w3 := Ext.refl _
    refine ⟨ha_w3, ?_⟩
    refine br_map h (fun h_ => ?_) (fun h_ => ?_)
    ·clear h
     have h := h_
     clear h_
     exact ⟨A, h⟩
    ·clear h
     have h := h_
     clear h_
     refine br_map h (fun h_ => ?_) (fun h_ => ?_)
     ·clear h
      have h := h_
      clear h_
      exact ⟨A, h⟩
     ·clear h
      have h := h_
      clear h_
      refine br_map h (fun h_ => ?_) (fun h_ => ?_)
      ·clear h
       have h := h_
       clear h_
       exact ⟨A, h⟩
      ·clear h
       have h := h_
       clear h_
       have hd_ := Sp.Ahead.drew w3
       obtain ⟨B1, B2⟩ := ah2 hd_ B1 B2
       obtain ⟨A, X⟩ := axa2 hd_ A X
       clear hd_
       refine ldB_t 0 B1 rfl ?_
       refine ldS_t 1 B1 rfl ?_
       refine ldI_t 2 B1 rfl ?_
       refine ldB_t 0 B2 rfl ?_
       refine ldS_t 1 B2 rfl ?_
       refine ldI_t 2 B2 rfl ?_
       replace h := h _ X A
       refine Calls.mono h ?_
       clear h
       rintro e3 w5 ⟨x3, he_, ha_w5, h⟩
       refine ⟨x3, he_, ?_⟩
       clear he_
       obtain ⟨B1, B2⟩ := ah2 ha_w5 B1 B2
       obtain ⟨A, X⟩ := axa2 ha_w5 A X
       replace X : Ext w5 w5 := Ext.refl _
       refine ⟨ha_w5, ?_⟩
       refine Calls.mono h ?_
       clear h
       rintro e4 w6 ⟨x4, he_, ha_w6, h⟩
       refine ⟨x4, he_, ?_⟩
       clear he_
       obtain ⟨B1, B2⟩ := ah2 ha_w6 B1 B2
       obtain ⟨A, X⟩ := axa2 ha_w6 A X
       replace X : Ext w6 w6 := Ext.refl _
       refine ⟨ha_w6, ?_⟩
       refine br_map h (fun h_ => ?_) (fun h_ => ?_)
       ·clear h
        have h := h_
        clear h_
        have hd_ := Sp.Ahead.drew w6
        obtain ⟨B1, B2⟩ := ah2 hd_ B1 B2
        obtain ⟨A, X⟩ := axa2 hd_ A X
        clear hd_
        refine ldB_t 0 B1 rfl ?_
        refine ldS_t 1 B1 rfl ?_
        refine ldI_t 2 B1 rfl ?_
        refine ldB_t 0 B2 rfl ?_
        refine ldS_t 1 B2 rfl ?_
        refine ldI_t 2 B2 rfl ?_
        replace h := h _ X A
        refine Calls.mono h ?_
        clear h
        rintro e5 w8 ⟨x5, he_, ha_w8, h⟩
        refine ⟨x5, he_, ?_⟩
        clear he_
        obtain ⟨B1, B2⟩ := ah2 ha_w8 B1 B2
        obtain ⟨A, X⟩ := axa2 ha_w8 A X
        replace X : Ext w8 w8 := Ext.refl _
        refine ⟨ha_w8, ?_⟩
        refine Calls.mono h ?_
        clear h
        rintro e6 w9 ⟨x6, he_, ha_w9, h⟩
        refine ⟨x6, he_, ?_⟩
        clear he_
        obtain ⟨B1, B2⟩ := ah2 ha_w9 B1 B2
        obtain ⟨A, X⟩ := axa2 ha_w9 A X
        replace X : Ext w9 w9 := Ext.refl _
        refine ⟨ha_w9, ?_⟩
        refine br_map h (fun h_ => ?_) (fun h_ => ?_)
        ·clear h
         have h := h_
         clear h_
         exact ⟨A, h⟩
        ·clear h
         have h := h_
         clear h_
         exact ⟨A, h⟩
       ·clear h
        have h := h_
        clear h_
        refine ldS_t 1 B1 rfl ?_
        refine ldS_t 1 B2 rfl ?_
        intro w10 ha_w10
        obtain ⟨B1, B2⟩ := ah2 ha_w10 B1 B2
        obtain ⟨A, X⟩ := axa2 ha_w10 A X
        clear ha_w10
        refine ldI_t 2 B1 rfl ?_
        refine ldI_t 2 B2 rfl ?_
        refine br_map h (fun h_ => ?_) (fun h_ => ?_)
        ·clear h
         have h := h_
         clear h_
         refine ldI_t 2 B1 rfl ?_
         refine ldI_t 2 B2 rfl ?_
         replace h := h _ X A
         refine Calls.mono h ?_
         clear h
         rintro e7 w12 ⟨s1, he_, ha_w12, h⟩
         refine ⟨s1, he_, ?_⟩
         clear he_
         obtain ⟨B1, B2⟩ := ah2 ha_w12 B1 B2
         obtain ⟨A, X⟩ := axa2 ha_w12 A X
         replace X : Ext w12 w12 := Ext.refl _
         refine Calls.mono h ?_
         clear h
         rintro e8 w13 ⟨x7, he_, ha_w13, h⟩
         refine ⟨x7, he_, ?_⟩
         clear he_
         obtain ⟨B1, B2⟩ := ah2 ha_w13 B1 B2
         obtain ⟨A, X⟩ := axa2 ha_w13 A X
         replace X : Ext w13 w13 := Ext.refl _
         exact ⟨A, h⟩
        ·clear h
         have h := h_
         clear h_
         refine ldI_t 2 B2 rfl ?_
         refine ldI_t 2 B1 rfl ?_
         replace h := h _ X A
         refine Calls.mono h ?_
         clear h
         rintro e9 w15 ⟨s2, he_, ha_w15, h⟩
         refine ⟨s2, he_, ?_⟩
         clear he_
         obtain ⟨B1, B2⟩ := ah2 ha_w15 B1 B2
         obtain ⟨A, X⟩ := axa2 ha_w15 A X
         replace X : Ext w15 w15 := Ext.refl _
         refine Calls.mono h ?_
         clear h
         rintro e10 w16 ⟨x8, he_, ha_w16, h⟩
         refine ⟨x8, he_, ?_⟩
         clear he_
         obtain ⟨B1, B2⟩ := ah2 ha_w16 B1 B2
         obtain ⟨A, X⟩ := axa2 ha_w16 A X
         replace X : Ext w16 w16 := Ext.refl _
         exact ⟨A, h⟩

/-- surd/dyadic.Compare: function 23, its local variables as values. -/
theorem dyadic_Compare_v2 (a0_a_0 : Bool) (a0_a_1 : Slc) (a0_a_2 : Int) (a1_b_0 : Bool) (a1_b_1 : Slc) (a1_b_2 : Int) (w : World) (R : Ending → World → Prop)
    
    (h : ∀ w1, Ext w w1 → Ahead w w1 →
    (Calls Tryd.prog 40 #[Value.agg #[Value.bool a0_a_0, a0_a_1.v, Value.int .i64 a0_a_2], Value.agg #[Value.bool a1_b_0, a1_b_1.v, Value.int .i64 a1_b_2]] w1 fun e1 w2 =>
     ∃ b1 : Bool, ∃ s1 : Slc, ∃ x1 : Int, ∃ b2 : Bool, ∃ s2 : Slc, ∃ x2 : Int, ∃ x3 : Int, e1 = .returned (Value.tuple #[Value.agg #[Value.bool b1, s1.v, Value.int .i64 x1], Value.agg #[Value.bool b2, s2.v, Value.int .i64 x2], Value.int .i64 x3]) ∧ Ahead w1 w2 ∧
     (br (x3 != 0)
      (∀ w3, Ext w2 w3 → Ahead w w3 →
       (R (.returned (Value.tuple #[Value.int .i64 0, Value.int .i64 x3])) w3))
      (∀ w4, Ext w2 w4 → Ahead w w4 →
       (Calls Tryd.prog 58 #[Value.agg #[Value.bool b1, s1.v, Value.int .i64 x1], Value.agg #[Value.bool b2, s2.v, Value.int .i64 x2]] w4 fun e2 w5 =>
        ∃ x4 : Int, e2 = .returned (Value.int .i64 x4) ∧ Ahead w4 w5 ∧
        (R (.returned (Value.tuple #[Value.int .i64 x4, Value.int .i64 0])) w5))))))
     :
    Calls Tryd.prog 23 #[Value.agg #[Value.bool a0_a_0, a0_a_1.v, Value.int .i64 a0_a_2], Value.agg #[Value.bool a1_b_0, a1_b_1.v, Value.int .i64 a1_b_2]] w (fun e_ w_ => Ahead w w_ ∧ R e_ w_) := by
  refine dyadic_Compare_vc a0_a_0 a0_a_1 a0_a_2 a1_b_0 a1_b_1 a1_b_2 w _  ?_
  · have A : Ahead w w := Ahead.refl w
    have X : Ext w w := Ext.refl w
    refine newC_t fun bk1 u1 hb1 ha_u1 _ B1 => ?_
    have g1 := le_eq A.size hb1
    obtain ⟨A, X⟩ := axa2 ha_u1 A X
    refine newC_t fun bk2 u2 hb2 ha_u2 _ B2 => ?_
    have g2 := le_eq A.size hb2
    have l1_2 := lt1 hb2 B1
    replace B1 := B1.ahead ha_u2
    obtain ⟨A, X⟩ := axa2 ha_u2 A X
    refine ldB_t 0 B1 rfl ?_
    refine ldS_t 1 B1 rfl ?_
    refine ldI_t 2 B1 rfl ?_
    refine ldB_t 0 B2 rfl ?_
    refine ldS_t 1 B2 rfl ?_
    refine ldI_t 2 B2 rfl ?_
    replace h := h _ X A
    refine Calls.mono h ?_
    clear h
    rintro e1 w2 ⟨b1, s1, x1, b2, s2, x2, x3, he_, ha_w2, h⟩
    refine ⟨b1, s1, x1, b2, s2, x2, x3, he_, ?_⟩
    clear he_
    obtain ⟨B1, B2⟩ := ah2 ha_w2 B1 B2
    obtain ⟨A, X⟩ := axa2 ha_w2 A X
    replace X : Ext w2 w2 := Ext.refl _
    refine newC_t fun bk3 u3 hb3 ha_u3 _ B3 => ?_
    have g3 := le_eq A.size hb3
    obtain ⟨_, _⟩ := lt2 hb3 B1 B2
    obtain ⟨B1, B2⟩ := ah2 ha_u3 B1 B2
    obtain ⟨A, X⟩ := axa2 ha_u3 A X
    refine newC_t fun bk4 u4 hb4 ha_u4 _ B4 => ?_
    have g4 := le_eq A.size hb4
    obtain ⟨_, _, _⟩ := lt3 hb4 B1 B2 B3
    obtain ⟨B1, B2, B3⟩ := ah3 ha_u4 B1 B2 B3
    obtain ⟨A, X⟩ := axa2 ha_u4 A X
    refine st3_t B3 rfl rfl rfl rfl fun u5 k_u5 B3 => ?_
    obtain ⟨B1, B2, B4⟩ := up3 k_u5 B1 B2 B4
    obtain ⟨A, X⟩ := axu2 k_u5 g3 A X
    refine st3_t B4 rfl rfl rfl rfl fun u6 k_u6 B4 => ?_
    obtain ⟨B1, B2, B3⟩ := up3 k_u6 B1 B2 B3
    obtain ⟨A, X⟩ := axu2 k_u6 g4 A X
    refine br_map h (fun h_ => ?_) (fun h_ => ?_)
    ·clear h
     have h := h_
     clear h_
     replace h := h _ X A
     exact ⟨A, h⟩
    ·clear h
     have h := h_
     clear h_
     refine ldB_t 0 B3 rfl ?_
     refine ldS_t 1 B3 rfl ?_
     refine ldI_t 2 B3 rfl ?_
     refine ldB_t 0 B4 rfl ?_
     refine ldS_t 1 B4 rfl ?_
     refine ldI_t 2 B4 rfl ?_
     replace h := h _ X A
     refine Calls.mono h ?_
     clear h
     rintro e2 w5 ⟨x4, he_, ha_w5, h⟩
     refine ⟨x4, he_, ?_⟩
     clear he_
     obtain ⟨B1, B2, B3, B4⟩ := ah4 ha_w5 B1 B2 B3 B4
     obtain ⟨A, X⟩ := axa2 ha_w5 A X
     replace X : Ext w5 w5 := Ext.refl _
     exact ⟨A, h⟩

/-- surd/dyadic.sum: function 57, its local variables as values. -/
theorem dyadic_sum_v2 (a0_0 : Bool) (a0_1 : Slc) (a0_2 : Int) (a1_0 : Bool) (a1_1 : Slc) (a1_2 : Int) (w : World) (R : Ending → World → Prop)
    (K4 : Bool → Slc → Int → Bool → Slc → Int → Bool → Slc → Int → World → Prop) (K8 : Bool → Slc → Int → Bool → Slc → Int → Bool → Slc → Int → World → Prop) (K11 : Int → Bool → Slc → Int → Bool → Slc → Int → Bool → Slc → Int → World → Prop) (K12 : Int → Bool → Slc → Int → Bool → Slc → Int → Bool → Slc → Int → Bool → Slc → World → Prop)
    (h : ∀ w1, Ext w w1 → Ahead w w1 →
    (Calls Tryd.prog 64 #[Value.agg #[Value.bool a0_0, a0_1.v]] w1 fun e1 w2 =>
     ∃ x1 : Int, e1 = .returned (Value.int .i64 x1) ∧ Ahead w1 w2 ∧
     (br (x1 == 0)
      (∀ w34, Ext w2 w34 → Ahead w w34 →
       (K4 a1_0 a1_1 a1_2 a0_0 a0_1 a0_2 false (⟨none, 0, 0⟩ : Slc) 0 w34))
      (K4 a0_0 a0_1 a0_2 a1_0 a1_1 a1_2 false (⟨none, 0, 0⟩ : Slc) 0 w2))))
    (h3000004 : ∀ (t2_0 : Bool) (t2_1 : Slc) (t2_2 : Int) (t3_0 : Bool) (t3_1 : Slc) (t3_2 : Int) (t4_0 : Bool) (t4_1 : Slc) (t4_2 : Int) (w_ : World), Ahead w w_ → K4 t2_0 t2_1 t2_2 t3_0 t3_1 t3_2 t4_0 t4_1 t4_2 w_ → 
    Calls Tryd.prog 64 #[Value.agg #[Value.bool t3_0, t3_1.v]] w_ fun e2 w3 =>
    ∃ x2 : Int, e2 = .returned (Value.int .i64 x2) ∧ Ahead w_ w3 ∧
    (br (x2 == 0)
     (Calls Tryd.prog 42 #[Value.agg #[Value.bool t2_0, t2_1.v], Value.int .i64 t2_2] w3 fun e3 w4 =>
      ∃ b1 : Bool, ∃ s1 : Slc, ∃ x3 : Int, ∃ x4 : Int, e3 = .returned (Value.tuple #[Value.agg #[Value.bool b1, s1.v, Value.int .i64 x3], Value.int .i64 x4]) ∧ Ahead w3 w4 ∧
      (∀ w5, Ext w4 w5 → Ahead w w5 →
       (R (.returned (Value.tuple #[Value.agg #[Value.bool b1, s1.v, Value.int .i64 x3], Value.int .i64 x4])) w5)))
     (br (decide (t2_2 < t3_2))
      (∀ w33, Ext w3 w33 → Ahead w w33 →
       (K8 t3_0 t3_1 t3_2 t2_0 t2_1 t2_2 t4_0 t4_1 t4_2 w33))
      (K8 t2_0 t2_1 t2_2 t3_0 t3_1 t3_2 t4_0 t4_1 t4_2 w3))))
    (h3000008 : ∀ (t2_0 : Bool) (t2_1 : Slc) (t2_2 : Int) (t3_0 : Bool) (t3_1 : Slc) (t3_2 : Int) (t4_0 : Bool) (t4_1 : Slc) (t4_2 : Int) (w_ : World), Ahead w w_ → K8 t2_0 t2_1 t2_2 t3_0 t3_1 t3_2 t4_0 t4_1 t4_2 w_ → 
    br (decide ((IntKind.i64.wrap (t2_2 - t3_2)) > 0))
    (∀ w6, Ext w_ w6 → Ahead w w6 →
     (Calls Tryd.prog 78 #[Value.agg #[Value.bool t2_0, t2_1.v, Value.int .i64 t2_2]] w6 fun e4 w7 =>
      ∃ x5 : Int, e4 = .returned (Value.int .i64 x5) ∧ Ahead w6 w7 ∧
      (Calls Tryd.prog 78 #[Value.agg #[Value.bool t3_0, t3_1.v, Value.int .i64 t3_2]] w7 fun e5 w8 =>
       ∃ x6 : Int, e5 = .returned (Value.int .i64 x6) ∧ Ahead w7 w8 ∧
       (br (decide ((IntKind.i64.wrap ((maxI x5 (IntKind.i64.wrap (x6 + 1))) - t3_2)) > 67108866))
        (∀ w9, Ext w8 w9 → Ahead w w9 →
         (R (.returned (Value.tuple #[Value.agg #[Value.bool (false), ((⟨none, 0, 0⟩ : Slc)).v, Value.int .i64 (0 : Int)], Value.int .i64 3])) w9))
        (K11 (IntKind.i64.wrap (t2_2 - t3_2)) t2_0 t2_1 t2_2 t3_0 t3_1 t3_2 t4_0 t4_1 t4_2 w8)))))
    (∀ w32, Ext w_ w32 → Ahead w w32 →
     (K11 (IntKind.i64.wrap (t2_2 - t3_2)) t2_0 t2_1 t2_2 t3_0 t3_1 t3_2 t4_0 t4_1 t4_2 w32)))
    (h3000011 : ∀ (t6 : Int) (t2_0 : Bool) (t2_1 : Slc) (t2_2 : Int) (t3_0 : Bool) (t3_1 : Slc) (t3_2 : Int) (t4_0 : Bool) (t4_1 : Slc) (t4_2 : Int) (w_ : World), Ahead w w_ → K11 t6 t2_0 t2_1 t2_2 t3_0 t3_1 t3_2 t4_0 t4_1 t4_2 w_ → 
    ∀ w10, Ext w_ w10 → Ahead w w10 →
    (Calls Tryd.prog 80 #[t2_1.v, Value.int .i64 t6] w10 fun e6 w11 =>
     ∃ s2 : Slc, e6 = .returned s2.v ∧ Ahead w10 w11 ∧
     (∀ w12, Ext w11 w12 → Ahead w w12 →
      (Calls Tryd.prog 79 #[Value.bool t2_0, s2.v] w12 fun e7 w13 =>
       ∃ b2 : Bool, ∃ s3 : Slc, ∃ x7 : Int, e7 = .returned (Value.tuple #[Value.agg #[Value.bool b2, s3.v], Value.int .i64 x7]) ∧ Ahead w12 w13 ∧
       (∀ w23, Ext w13 w23 → Ahead w w23 →
        (K12 x7 t2_0 t2_1 t2_2 t3_0 t3_1 t3_2 t4_0 t4_1 t4_2 b2 s3 w23))))))
    (h3000012 : ∀ (t8 : Int) (t2_0 : Bool) (t2_1 : Slc) (t2_2 : Int) (t3_0 : Bool) (t3_1 : Slc) (t3_2 : Int) (t4_0 : Bool) (t4_1 : Slc) (t4_2 : Int) (t7_0 : Bool) (t7_1 : Slc) (w_ : World), Ahead w w_ → K12 t8 t2_0 t2_1 t2_2 t3_0 t3_1 t3_2 t4_0 t4_1 t4_2 t7_0 t7_1 w_ → 
    br (t8 != 0)
    (Calls Tryd.prog 81 #[Value.agg #[Value.bool t2_0, t2_1.v, Value.int .i64 t2_2], Value.agg #[Value.bool t3_0, t3_1.v, Value.int .i64 t3_2]] w_ fun e8 w14 =>
     ∃ b3 : Bool, ∃ s4 : Slc, ∃ x8 : Int, ∃ x9 : Int, e8 = .returned (Value.tuple #[Value.agg #[Value.bool b3, s4.v, Value.int .i64 x8], Value.int .i64 x9]) ∧ Ahead w_ w14 ∧
     (∀ w15, Ext w14 w15 → Ahead w w15 →
      (R (.returned (Value.tuple #[Value.agg #[Value.bool b3, s4.v, Value.int .i64 x8], Value.int .i64 x9])) w15)))
    (Calls Tryd.prog 82 #[Value.agg #[Value.bool t7_0, t7_1.v], Value.agg #[Value.bool t3_0, t3_1.v]] w_ fun e9 w16 =>
     ∃ b4 : Bool, ∃ s5 : Slc, ∃ x10 : Int, e9 = .returned (Value.tuple #[Value.agg #[Value.bool b4, s5.v], Value.int .i64 x10]) ∧ Ahead w_ w16 ∧
     (br (x10 != 0)
      (∀ w17, Ext w16 w17 → Ahead w w17 →
       (Calls Tryd.prog 81 #[Value.agg #[Value.bool t2_0, t2_1.v, Value.int .i64 t2_2], Value.agg #[Value.bool t3_0, t3_1.v, Value.int .i64 t3_2]] w17 fun e10 w18 =>
        ∃ b5 : Bool, ∃ s6 : Slc, ∃ x11 : Int, ∃ x12 : Int, e10 = .returned (Value.tuple #[Value.agg #[Value.bool b5, s6.v, Value.int .i64 x11], Value.int .i64 x12]) ∧ Ahead w17 w18 ∧
        (∀ w19, Ext w18 w19 → Ahead w w19 →
         (R (.returned (Value.tuple #[Value.agg #[Value.bool b5, s6.v, Value.int .i64 x11], Value.int .i64 x12])) w19))))
      (∀ w20, Ext w16 w20 → Ahead w w20 →
       (Calls Tryd.prog 42 #[Value.agg #[Value.bool b4, s5.v], Value.int .i64 t3_2] w20 fun e11 w21 =>
        ∃ b6 : Bool, ∃ s7 : Slc, ∃ x13 : Int, ∃ x14 : Int, e11 = .returned (Value.tuple #[Value.agg #[Value.bool b6, s7.v, Value.int .i64 x13], Value.int .i64 x14]) ∧ Ahead w20 w21 ∧
        (∀ w22, Ext w21 w22 → Ahead w w22 →
         (R (.returned (Value.tuple #[Value.agg #[Value.bool b6, s7.v, Value.int .i64 x13], Value.int .i64 x14])) w22))))))) :
    Calls Tryd.prog 57 #[Value.agg #[Value.bool a0_0, a0_1.v, Value.int .i64 a0_2], Value.agg #[Value.bool a1_0, a1_1.v, Value.int .i64 a1_2]] w (fun e_ w_ => Ahead w w_ ∧ R e_ w_) := by
  refine dyadic_sum_vc a0_0 a0_1 a0_2 a1_0 a1_1 a1_2 w _ (fun t2 t3 t4 w_ => ∃ c2_ : Nat, ∃ c3_ : Nat, ∃ c4_ : Nat, ∃ t2_0 : Bool, ∃ t2_1 : Slc, ∃ t2_2 : Int, ∃ t3_0 : Bool, ∃ t3_1 : Slc, ∃ t3_2 : Int, ∃ t4_0 : Bool, ∃ t4_1 : Slc, ∃ t4_2 : Int, t2 = ⟨c2_, 0, none⟩ ∧ Blt w_ c2_ 76 #[Value.bool t2_0, t2_1.v, Value.int .i64 t2_2] ∧ w.heap.size ≤ c2_ ∧ t3 = ⟨c3_, 0, none⟩ ∧ Blt w_ c3_ 76 #[Value.bool t3_0, t3_1.v, Value.int .i64 t3_2] ∧ w.heap.size ≤ c3_ ∧ t4 = ⟨c4_, 0, none⟩ ∧ Blt w_ c4_ 39 #[Value.bool t4_0, t4_1.v, Value.int .i64 t4_2] ∧ w.heap.size ≤ c4_ ∧ c2_ ≠ c3_ ∧ c2_ ≠ c4_ ∧ c3_ ≠ c4_ ∧ Ahead w w_ ∧ K4 t2_0 t2_1 t2_2 t3_0 t3_1 t3_2 t4_0 t4_1 t4_2 w_) (fun t2 t3 t4 w_ => ∃ c2_ : Nat, ∃ c3_ : Nat, ∃ c4_ : Nat, ∃ t2_0 : Bool, ∃ t2_1 : Slc, ∃ t2_2 : Int, ∃ t3_0 : Bool, ∃ t3_1 : Slc, ∃ t3_2 : Int, ∃ t4_0 : Bool, ∃ t4_1 : Slc, ∃ t4_2 : Int, t2 = ⟨c2_, 0, none⟩ ∧ Blt w_ c2_ 76 #[Value.bool t2_0, t2_1.v, Value.int .i64 t2_2] ∧ w.heap.size ≤ c2_ ∧ t3 = ⟨c3_, 0, none⟩ ∧ Blt w_ c3_ 76 #[Value.bool t3_0, t3_1.v, Value.int .i64 t3_2] ∧ w.heap.size ≤ c3_ ∧ t4 = ⟨c4_, 0, none⟩ ∧ Blt w_ c4_ 39 #[Value.bool t4_0, t4_1.v, Value.int .i64 t4_2] ∧ w.heap.size ≤ c4_ ∧ c2_ ≠ c3_ ∧ c2_ ≠ c4_ ∧ c3_ ≠ c4_ ∧ Ahead w w_ ∧ K8 t2_0 t2_1 t2_2 t3_0 t3_1 t3_2 t4_0 t4_1 t4_2 w_) (fun t2 t3 t4 t6 w_ => ∃ c2_ : Nat, ∃ c3_ : Nat, ∃ c4_ : Nat, ∃ t2_0 : Bool, ∃ t2_1 : Slc, ∃ t2_2 : Int, ∃ t3_0 : Bool, ∃ t3_1 : Slc, ∃ t3_2 : Int, ∃ t4_0 : Bool, ∃ t4_1 : Slc, ∃ t4_2 : Int, t2 = ⟨c2_, 0, none⟩ ∧ Blt w_ c2_ 76 #[Value.bool t2_0, t2_1.v, Value.int .i64 t2_2] ∧ w.heap.size ≤ c2_ ∧ t3 = ⟨c3_, 0, none⟩ ∧ Blt w_ c3_ 76 #[Value.bool t3_0, t3_1.v, Value.int .i64 t3_2] ∧ w.heap.size ≤ c3_ ∧ t4 = ⟨c4_, 0, none⟩ ∧ Blt w_ c4_ 39 #[Value.bool t4_0, t4_1.v, Value.int .i64 t4_2] ∧ w.heap.size ≤ c4_ ∧ c2_ ≠ c3_ ∧ c2_ ≠ c4_ ∧ c3_ ≠ c4_ ∧ Ahead w w_ ∧ K11 t6 t2_0 t2_1 t2_2 t3_0 t3_1 t3_2 t4_0 t4_1 t4_2 w_) (fun t2 t3 t4 t7 t8 w_ => ∃ c2_ : Nat, ∃ c3_ : Nat, ∃ c4_ : Nat, ∃ c7_ : Nat, ∃ t2_0 : Bool, ∃ t2_1 : Slc, ∃ t2_2 : Int, ∃ t3_0 : Bool, ∃ t3_1 : Slc, ∃ t3_2 : Int, ∃ t4_0 : Bool, ∃ t4_1 : Slc, ∃ t4_2 : Int, ∃ t7_0 : Bool, ∃ t7_1 : Slc, t2 = ⟨c2_, 0, none⟩ ∧ Blt w_ c2_ 76 #[Value.bool t2_0, t2_1.v, Value.int .i64 t2_2] ∧ w.heap.size ≤ c2_ ∧ t3 = ⟨c3_, 0, none⟩ ∧ Blt w_ c3_ 76 #[Value.bool t3_0, t3_1.v, Value.int .i64 t3_2] ∧ w.heap.size ≤ c3_ ∧ t4 = ⟨c4_, 0, none⟩ ∧ Blt w_ c4_ 39 #[Value.bool t4_0, t4_1.v, Value.int .i64 t4_2] ∧ w.heap.size ≤ c4_ ∧ t7 = ⟨c7_, 0, none⟩ ∧ Blt w_ c7_ 37 #[Value.bool t7_0, t7_1.v] ∧ w.heap.size ≤ c7_ ∧ c2_ ≠ c3_ ∧ c2_ ≠ c4_ ∧ c2_ ≠ c7_ ∧ c3_ ≠ c4_ ∧ c3_ ≠ c7_ ∧ c4_ ≠ c7_ ∧ Ahead w w_ ∧ K12 t8 t2_0 t2_1 t2_2 t3_0 t3_1 t3_2 t4_0 t4_1 t4_2 t7_0 t7_1 w_) ?_ ?_ ?_ ?_ ?_
  · have A : Ahead w w := Ahead.refl w
    have X : Ext w w := Ext.refl w
    refine newC_t fun bk1 u1 hb1 ha_u1 _ B1 => ?_
    have g1 := le_eq A.size hb1
    obtain ⟨A, X⟩ := axa2 ha_u1 A X
    refine newC_t fun bk2 u2 hb2 ha_u2 _ B2 => ?_
    have g2 := le_eq A.size hb2
    have l1_2 := lt1 hb2 B1
    replace B1 := B1.ahead ha_u2
    obtain ⟨A, X⟩ := axa2 ha_u2 A X
    refine newC_t fun bk3 u3 hb3 ha_u3 _ B3 => ?_
    have g3 := le_eq A.size hb3
    obtain ⟨_, _⟩ := lt2 hb3 B1 B2
    obtain ⟨B1, B2⟩ := ah2 ha_u3 B1 B2
    obtain ⟨A, X⟩ := axa2 ha_u3 A X
    refine ldB_t 0 B1 rfl ?_
    refine ldS_t 1 B1 rfl ?_
    replace h := h _ X A
    refine Calls.mono h ?_
    clear h
    rintro e1 w2 ⟨x1, he_, ha_w2, h⟩
    refine ⟨x1, he_, ?_⟩
    clear he_
    obtain ⟨B1, B2, B3⟩ := ah3 ha_w2 B1 B2 B3
    obtain ⟨A, X⟩ := axa2 ha_w2 A X
    replace X : Ext w2 w2 := Ext.refl _
    refine br_map h (fun h_ => ?_) (fun h_ => ?_)
    ·clear h
     have h := h_
     clear h_
     refine ldB_t 0 B2 rfl ?_
     refine ldS_t 1 B2 rfl ?_
     refine ldI_t 2 B2 rfl ?_
     refine ldB_t 0 B1 rfl ?_
     refine ldS_t 1 B1 rfl ?_
     refine ldI_t 2 B1 rfl ?_
     refine st3_t B1 rfl rfl rfl rfl fun u4 k_u4 B1 => ?_
     obtain ⟨B2, B3⟩ := up2 k_u4 B2 B3
     obtain ⟨A, X⟩ := axu2 k_u4 g1 A X
     refine st3_t B2 rfl rfl rfl rfl fun u5 k_u5 B2 => ?_
     obtain ⟨B1, B3⟩ := up2 k_u5 B1 B3
     obtain ⟨A, X⟩ := axu2 k_u5 g2 A X
     replace h := h _ X A
     exact ⟨bk1, bk2, bk3, a1_0, a1_1, a1_2, a0_0, a0_1, a0_2, false, (⟨none, 0, 0⟩ : Slc), 0, rfl, B1, g1, rfl, B2, g2, rfl, B3, g3, (by omega), (by omega), (by omega), A, h⟩
    ·clear h
     have h := h_
     clear h_
     exact ⟨bk1, bk2, bk3, a0_0, a0_1, a0_2, a1_0, a1_1, a1_2, false, (⟨none, 0, 0⟩ : Slc), 0, rfl, B1, g1, rfl, B2, g2, rfl, B3, g3, (by omega), (by omega), (by omega), A, h⟩
  · clear h
    rintro t2 t3 t4 w_ ⟨bk1, bk2, bk3, t2_0, t2_1, t2_2, t3_0, t3_1, t3_2, t4_0, t4_1, t4_2, rfl, B1, g1, rfl, B2, g2, rfl, B3, g3, n1_2, n1_3, n2_3, A, hJ3000004⟩
    have h := h3000004  t2_0 t2_1 t2_2 t3_0 t3_1 t3_2 t4_0 t4_1 t4_2 w_ A hJ3000004
    have X : Ext w_ w_ := Ext.refl _
    refine ldB_t 0 B2 rfl ?_
    refine ldS_t 1 B2 rfl ?_
    refine Calls.mono h ?_
    clear h
    rintro e2 w3 ⟨x2, he_, ha_w3, h⟩
    refine ⟨x2, he_, ?_⟩
    clear he_
    obtain ⟨B1, B2, B3⟩ := ah3 ha_w3 B1 B2 B3
    obtain ⟨A, X⟩ := axa2 ha_w3 A X
    replace X : Ext w3 w3 := Ext.refl _
    refine br_map h (fun h_ => ?_) (fun h_ => ?_)
    ·clear h
     have h := h_
     clear h_
     refine ldB_t 0 B1 rfl ?_
     refine ldS_t 1 B1 rfl ?_
     refine ldI_t 2 B1 rfl ?_
     refine Calls.mono h ?_
     clear h
     rintro e3 w4 ⟨b1, s1, x3, x4, he_, ha_w4, h⟩
     refine ⟨b1, s1, x3, x4, he_, ?_⟩
     clear he_
     obtain ⟨B1, B2, B3⟩ := ah3 ha_w4 B1 B2 B3
     obtain ⟨A, X⟩ := axa2 ha_w4 A X
     replace X : Ext w4 w4 := Ext.refl _
     refine st3_t B3 rfl rfl rfl rfl fun u6 k_u6 B3 => ?_
     obtain ⟨B1, B2⟩ := up2 k_u6 B1 B2
     obtain ⟨A, X⟩ := axu2 k_u6 g3 A X
     refine ldB_t 0 B3 rfl ?_
     refine ldS_t 1 B3 rfl ?_
     refine ldI_t 2 B3 rfl ?_
     replace h := h _ X A
     exact ⟨A, h⟩
    ·clear h
     have h := h_
     clear h_
     refine ldI_t 2 B1 rfl ?_
     refine ldI_t 2 B2 rfl ?_
     refine br_map h (fun h_ => ?_) (fun h_ => ?_)
     ·clear h
      have h := h_
      clear h_
      refine ldB_t 0 B2 rfl ?_
      refine ldS_t 1 B2 rfl ?_
      refine ldI_t 2 B2 rfl ?_
      refine ldB_t 0 B1 rfl ?_
      refine ldS_t 1 B1 rfl ?_
      refine ldI_t 2 B1 rfl ?_
      refine st3_t B1 rfl rfl rfl rfl fun u7 k_u7 B1 => ?_
      obtain ⟨B2, B3⟩ := up2 k_u7 B2 B3
      obtain ⟨A, X⟩ := axu2 k_u7 g1 A X
      refine st3_t B2 rfl rfl rfl rfl fun u8 k_u8 B2 => ?_
      obtain ⟨B1, B3⟩ := up2 k_u8 B1 B3
      obtain ⟨A, X⟩ := axu2 k_u8 g2 A X
      replace h := h _ X A
      exact ⟨bk1, bk2, bk3, t3_0, t3_1, t3_2, t2_0, t2_1, t2_2, t4_0, t4_1, t4_2, rfl, B1, g1, rfl, B2, g2, rfl, B3, g3, (by omega), (by omega), (by omega), A, h⟩
     ·clear h
      have h := h_
      clear h_
      exact ⟨bk1, bk2, bk3, t2_0, t2_1, t2_2, t3_0, t3_1, t3_2, t4_0, t4_1, t4_2, rfl, B1, g1, rfl, B2, g2, rfl, B3, g3, (by omega), (by omega), (by omega), A, h⟩
  · clear h
    rintro t2 t3 t4 w_ ⟨bk1, bk2, bk3, t2_0, t2_1, t2_2, t3_0, t3_1, t3_2, t4_0, t4_1, t4_2, rfl, B1, g1, rfl, B2, g2, rfl, B3, g3, n1_2, n1_3, n2_3, A, hJ3000008⟩
    have h := h3000008  t2_0 t2_1 t2_2 t3_0 t3_1 t3_2 t4_0 t4_1 t4_2 w_ A hJ3000008
    have X : Ext w_ w_ := Ext.refl _
    refine ldI_t 2 B1 rfl ?_
    refine ldI_t 2 B2 rfl ?_
    have hd_ := Sp.Ahead.drew w_
    obtain ⟨B1, B2, B3⟩ := ah3 hd_ B1 B2 B3
    obtain ⟨A, X⟩ := axa2 hd_ A X
    clear hd_
    refine br_map h (fun h_ => ?_) (fun h_ => ?_)
    ·clear h
     have h := h_
     clear h_
     refine ldB_t 0 B1 rfl ?_
     refine ldS_t 1 B1 rfl ?_
     refine ldI_t 2 B1 rfl ?_
     refine ldB_t 0 B2 rfl ?_
     refine ldS_t 1 B2 rfl ?_
     refine ldI_t 2 B2 rfl ?_
     refine ldI_t 2 B2 rfl ?_
     replace h := h _ X A
     refine Calls.mono h ?_
     clear h
     rintro e4 w7 ⟨x5, he_, ha_w7, h⟩
     refine ⟨x5, he_, ?_⟩
     clear he_
     obtain ⟨B1, B2, B3⟩ := ah3 ha_w7 B1 B2 B3
     obtain ⟨A, X⟩ := axa2 ha_w7 A X
     replace X : Ext w7 w7 := Ext.refl _
     refine ⟨ha_w7, ?_⟩
     refine Calls.mono h ?_
     clear h
     rintro e5 w8 ⟨x6, he_, ha_w8, h⟩
     refine ⟨x6, he_, ?_⟩
     clear he_
     obtain ⟨B1, B2, B3⟩ := ah3 ha_w8 B1 B2 B3
     obtain ⟨A, X⟩ := axa2 ha_w8 A X
     replace X : Ext w8 w8 := Ext.refl _
     refine ⟨ha_w8, ?_⟩
     refine br_map h (fun h_ => ?_) (fun h_ => ?_)
     ·clear h
      have h := h_
      clear h_
      refine st3_t B3 rfl rfl rfl rfl fun u9 k_u9 B3 => ?_
      obtain ⟨B1, B2⟩ := up2 k_u9 B1 B2
      obtain ⟨A, X⟩ := axu2 k_u9 g3 A X
      refine ldB_t 0 B3 rfl ?_
      refine ldS_t 1 B3 rfl ?_
      refine ldI_t 2 B3 rfl ?_
      replace h := h _ X A
      exact ⟨A, h⟩
     ·clear h
      have h := h_
      clear h_
      exact ⟨bk1, bk2, bk3, t2_0, t2_1, t2_2, t3_0, t3_1, t3_2, t4_0, t4_1, t4_2, rfl, B1, g1, rfl, B2, g2, rfl, B3, g3, (by omega), (by omega), (by omega), A, h⟩
    ·clear h
     have h := h_
     clear h_
     replace h := h _ X A
     exact ⟨bk1, bk2, bk3, t2_0, t2_1, t2_2, t3_0, t3_1, t3_2, t4_0, t4_1, t4_2, rfl, B1, g1, rfl, B2, g2, rfl, B3, g3, (by omega), (by omega), (by omega), A, h⟩
  · clear h
    rintro t2 t3 t4 t6 w_ ⟨bk1, bk2, bk3, t2_0, t2_1, t2_2, t3_0, t3_1, t3_2, t4_0, t4_1, t4_2, rfl, B1, g1, rfl, B2, g2, rfl, B3, g3, n1_2, n1_3, n2_3, A, hJ3000011⟩
    have h := h3000011  t6 t2_0 t2_1 t2_2 t3_0 t3_1 t3_2 t4_0 t4_1 t4_2 w_ A hJ3000011
    have X : Ext w_ w_ := Ext.refl _
    have hd_ := Sp.Ahead.drew w_
    obtain ⟨B1, B2, B3⟩ := ah3 hd_ B1 B2 B3
    obtain ⟨A, X⟩ := axa2 hd_ A X
    clear hd_
    have z1 := B1.lt
    have z2 := B2.lt
    have z3 := B3.lt
    let V_ : Nat → Nat → Prop := fun (q_ k : Nat) => (k < 0 ∨ w_.drew.heap.size ≤ k) ∧ 0 ≤ k
    refine ⟨V_, ?_⟩
    have Y_ : w_.drew.heap.size ≤ w_.drew.heap.size := Nat.le_refl _
    refine out_t (b := bk1) (i := 0) (by first | rfl | exact Sp.add_off) (fun hv_ => (by replace hv_ : _ ∧ _ := hv_; omega)) ?_
    refine ldB_t 0 B1 rfl ?_
    refine out_t (b := bk1) (i := 1) (by first | rfl | exact Sp.add_off) (fun hv_ => (by replace hv_ : _ ∧ _ := hv_; omega)) ?_
    refine ldS_t 1 B1 rfl ?_
    refine ⟨?_, ?_⟩
    ·replace h := h _ X A
     refine Calls.mono h ?_
     clear h
     rintro e6 w11 ⟨s2, he_, ha_w11, h⟩
     refine ⟨s2, he_, ?_⟩
     clear he_
     obtain ⟨B1, B2, B3⟩ := ah3 ha_w11 B1 B2 B3
     obtain ⟨A, X, Y_⟩ := axa3 ha_w11 A X Y_
     replace X : Ext w11 w11 := Ext.refl _
     refine ⟨(Bar.of_ahead ha_w11), ?_⟩
     refine ⟨?_, ?_⟩
     ·replace h := h _ X A
      refine Calls.mono h ?_
      clear h
      rintro e7 w13 ⟨b2, s3, x7, he_, ha_w13, h⟩
      refine ⟨b2, s3, x7, he_, ?_⟩
      clear he_
      obtain ⟨B1, B2, B3⟩ := ah3 ha_w13 B1 B2 B3
      obtain ⟨A, X, Y_⟩ := axa3 ha_w13 A X Y_
      replace X : Ext w13 w13 := Ext.refl _
      refine newC_t fun bk4 u10 hb4 ha_u10 _ B4 => ?_
      have g4 := le_eq A.size hb4
      obtain ⟨_, _, _⟩ := lt3 hb4 B1 B2 B3
      have y4 := le_eq Y_ hb4
      obtain ⟨B1, B2, B3⟩ := ah3 ha_u10 B1 B2 B3
      obtain ⟨A, X, Y_⟩ := axa3 ha_u10 A X Y_
      refine bb2 ha_u10 ?_
      refine st2_t B4 rfl rfl rfl fun u11 k_u11 B4 => ?_
      obtain ⟨B1, B2, B3⟩ := up3 k_u11 B1 B2 B3
      obtain ⟨A, X, Y_⟩ := axu3 k_u11 g4 A X Y_
      replace h := h _ X A
      refine ⟨bk1, bk2, bk3, bk4, t2_0, t2_1, t2_2, t3_0, t3_1, t3_2, t4_0, t4_1, t4_2, b2, s3, rfl, B1, g1, rfl, B2, g2, rfl, B3, g3, rfl, B4, g4, ?_⟩
      iterate 6 refine nd ?_
      exact ⟨A, h⟩
     ·refine newC_t fun bk6 u17 hb6 ha_u17 _ B6 => ?_
      have g6 := le_eq A.size hb6
      obtain ⟨_, _, _⟩ := lt3 hb6 B1 B2 B3
      have y6 := le_eq Y_ hb6
      obtain ⟨B1, B2, B3⟩ := ah3 ha_u17 B1 B2 B3
      obtain ⟨A, X, Y_⟩ := axa3 ha_u17 A X Y_
      refine bb2 ha_u17 ?_
      replace h := h _ X A
      refine Calls.mono h ?_
      clear h
      rintro e12 w25 ⟨b7, s8, x15, he_, ha_w25, h⟩
      refine ⟨b7, s8, x15, he_, ?_⟩
      clear he_
      obtain ⟨B1, B2, B3, B6⟩ := ah4 ha_w25 B1 B2 B3 B6
      obtain ⟨A, X, Y_⟩ := axa3 ha_w25 A X Y_
      replace X : Ext w25 w25 := Ext.refl _
      refine st2_t B6 rfl rfl rfl fun u18 k_u18 B6 => ?_
      obtain ⟨B1, B2, B3⟩ := up3 k_u18 B1 B2 B3
      obtain ⟨A, X, Y_⟩ := axu3 k_u18 g6 A X Y_
      replace h := h _ X A
      refine ⟨bk1, bk2, bk3, bk6, t2_0, t2_1, t2_2, t3_0, t3_1, t3_2, t4_0, t4_1, t4_2, b7, s8, rfl, B1, g1, rfl, B2, g2, rfl, B3, g3, rfl, B6, g6, ?_⟩
      iterate 6 refine nd ?_
      exact ⟨A, h⟩
    ·refine newC_t fun bk7 u19 hb7 ha_u19 _ B7 => ?_
     have g7 := le_eq A.size hb7
     obtain ⟨_, _, _⟩ := lt3 hb7 B1 B2 B3
     have y7 := le_eq Y_ hb7
     obtain ⟨B1, B2, B3⟩ := ah3 ha_u19 B1 B2 B3
     obtain ⟨A, X, Y_⟩ := axa3 ha_u19 A X Y_
     refine bb2 ha_u19 ?_
     replace h := h _ X A
     refine Calls.mono h ?_
     clear h
     rintro e13 w28 ⟨s9, he_, ha_w28, h⟩
     refine ⟨s9, he_, ?_⟩
     clear he_
     obtain ⟨B1, B2, B3, B7⟩ := ah4 ha_w28 B1 B2 B3 B7
     obtain ⟨A, X, Y_⟩ := axa3 ha_w28 A X Y_
     replace X : Ext w28 w28 := Ext.refl _
     refine ⟨(Bar.of_ahead ha_w28), ?_⟩
     replace h := h _ X A
     refine Calls.mono h ?_
     clear h
     rintro e14 w30 ⟨b8, s10, x16, he_, ha_w30, h⟩
     refine ⟨b8, s10, x16, he_, ?_⟩
     clear he_
     obtain ⟨B1, B2, B3, B7⟩ := ah4 ha_w30 B1 B2 B3 B7
     obtain ⟨A, X, Y_⟩ := axa3 ha_w30 A X Y_
     replace X : Ext w30 w30 := Ext.refl _
     refine st2_t B7 rfl rfl rfl fun u20 k_u20 B7 => ?_
     obtain ⟨B1, B2, B3⟩ := up3 k_u20 B1 B2 B3
     obtain ⟨A, X, Y_⟩ := axu3 k_u20 g7 A X Y_
     replace h := h _ X A
     refine ⟨bk1, bk2, bk3, bk7, t2_0, t2_1, t2_2, t3_0, t3_1, t3_2, t4_0, t4_1, t4_2, b8, s10, rfl, B1, g1, rfl, B2, g2, rfl, B3, g3, rfl, B7, g7, ?_⟩
     iterate 6 refine nd ?_
     exact ⟨A, h⟩
  · clear h
    rintro t2 t3 t4 t7 t8 w_ ⟨bk1, bk2, bk3, bk4, t2_0, t2_1, t2_2, t3_0, t3_1, t3_2, t4_0, t4_1, t4_2, t7_0, t7_1, rfl, B1, g1, rfl, B2, g2, rfl, B3, g3, rfl, B4, g4, n1_2, n1_3, n1_4, n2_3, n2_4, n3_4, A, hJ3000012⟩
    have h := h3000012  t8 t2_0 t2_1 t2_2 t3_0 t3_1 t3_2 t4_0 t4_1 t4_2 t7_0 t7_1 w_ A hJ3000012
    have X : Ext w_ w_ := Ext.refl _
    refine br_map h (fun h_ => ?_) (fun h_ => ?_)
    ·clear h
     have h := h_
     clear h_
     refine ldB_t 0 B1 rfl ?_
     refine ldS_t 1 B1 rfl ?_
     refine ldI_t 2 B1 rfl ?_
     refine ldB_t 0 B2 rfl ?_
     refine ldS_t 1 B2 rfl ?_
     refine ldI_t 2 B2 rfl ?_
     refine Calls.mono h ?_
     clear h
     rintro e8 w14 ⟨b3, s4, x8, x9, he_, ha_w14, h⟩
     refine ⟨b3, s4, x8, x9, he_, ?_⟩
     clear he_
     obtain ⟨B1, B2, B3, B4⟩ := ah4 ha_w14 B1 B2 B3 B4
     obtain ⟨A, X⟩ := axa2 ha_w14 A X
     replace X : Ext w14 w14 := Ext.refl _
     refine st3_t B3 rfl rfl rfl rfl fun u12 k_u12 B3 => ?_
     obtain ⟨B1, B2, B4⟩ := up3 k_u12 B1 B2 B4
     obtain ⟨A, X⟩ := axu2 k_u12 g3 A X
     refine ldB_t 0 B3 rfl ?_
     refine ldS_t 1 B3 rfl ?_
     refine ldI_t 2 B3 rfl ?_
     replace h := h _ X A
     exact ⟨A, h⟩
    ·clear h
     have h := h_
     clear h_
     refine ldB_t 0 B4 rfl ?_
     refine ldS_t 1 B4 rfl ?_
     refine ldB_t 0 B2 rfl ?_
     refine ldS_t 1 B2 rfl ?_
     refine Calls.mono h ?_
     clear h
     rintro e9 w16 ⟨b4, s5, x10, he_, ha_w16, h⟩
     refine ⟨b4, s5, x10, he_, ?_⟩
     clear he_
     obtain ⟨B1, B2, B3, B4⟩ := ah4 ha_w16 B1 B2 B3 B4
     obtain ⟨A, X⟩ := axa2 ha_w16 A X
     replace X : Ext w16 w16 := Ext.refl _
     refine newC_t fun bk5 u13 hb5 ha_u13 _ B5 => ?_
     have g5 := le_eq A.size hb5
     obtain ⟨_, _, _, _⟩ := lt4 hb5 B1 B2 B3 B4
     obtain ⟨B1, B2, B3, B4⟩ := ah4 ha_u13 B1 B2 B3 B4
     obtain ⟨A, X⟩ := axa2 ha_u13 A X
     refine st2_t B5 rfl rfl rfl fun u14 k_u14 B5 => ?_
     obtain ⟨B1, B2, B3, B4⟩ := up4 k_u14 B1 B2 B3 B4
     obtain ⟨A, X⟩ := axu2 k_u14 g5 A X
     refine br_map h (fun h_ => ?_) (fun h_ => ?_)
     ·clear h
      have h := h_
      clear h_
      refine ldB_t 0 B1 rfl ?_
      refine ldS_t 1 B1 rfl ?_
      refine ldI_t 2 B1 rfl ?_
      refine ldB_t 0 B2 rfl ?_
      refine ldS_t 1 B2 rfl ?_
      refine ldI_t 2 B2 rfl ?_
      replace h := h _ X A
      refine Calls.mono h ?_
      clear h
      rintro e10 w18 ⟨b5, s6, x11, x12, he_, ha_w18, h⟩
      refine ⟨b5, s6, x11, x12, he_, ?_⟩
      clear he_
      obtain ⟨B1, B2, B3, B4, B5⟩ := ah5 ha_w18 B1 B2 B3 B4 B5
      obtain ⟨A, X⟩ := axa2 ha_w18 A X
      replace X : Ext w18 w18 := Ext.refl _
      refine st3_t B3 rfl rfl rfl rfl fun u15 k_u15 B3 => ?_
      obtain ⟨B1, B2, B4, B5⟩ := up4 k_u15 B1 B2 B4 B5
      obtain ⟨A, X⟩ := axu2 k_u15 g3 A X
      refine ldB_t 0 B3 rfl ?_
      refine ldS_t 1 B3 rfl ?_
      refine ldI_t 2 B3 rfl ?_
      replace h := h _ X A
      exact ⟨A, h⟩
     ·clear h
      have h := h_
      clear h_
      refine ldB_t 0 B5 rfl ?_
      refine ldS_t 1 B5 rfl ?_
      refine ldI_t 2 B2 rfl ?_
      replace h := h _ X A
      refine Calls.mono h ?_
      clear h
      rintro e11 w21 ⟨b6, s7, x13, x14, he_, ha_w21, h⟩
      refine ⟨b6, s7, x13, x14, he_, ?_⟩
      clear he_
      obtain ⟨B1, B2, B3, B4, B5⟩ := ah5 ha_w21 B1 B2 B3 B4 B5
      obtain ⟨A, X⟩ := axa2 ha_w21 A X
      replace X : Ext w21 w21 := Ext.refl _
      refine st3_t B3 rfl rfl rfl rfl fun u16 k_u16 B3 => ?_
      obtain ⟨B1, B2, B4, B5⟩ := up4 k_u16 B1 B2 B4 B5
      obtain ⟨A, X⟩ := axu2 k_u16 g3 A X
      refine ldB_t 0 B3 rfl ?_
      refine ldS_t 1 B3 rfl ?_
      refine ldI_t 2 B3 rfl ?_
      replace h := h _ X A
      exact ⟨A, h⟩

/-- surd/whole.Add: function 82, its local variables as values. -/
theorem whole_Add_v2 (a0_a_0 : Bool) (a0_a_1 : Slc) (a1_b_0 : Bool) (a1_b_1 : Slc) (w : World) (R : Ending → World → Prop)
    
    (h : ∀ w1, Ext w w1 → Ahead w w1 →
    (Calls Tryd.prog 101 #[Value.agg #[Value.bool a0_a_0, a0_a_1.v]] w1 fun e1 w2 =>
     ∃ b1 : Bool, ∃ s1 : Slc, e1 = .returned (Value.agg #[Value.bool b1, s1.v]) ∧ Ahead w1 w2 ∧
     (Calls Tryd.prog 101 #[Value.agg #[Value.bool a1_b_0, a1_b_1.v]] w2 fun e2 w3 =>
      ∃ b2 : Bool, ∃ s2 : Slc, e2 = .returned (Value.agg #[Value.bool b2, s2.v]) ∧ Ahead w2 w3 ∧
      (br (b1 == b2)
       (∀ w4, Ext w3 w4 → Ahead w w4 →
        (Calls Tryd.prog 102 #[s1.v, s2.v] w4 fun e3 w5 =>
         ∃ s3 : Slc, ∃ x1 : Int, e3 = .returned (Value.tuple #[s3.v, Value.int .i64 x1]) ∧ Ahead w4 w5 ∧
         (Calls Tryd.prog 67 #[Value.bool b1, s3.v, Value.int .i64 x1] w5 fun e4 w6 =>
          ∃ b3 : Bool, ∃ s4 : Slc, ∃ x2 : Int, e4 = .returned (Value.tuple #[Value.agg #[Value.bool b3, s4.v], Value.int .i64 x2]) ∧ Ahead w5 w6 ∧
          (∀ w7, Ext w6 w7 → Ahead w w7 →
           (R (.returned (Value.tuple #[Value.agg #[Value.bool b3, s4.v], Value.int .i64 x2])) w7)))))
       (∀ w8, Ext w3 w8 → Ahead w w8 →
        (Calls Tryd.prog 83 #[s1.v, s2.v] w8 fun e5 w9 =>
         ∃ x3 : Int, e5 = .returned (Value.int .i64 x3) ∧ Ahead w8 w9 ∧
         (br (decide (x3 < 0))
          (∀ w10, Ext w9 w10 → Ahead w w10 →
           (Calls Tryd.prog 103 #[s2.v, s1.v] w10 fun e6 w11 =>
            ∃ s5 : Slc, ∃ x4 : Int, e6 = .returned (Value.tuple #[s5.v, Value.int .i64 x4]) ∧ Ahead w10 w11 ∧
            (Calls Tryd.prog 67 #[Value.bool b2, s5.v, Value.int .i64 x4] w11 fun e7 w12 =>
             ∃ b4 : Bool, ∃ s6 : Slc, ∃ x5 : Int, e7 = .returned (Value.tuple #[Value.agg #[Value.bool b4, s6.v], Value.int .i64 x5]) ∧ Ahead w11 w12 ∧
             (∀ w13, Ext w12 w13 → Ahead w w13 →
              (R (.returned (Value.tuple #[Value.agg #[Value.bool b4, s6.v], Value.int .i64 x5])) w13)))))
          (Calls Tryd.prog 103 #[s1.v, s2.v] w9 fun e8 w14 =>
           ∃ s7 : Slc, ∃ x6 : Int, e8 = .returned (Value.tuple #[s7.v, Value.int .i64 x6]) ∧ Ahead w9 w14 ∧
           (Calls Tryd.prog 67 #[Value.bool b1, s7.v, Value.int .i64 x6] w14 fun e9 w15 =>
            ∃ b5 : Bool, ∃ s8 : Slc, ∃ x7 : Int, e9 = .returned (Value.tuple #[Value.agg #[Value.bool b5, s8.v], Value.int .i64 x7]) ∧ Ahead w14 w15 ∧
            (∀ w16, Ext w15 w16 → Ahead w w16 →
             (R (.returned (Value.tuple #[Value.agg #[Value.bool b5, s8.v], Value.int .i64 x7])) w16)))))))))))
     :
    Calls Tryd.prog 82 #[Value.agg #[Value.bool a0_a_0, a0_a_1.v], Value.agg #[Value.bool a1_b_0, a1_b_1.v]] w (fun e_ w_ => Ahead w w_ ∧ R e_ w_) := by
  refine whole_Add_vc a0_a_0 a0_a_1 a1_b_0 a1_b_1 w _  ?_
  · have A : Ahead w w := Ahead.refl w
    have X : Ext w w := Ext.refl w
    refine newC_t fun bk1 u1 hb1 ha_u1 _ B1 => ?_
    have g1 := le_eq A.size hb1
    obtain ⟨A, X⟩ := axa2 ha_u1 A X
    refine newC_t fun bk2 u2 hb2 ha_u2 _ B2 => ?_
    have g2 := le_eq A.size hb2
    have l1_2 := lt1 hb2 B1
    replace B1 := B1.ahead ha_u2
    obtain ⟨A, X⟩ := axa2 ha_u2 A X
    refine newC_t fun bk3 u3 hb3 ha_u3 _ B3 => ?_
    have g3 := le_eq A.size hb3
    obtain ⟨_, _⟩ := lt2 hb3 B1 B2
    obtain ⟨B1, B2⟩ := ah2 ha_u3 B1 B2
    obtain ⟨A, X⟩ := axa2 ha_u3 A X
    have hd_ := Sp.Ahead.drew u3
    obtain ⟨B1, B2, B3⟩ := ah3 hd_ B1 B2 B3
    obtain ⟨A, X⟩ := axa2 hd_ A X
    clear hd_
    have z1 := B1.lt
    have z2 := B2.lt
    have z3 := B3.lt
    let V_ : Nat → Nat → Prop := fun (q_ k : Nat) => (k = bk1 ∨ k = bk2 ∨ u3.drew.heap.size ≤ k) ∧ ((q_ = 0) → k ≠ bk1) ∧ ((q_ = 2) → k ≠ bk2)
    refine ⟨V_, ?_⟩
    have Y_ : u3.drew.heap.size ≤ u3.drew.heap.size := Nat.le_refl _
    refine out_t (b := bk1) (i := 0) (by first | rfl | exact Sp.add_off) (fun hv_ => (by replace hv_ : _ ∧ _ := hv_; omega)) ?_
    refine ldB_t 0 B1 rfl ?_
    refine ldS_t 1 B1 rfl ?_
    refine out_t (b := bk2) (i := 0) (by first | rfl | exact Sp.add_off) (fun hv_ => (by replace hv_ : _ ∧ _ := hv_; omega)) ?_
    refine ldB_t 0 B2 rfl ?_
    refine ldS_t 1 B2 rfl ?_
    replace h := h _ X A
    refine Calls.mono h ?_
    clear h
    rintro e1 w2 ⟨b1, s1, he_, ha_w2, h⟩
    refine ⟨b1, s1, he_, ?_⟩
    clear he_
    obtain ⟨B1, B2, B3⟩ := ah3 ha_w2 B1 B2 B3
    obtain ⟨A, X, Y_⟩ := axa3 ha_w2 A X Y_
    replace X : Ext w2 w2 := Ext.refl _
    refine ⟨(Bar.of_ahead ha_w2), ?_⟩
    refine Calls.mono h ?_
    clear h
    rintro e2 w3 ⟨b2, s2, he_, ha_w3, h⟩
    refine ⟨b2, s2, he_, ?_⟩
    clear he_
    obtain ⟨B1, B2, B3⟩ := ah3 ha_w3 B1 B2 B3
    obtain ⟨A, X, Y_⟩ := axa3 ha_w3 A X Y_
    replace X : Ext w3 w3 := Ext.refl _
    refine st2_t B1 rfl rfl rfl fun u4 k_u4 B1 => ?_
    obtain ⟨B2, B3⟩ := up2 k_u4 B2 B3
    obtain ⟨A, X, Y_⟩ := axu3 k_u4 g1 A X Y_
    refine st2_t B2 rfl rfl rfl fun u5 k_u5 B2 => ?_
    obtain ⟨B1, B3⟩ := up2 k_u5 B1 B3
    obtain ⟨A, X, Y_⟩ := axu3 k_u5 g2 A X Y_
    refine ldB_t 0 B1 rfl ?_
    refine ldB_t 0 B2 rfl ?_
    refine br_map h (fun h_ => ?_) (fun h_ => ?_)
    ·clear h
     have h := h_
     clear h_
     refine ldS_t 1 B1 rfl ?_
     refine ldS_t 1 B2 rfl ?_
     replace h := h _ X A
     refine Calls.mono h ?_
     clear h
     rintro e3 w5 ⟨s3, x1, he_, ha_w5, h⟩
     refine ⟨s3, x1, he_, ?_⟩
     clear he_
     obtain ⟨B1, B2, B3⟩ := ah3 ha_w5 B1 B2 B3
     obtain ⟨A, X⟩ := axa2 ha_w5 A X
     replace X : Ext w5 w5 := Ext.refl _
     refine ldB_t 0 B1 rfl ?_
     refine Calls.mono h ?_
     clear h
     rintro e4 w6 ⟨b3, s4, x2, he_, ha_w6, h⟩
     refine ⟨b3, s4, x2, he_, ?_⟩
     clear he_
     obtain ⟨B1, B2, B3⟩ := ah3 ha_w6 B1 B2 B3
     obtain ⟨A, X⟩ := axa2 ha_w6 A X
     replace X : Ext w6 w6 := Ext.refl _
     refine st2_t B3 rfl rfl rfl fun u6 k_u6 B3 => ?_
     obtain ⟨B1, B2⟩ := up2 k_u6 B1 B2
     obtain ⟨A, X⟩ := axu2 k_u6 g3 A X
     refine ldB_t 0 B3 rfl ?_
     refine ldS_t 1 B3 rfl ?_
     replace h := h _ X A
     exact ⟨A, h⟩
    ·clear h
     have h := h_
     clear h_
     refine ldS_t 1 B1 rfl ?_
     refine ldS_t 1 B2 rfl ?_
     replace h := h _ X A
     refine Calls.mono h ?_
     clear h
     rintro e5 w9 ⟨x3, he_, ha_w9, h⟩
     refine ⟨x3, he_, ?_⟩
     clear he_
     obtain ⟨B1, B2, B3⟩ := ah3 ha_w9 B1 B2 B3
     obtain ⟨A, X⟩ := axa2 ha_w9 A X
     replace X : Ext w9 w9 := Ext.refl _
     refine br_map h (fun h_ => ?_) (fun h_ => ?_)
     ·clear h
      have h := h_
      clear h_
      refine ldB_t 0 B2 rfl ?_
      refine ldS_t 1 B2 rfl ?_
      refine ldB_t 0 B1 rfl ?_
      refine ldS_t 1 B1 rfl ?_
      refine st2_t B1 rfl rfl rfl fun u7 k_u7 B1 => ?_
      obtain ⟨B2, B3⟩ := up2 k_u7 B2 B3
      obtain ⟨A, X⟩ := axu2 k_u7 g1 A X
      refine st2_t B2 rfl rfl rfl fun u8 k_u8 B2 => ?_
      obtain ⟨B1, B3⟩ := up2 k_u8 B1 B3
      obtain ⟨A, X⟩ := axu2 k_u8 g2 A X
      refine ldS_t 1 B1 rfl ?_
      refine ldS_t 1 B2 rfl ?_
      replace h := h _ X A
      refine Calls.mono h ?_
      clear h
      rintro e6 w11 ⟨s5, x4, he_, ha_w11, h⟩
      refine ⟨s5, x4, he_, ?_⟩
      clear he_
      obtain ⟨B1, B2, B3⟩ := ah3 ha_w11 B1 B2 B3
      obtain ⟨A, X⟩ := axa2 ha_w11 A X
      replace X : Ext w11 w11 := Ext.refl _
      refine ldB_t 0 B1 rfl ?_
      refine Calls.mono h ?_
      clear h
      rintro e7 w12 ⟨b4, s6, x5, he_, ha_w12, h⟩
      refine ⟨b4, s6, x5, he_, ?_⟩
      clear he_
      obtain ⟨B1, B2, B3⟩ := ah3 ha_w12 B1 B2 B3
      obtain ⟨A, X⟩ := axa2 ha_w12 A X
      replace X : Ext w12 w12 := Ext.refl _
      refine st2_t B3 rfl rfl rfl fun u9 k_u9 B3 => ?_
      obtain ⟨B1, B2⟩ := up2 k_u9 B1 B2
      obtain ⟨A, X⟩ := axu2 k_u9 g3 A X
      refine ldB_t 0 B3 rfl ?_
      refine ldS_t 1 B3 rfl ?_
      replace h := h _ X A
      exact ⟨A, h⟩
     ·clear h
      have h := h_
      clear h_
      refine ldS_t 1 B1 rfl ?_
      refine ldS_t 1 B2 rfl ?_
      refine Calls.mono h ?_
      clear h
      rintro e8 w14 ⟨s7, x6, he_, ha_w14, h⟩
      refine ⟨s7, x6, he_, ?_⟩
      clear he_
      obtain ⟨B1, B2, B3⟩ := ah3 ha_w14 B1 B2 B3
      obtain ⟨A, X⟩ := axa2 ha_w14 A X
      replace X : Ext w14 w14 := Ext.refl _
      refine ldB_t 0 B1 rfl ?_
      refine Calls.mono h ?_
      clear h
      rintro e9 w15 ⟨b5, s8, x7, he_, ha_w15, h⟩
      refine ⟨b5, s8, x7, he_, ?_⟩
      clear he_
      obtain ⟨B1, B2, B3⟩ := ah3 ha_w15 B1 B2 B3
      obtain ⟨A, X⟩ := axa2 ha_w15 A X
      replace X : Ext w15 w15 := Ext.refl _
      refine st2_t B3 rfl rfl rfl fun u10 k_u10 B3 => ?_
      obtain ⟨B1, B2⟩ := up2 k_u10 B1 B2
      obtain ⟨A, X⟩ := axu2 k_u10 g3 A X
      refine ldB_t 0 B3 rfl ?_
      refine ldS_t 1 B3 rfl ?_
      replace h := h _ X A
      exact ⟨A, h⟩

/-- surd/whole.result: function 67, its local variables as values. -/
theorem whole_result_v2 (a0_neg : Bool) (a1_n : Slc) (a2_e : Int) (w : World) (R : Ending → World → Prop)
    
    (h : br (a2_e != 0)
    (∀ w1, Ext w w1 → Ahead w w1 →
     (R (.returned (Value.tuple #[Value.agg #[Value.bool (false), ((⟨none, 0, 0⟩ : Slc)).v], Value.int .i64 a2_e])) w1))
    (∀ w2, Ext w w2 → Ahead w w2 →
     (Calls Tryd.prog 95 #[Value.agg #[Value.bool a0_neg, a1_n.v]] w2 fun e1 w3 =>
      ∃ b1 : Bool, ∃ s1 : Slc, ∃ x1 : Int, e1 = .returned (Value.tuple #[Value.agg #[Value.bool b1, s1.v], Value.int .i64 x1]) ∧ Ahead w2 w3 ∧
      (∀ w4, Ext w3 w4 → Ahead w w4 →
       (R (.returned (Value.tuple #[Value.agg #[Value.bool b1, s1.v], Value.int .i64 x1])) w4)))))
     :
    Calls Tryd.prog 67 #[Value.bool a0_neg, a1_n.v, Value.int .i64 a2_e] w (fun e_ w_ => Ahead w w_ ∧ R e_ w_) := by
  refine whole_result_vc a0_neg a1_n a2_e w _  ?_
  · have A : Ahead w w := Ahead.refl w
    have X : Ext w w := Ext.refl w
    refine newC_t fun bk1 u1 hb1 ha_u1 _ B1 => ?_
    have g1 := le_eq A.size hb1
    obtain ⟨A, X⟩ := axa2 ha_u1 A X
    refine br_map h (fun h_ => ?_) (fun h_ => ?_)
    ·clear h
     have h := h_
     clear h_
     refine st2_t B1 rfl rfl rfl fun u2 k_u2 B1 => ?_
     obtain ⟨A, X⟩ := axu2 k_u2 g1 A X
     refine ldB_t 0 B1 rfl ?_
     refine ldS_t 1 B1 rfl ?_
     replace h := h _ X A
     exact ⟨A, h⟩
    ·clear h
     have h := h_
     clear h_
     replace h := h _ X A
     refine Calls.mono h ?_
     clear h
     rintro e1 w3 ⟨b1, s1, x1, he_, ha_w3, h⟩
     refine ⟨b1, s1, x1, he_, ?_⟩
     clear he_
     replace B1 := B1.ahead ha_w3
     obtain ⟨A, X⟩ := axa2 ha_w3 A X
     replace X : Ext w3 w3 := Ext.refl _
     refine st2_t B1 rfl rfl rfl fun u3 k_u3 B1 => ?_
     obtain ⟨A, X⟩ := axu2 k_u3 g1 A X
     refine ldB_t 0 B1 rfl ?_
     refine ldS_t 1 B1 rfl ?_
     replace h := h _ X A
     exact ⟨A, h⟩

/-- surd/dyadic.long: function 81, its local variables as values. -/
theorem dyadic_long_v2 (a0_x_0 : Bool) (a0_x_1 : Slc) (a0_x_2 : Int) (a1_y_0 : Bool) (a1_y_1 : Slc) (a1_y_2 : Int) (w : World) (R : Ending → World → Prop)
    
    (h : ∀ w1, Ext w w1 → Ahead w w1 →
    (Calls Tryd.prog 80 #[a0_x_1.v, Value.int .i64 (IntKind.i64.wrap (a0_x_2 - a1_y_2))] w1 fun e1 w2 =>
     ∃ s1 : Slc, e1 = .returned s1.v ∧ Ahead w1 w2 ∧
     (br (!(a0_x_0 == a1_y_0))
      (Calls Tryd.prog 83 #[s1.v, a1_y_1.v] w2 fun e2 w3 =>
       ∃ x1 : Int, e2 = .returned (Value.int .i64 x1) ∧ Ahead w2 w3 ∧
       (br (decide (x1 < 0))
        (∀ w4, Ext w3 w4 → Ahead w w4 →
         (Calls Tryd.prog 100 #[a1_y_1.v, s1.v] w4 fun e3 w5 =>
          ∃ s2 : Slc, e3 = .returned s2.v ∧ Ahead w4 w5 ∧
          (Calls Tryd.prog 42 #[Value.agg #[Value.bool (!a0_x_0), s2.v], Value.int .i64 a1_y_2] w5 fun e4 w6 =>
           ∃ b1 : Bool, ∃ s3 : Slc, ∃ x2 : Int, ∃ x3 : Int, e4 = .returned (Value.tuple #[Value.agg #[Value.bool b1, s3.v, Value.int .i64 x2], Value.int .i64 x3]) ∧ Ahead w5 w6 ∧
           (∀ w7, Ext w6 w7 → Ahead w w7 →
            (R (.returned (Value.tuple #[Value.agg #[Value.bool b1, s3.v, Value.int .i64 x2], Value.int .i64 x3])) w7)))))
        (∀ w8, Ext w3 w8 → Ahead w w8 →
         (Calls Tryd.prog 100 #[s1.v, a1_y_1.v] w8 fun e5 w9 =>
          ∃ s4 : Slc, e5 = .returned s4.v ∧ Ahead w8 w9 ∧
          (Calls Tryd.prog 42 #[Value.agg #[Value.bool a0_x_0, s4.v], Value.int .i64 a1_y_2] w9 fun e6 w10 =>
           ∃ b2 : Bool, ∃ s5 : Slc, ∃ x4 : Int, ∃ x5 : Int, e6 = .returned (Value.tuple #[Value.agg #[Value.bool b2, s5.v, Value.int .i64 x4], Value.int .i64 x5]) ∧ Ahead w9 w10 ∧
           (∀ w11, Ext w10 w11 → Ahead w w11 →
            (R (.returned (Value.tuple #[Value.agg #[Value.bool b2, s5.v, Value.int .i64 x4], Value.int .i64 x5])) w11)))))))
      (∀ w12, Ext w2 w12 → Ahead w w12 →
       (Calls Tryd.prog 90 #[s1.v, a1_y_1.v] w12 fun e7 w13 =>
        ∃ s6 : Slc, e7 = .returned s6.v ∧ Ahead w12 w13 ∧
        (Calls Tryd.prog 42 #[Value.agg #[Value.bool a0_x_0, s6.v], Value.int .i64 a1_y_2] w13 fun e8 w14 =>
         ∃ b3 : Bool, ∃ s7 : Slc, ∃ x6 : Int, ∃ x7 : Int, e8 = .returned (Value.tuple #[Value.agg #[Value.bool b3, s7.v, Value.int .i64 x6], Value.int .i64 x7]) ∧ Ahead w13 w14 ∧
         (∀ w15, Ext w14 w15 → Ahead w w15 →
          (R (.returned (Value.tuple #[Value.agg #[Value.bool b3, s7.v, Value.int .i64 x6], Value.int .i64 x7])) w15))))))))
     :
    Calls Tryd.prog 81 #[Value.agg #[Value.bool a0_x_0, a0_x_1.v, Value.int .i64 a0_x_2], Value.agg #[Value.bool a1_y_0, a1_y_1.v, Value.int .i64 a1_y_2]] w (fun e_ w_ => Ahead w w_ ∧ R e_ w_) := by
  refine dyadic_long_vc a0_x_0 a0_x_1 a0_x_2 a1_y_0 a1_y_1 a1_y_2 w _  ?_
  · have A : Ahead w w := Ahead.refl w
    have X : Ext w w := Ext.refl w
    refine newC_t fun bk1 u1 hb1 ha_u1 _ B1 => ?_
    have g1 := le_eq A.size hb1
    obtain ⟨A, X⟩ := axa2 ha_u1 A X
    refine newC_t fun bk2 u2 hb2 ha_u2 _ B2 => ?_
    have g2 := le_eq A.size hb2
    have l1_2 := lt1 hb2 B1
    replace B1 := B1.ahead ha_u2
    obtain ⟨A, X⟩ := axa2 ha_u2 A X
    refine newC_t fun bk3 u3 hb3 ha_u3 _ B3 => ?_
    have g3 := le_eq A.size hb3
    obtain ⟨_, _⟩ := lt2 hb3 B1 B2
    obtain ⟨B1, B2⟩ := ah2 ha_u3 B1 B2
    obtain ⟨A, X⟩ := axa2 ha_u3 A X
    have hd_ := Sp.Ahead.drew u3
    obtain ⟨B1, B2, B3⟩ := ah3 hd_ B1 B2 B3
    obtain ⟨A, X⟩ := axa2 hd_ A X
    clear hd_
    refine ldS_t 1 B1 rfl ?_
    refine ldI_t 2 B1 rfl ?_
    refine ldI_t 2 B2 rfl ?_
    refine ldS_t 1 B2 rfl ?_
    replace h := h _ X A
    refine Calls.mono h ?_
    clear h
    rintro e1 w2 ⟨s1, he_, ha_w2, h⟩
    refine ⟨s1, he_, ?_⟩
    clear he_
    obtain ⟨B1, B2, B3⟩ := ah3 ha_w2 B1 B2 B3
    obtain ⟨A, X⟩ := axa2 ha_w2 A X
    replace X : Ext w2 w2 := Ext.refl _
    refine ⟨ha_w2, ?_⟩
    refine ldB_t 0 B1 rfl ?_
    refine ldB_t 0 B1 rfl ?_
    refine ldB_t 0 B2 rfl ?_
    refine br_map h (fun h_ => ?_) (fun h_ => ?_)
    ·clear h
     have h := h_
     clear h_
     refine Calls.mono h ?_
     clear h
     rintro e2 w3 ⟨x1, he_, ha_w3, h⟩
     refine ⟨x1, he_, ?_⟩
     clear he_
     obtain ⟨B1, B2, B3⟩ := ah3 ha_w3 B1 B2 B3
     obtain ⟨A, X⟩ := axa2 ha_w3 A X
     replace X : Ext w3 w3 := Ext.refl _
     refine br_map h (fun h_ => ?_) (fun h_ => ?_)
     ·clear h
      have h := h_
      clear h_
      have hd_ := Sp.Ahead.drew w3
      obtain ⟨B1, B2, B3⟩ := ah3 hd_ B1 B2 B3
      obtain ⟨A, X⟩ := axa2 hd_ A X
      clear hd_
      refine ldI_t 2 B2 rfl ?_
      replace h := h _ X A
      refine Calls.mono h ?_
      clear h
      rintro e3 w5 ⟨s2, he_, ha_w5, h⟩
      refine ⟨s2, he_, ?_⟩
      clear he_
      obtain ⟨B1, B2, B3⟩ := ah3 ha_w5 B1 B2 B3
      obtain ⟨A, X⟩ := axa2 ha_w5 A X
      replace X : Ext w5 w5 := Ext.refl _
      refine ⟨ha_w5, ?_⟩
      refine Calls.mono h ?_
      clear h
      rintro e4 w6 ⟨b1, s3, x2, x3, he_, ha_w6, h⟩
      refine ⟨b1, s3, x2, x3, he_, ?_⟩
      clear he_
      obtain ⟨B1, B2, B3⟩ := ah3 ha_w6 B1 B2 B3
      obtain ⟨A, X⟩ := axa2 ha_w6 A X
      replace X : Ext w6 w6 := Ext.refl _
      refine ⟨ha_w6, ?_⟩
      refine st3_t B3 rfl rfl rfl rfl fun u4 k_u4 B3 => ?_
      obtain ⟨B1, B2⟩ := up2 k_u4 B1 B2
      obtain ⟨A, X⟩ := axu2 k_u4 g3 A X
      refine ldB_t 0 B3 rfl ?_
      refine ldS_t 1 B3 rfl ?_
      refine ldI_t 2 B3 rfl ?_
      replace h := h _ X A
      exact ⟨A, h⟩
     ·clear h
      have h := h_
      clear h_
      have hd_ := Sp.Ahead.drew w3
      obtain ⟨B1, B2, B3⟩ := ah3 hd_ B1 B2 B3
      obtain ⟨A, X⟩ := axa2 hd_ A X
      clear hd_
      refine ldI_t 2 B2 rfl ?_
      replace h := h _ X A
      refine Calls.mono h ?_
      clear h
      rintro e5 w9 ⟨s4, he_, ha_w9, h⟩
      refine ⟨s4, he_, ?_⟩
      clear he_
      obtain ⟨B1, B2, B3⟩ := ah3 ha_w9 B1 B2 B3
      obtain ⟨A, X⟩ := axa2 ha_w9 A X
      replace X : Ext w9 w9 := Ext.refl _
      refine ⟨ha_w9, ?_⟩
      refine Calls.mono h ?_
      clear h
      rintro e6 w10 ⟨b2, s5, x4, x5, he_, ha_w10, h⟩
      refine ⟨b2, s5, x4, x5, he_, ?_⟩
      clear he_
      obtain ⟨B1, B2, B3⟩ := ah3 ha_w10 B1 B2 B3
      obtain ⟨A, X⟩ := axa2 ha_w10 A X
      replace X : Ext w10 w10 := Ext.refl _
      refine ⟨ha_w10, ?_⟩
      refine st3_t B3 rfl rfl rfl rfl fun u5 k_u5 B3 => ?_
      obtain ⟨B1, B2⟩ := up2 k_u5 B1 B2
      obtain ⟨A, X⟩ := axu2 k_u5 g3 A X
      refine ldB_t 0 B3 rfl ?_
      refine ldS_t 1 B3 rfl ?_
      refine ldI_t 2 B3 rfl ?_
      replace h := h _ X A
      exact ⟨A, h⟩
    ·clear h
     have h := h_
     clear h_
     have hd_ := Sp.Ahead.drew w2
     obtain ⟨B1, B2, B3⟩ := ah3 hd_ B1 B2 B3
     obtain ⟨A, X⟩ := axa2 hd_ A X
     clear hd_
     refine ldI_t 2 B2 rfl ?_
     replace h := h _ X A
     refine Calls.mono h ?_
     clear h
     rintro e7 w13 ⟨s6, he_, ha_w13, h⟩
     refine ⟨s6, he_, ?_⟩
     clear he_
     obtain ⟨B1, B2, B3⟩ := ah3 ha_w13 B1 B2 B3
     obtain ⟨A, X⟩ := axa2 ha_w13 A X
     replace X : Ext w13 w13 := Ext.refl _
     refine ⟨ha_w13, ?_⟩
     refine Calls.mono h ?_
     clear h
     rintro e8 w14 ⟨b3, s7, x6, x7, he_, ha_w14, h⟩
     refine ⟨b3, s7, x6, x7, he_, ?_⟩
     clear he_
     obtain ⟨B1, B2, B3⟩ := ah3 ha_w14 B1 B2 B3
     obtain ⟨A, X⟩ := axa2 ha_w14 A X
     replace X : Ext w14 w14 := Ext.refl _
     refine ⟨ha_w14, ?_⟩
     refine st3_t B3 rfl rfl rfl rfl fun u6 k_u6 B3 => ?_
     obtain ⟨B1, B2⟩ := up2 k_u6 B1 B2
     obtain ⟨A, X⟩ := axu2 k_u6 g3 A X
     refine ldB_t 0 B3 rfl ?_
     refine ldS_t 1 B3 rfl ?_
     refine ldI_t 2 B3 rfl ?_
     replace h := h _ X A
     exact ⟨A, h⟩

/-- surd/surdref08.Abs: function 19, its local variables as values. -/
theorem surdref08_Abs_v2 (a0_a_0 : Bool) (a0_a_1 : Slc) (a0_a_2 : Int) (w : World) (R : Ending → World → Prop)
    
    (h : ∀ w1, Ext w w1 → Ahead w w1 →
    (Calls Tryd.prog 56 #[Value.agg #[Value.bool a0_a_0, a0_a_1.v]] w1 fun e1 w2 =>
     ∃ b1 : Bool, ∃ s1 : Slc, e1 = .returned (Value.agg #[Value.bool b1, s1.v]) ∧ Ahead w1 w2 ∧
     (∀ w3, Ext w2 w3 → Ahead w w3 →
      (R (.returned (Value.agg #[Value.bool b1, s1.v, Value.int .i64 a0_a_2])) w3))))
     :
    Calls Tryd.prog 19 #[Value.agg #[Value.bool a0_a_0, a0_a_1.v, Value.int .i64 a0_a_2]] w (fun e_ w_ => Ahead w w_ ∧ R e_ w_) := by
  refine surdref08_Abs_vc a0_a_0 a0_a_1 a0_a_2 w _  ?_
  · have A : Ahead w w := Ahead.refl w
    have X : Ext w w := Ext.refl w
    refine newC_t fun bk1 u1 hb1 ha_u1 _ B1 => ?_
    have g1 := le_eq A.size hb1
    obtain ⟨A, X⟩ := axa2 ha_u1 A X
    refine newC_t fun bk2 u2 hb2 ha_u2 _ B2 => ?_
    have g2 := le_eq A.size hb2
    have l1_2 := lt1 hb2 B1
    replace B1 := B1.ahead ha_u2
    obtain ⟨A, X⟩ := axa2 ha_u2 A X
    have hd_ := Sp.Ahead.drew u2
    obtain ⟨B1, B2⟩ := ah2 hd_ B1 B2
    obtain ⟨A, X⟩ := axa2 hd_ A X
    clear hd_
    refine ldB_t 0 B1 rfl ?_
    refine ldS_t 1 B1 rfl ?_
    refine ldI_t 2 B1 rfl ?_
    replace h := h _ X A
    refine Calls.mono h ?_
    clear h
    rintro e1 w2 ⟨b1, s1, he_, ha_w2, h⟩
    refine ⟨b1, s1, he_, ?_⟩
    clear he_
    obtain ⟨B1, B2⟩ := ah2 ha_w2 B1 B2
    obtain ⟨A, X⟩ := axa2 ha_w2 A X
    replace X : Ext w2 w2 := Ext.refl _
    refine ⟨ha_w2, ?_⟩
    refine st3_t B2 rfl rfl rfl rfl fun u3 k_u3 B2 => ?_
    replace B1 := up1 k_u3 B1
    obtain ⟨A, X⟩ := axu2 k_u3 g2 A X
    refine ldB_t 0 B2 rfl ?_
    refine ldS_t 1 B2 rfl ?_
    refine ldI_t 2 B2 rfl ?_
    replace h := h _ X A
    exact ⟨A, h⟩

end Go.Proofs.YtahbekmnphkiiaaDoor
namespace Go.Proofs.YtahbekmnphkiiaaDoor
open Go Go.RowKit Eng Sp Dg L2
set_option linter.unusedVariables false
set_option linter.unusedSimpArgs false
set_option maxRecDepth 100000
namespace Dy
open _root_.Go.Proofs.YtahbekmnphkiiaaDoor.Nat (OwnNil Num Num.bl OwnNil.mono OwnNil.ext OwnNil.rd OwnNil.ahead OwnNil.nil digs_len_bl num_of Yes cmp_num)
open _root_.Go.Proofs.YtahbekmnphkiiaaDoor.Ref (RN RN.nil RN.ext RN.ahead Len_spec Shl_spec Int_spec Cmp_spec len_mono bl_len32)
open Sb

def cmpZ (a b : Int) : Int := if a < b then -1 else if a = b then 0 else 1
/-- A dyadic's steps of 2^b. -/
def dv (z e b : Int) : Int := z * ((2 ^ (e - b).toNat : Nat) : Int)
def dcmp (z e z' e' : Int) : Int := cmpZ (dv z e (min e e')) (dv z' e' (min e e'))
theorem sg_mul (neg : Bool) (n m : Nat) : sg neg n * (m : Int) = sg neg (n * m) := by
  unfold sg; cases neg <;> simp [Int.neg_mul]
theorem dv_sg (neg : Bool) (n : Nat) (e b : Int) : dv (sg neg n) e b = sg neg (n * 2 ^ (e - b).toNat) := sg_mul neg n _
theorem two_pos (k : Nat) : 0 < 2 ^ k := Nat.pow_pos (by omega)
theorem mul2_zero {n k : Nat} : n * 2 ^ k = 0 ↔ n = 0 := by
  have := two_pos k
  constructor
  · intro h
    rcases Nat.mul_eq_zero.1 h with h | h
    · exact h
    · omega
  · intro h; rw [h, Nat.zero_mul]
theorem sgn_mul2 (neg : Bool) (n k : Nat) : sgn neg (n * 2 ^ k) = sgn neg n := by
  unfold sgn
  by_cases h : n = 0
  · rw [if_pos h, if_pos (mul2_zero.2 h)]
  · rw [if_neg h, if_neg (fun h' => h (mul2_zero.1 h'))]
theorem cmpZ_sg (neg neg' : Bool) (A B : Nat) : cmpZ (sg neg A) (sg neg' B) = if sgn neg A < sgn neg' B then -1 else if sgn neg' B < sgn neg A then 1 else if sgn neg A = 0 then 0 else sgn neg A * cmpI A B := by
  unfold cmpZ sg sgn cmpI
  by_cases hA : A = 0 <;> by_cases hB : B = 0 <;> cases neg <;> cases neg' <;> simp [hA, hB] <;> (repeat' split) <;> omega
theorem lt_of_bl {A B : Nat} (h : bl A < bl B) : A < B := by
  rcases Nat.lt_or_ge A B with h1 | h1
  · exact h1
  · have := bl_mono h1; omega
def calg (s : Int) (n : Nat) (e s' : Int) (n' : Nat) (e' : Int) : Int :=
  if s < s' then -1 else if s' < s then 1 else if s = 0 then 0 else if e + bl n ≠ e' + bl n' then (if e + bl n < e' + bl n' then -s else s) else
    if e' < e then s * cmpI (n * 2 ^ (e - e').toNat) n' else s * cmpI n (n' * 2 ^ (e' - e).toNat)
theorem cmpI_lt {a b : Nat} (h : a < b) : cmpI a b = -1 := if_pos h
theorem cmpI_gt {a b : Nat} (h : b < a) : cmpI a b = 1 := by rw [cmpI, if_neg (by omega), if_pos h]
theorem calg_eq (neg : Bool) (n : Nat) (e : Int) (neg' : Bool) (n' : Nat) (e' : Int) : calg (sgn neg n) n e (sgn neg' n') n' e' = dcmp (sg neg n) e (sg neg' n') e' := by
  rw [dcmp, dv_sg, dv_sg, cmpZ_sg, sgn_mul2, sgn_mul2, calg]
  by_cases h1 : sgn neg n < sgn neg' n'
  · rw [if_pos h1, if_pos h1]
  rw [if_neg h1, if_neg h1]
  by_cases h2 : sgn neg' n' < sgn neg n
  · rw [if_pos h2, if_pos h2]
  rw [if_neg h2, if_neg h2]
  by_cases h3 : sgn neg n = 0
  · rw [if_pos h3, if_pos h3]
  rw [if_neg h3, if_neg h3]
  have hn : n ≠ 0 := fun h => h3 (sgn_zero_iff.2 h)
  have hn' : n' ≠ 0 := fun h => h3 (by have := sgn_zero_iff (neg := neg').2 h; omega)
  have b1 := bl_shl (n := (e - min e e').toNat) hn
  have b2 := bl_shl (n := (e' - min e e').toNat) hn'
  by_cases h4 : e + bl n ≠ e' + bl n'
  · rw [if_pos h4]
    by_cases h5 : e + bl n < e' + bl n'
    · rw [if_pos h5, cmpI_lt (lt_of_bl (by omega))]; omega
    · rw [if_neg h5, cmpI_gt (lt_of_bl (by omega))]; omega
  · rw [if_neg h4]
    by_cases h5 : e' < e
    · rw [if_pos h5, show min e e' = e' by omega, Int.sub_self]; simp
    · rw [if_neg h5, show min e e' = e by omega, Int.sub_self]; simp
theorem sgn_range (neg : Bool) (n : Nat) : -1 ≤ sgn neg n ∧ sgn neg n ≤ 1 := by unfold sgn; split <;> (try split) <;> omega
theorem cmpI_range (a b : Nat) : -1 ≤ cmpI a b ∧ cmpI a b ≤ 1 := by unfold cmpI; split <;> (try split) <;> omega
theorem smul_range {s c : Int} (hs : -1 ≤ s ∧ s ≤ 1) (hc : -1 ≤ c ∧ c ≤ 1) : -1 ≤ s * c ∧ s * c ≤ 1 := by
  have : s = -1 ∨ s = 0 ∨ s = 1 := by omega
  rcases this with rfl | rfl | rfl <;> omega
/-- The room that a shift to the other's exponent takes. -/
theorem shift_room {n n' k m : Nat} (h : bl n + k = bl n') (hm : (digs B64 n').length + 2 ≤ m) : (digs B64 n).length + k / 64 + 1 ≤ m := by
  have h1 := bl_len (ok_digs two64 n')
  rw [val_digs two64] at h1
  have h2 := digs_len_bl (N := n) (m := bl n / 64 + 1) (by omega)
  omega
def far (e : Int) : Prop := -2305843009213693952 ≤ e ∧ e ≤ 2305843009213693952
theorem num_digs {w : World} {s : Slc} {n : Nat} (r : Rd .u64 w s (nn (digs B64 n))) (h : (digs B64 n).length ≤ 2 ^ 44) : Num w s n := ⟨_, r, h, ok_digs two64 _, val_digs two64 _⟩

theorem compare_spec {w : World} {neg neg' : Bool} {s s' : Slc} {n n' : Nat} {e e' : Int} (r : Rd .u64 w s (nn (digs B64 n))) (r' : Rd .u64 w s' (nn (digs B64 n'))) (hl : (digs B64 n).length + 2 ≤ 2 ^ 44) (hl' : (digs B64 n').length + 2 ≤ 2 ^ 44) (he : far e) (he' : far e') :
    Calls pr dyadic_compare_id #[.agg (c3 neg s e), .agg (c3 neg' s' e')] w fun en w' => Ahead w w' ∧ en = .returned (.int .i64 (dcmp (sg neg n) e (sg neg' n') e')) := by
  unfold far at he he'
  rw [← calg_eq]
  have N1 := num_digs r (by omega)
  have N2 := num_digs r' (by omega)
  have hb1 := Num.bl N1
  have hb2 := Num.bl N2
  refine dyadic_compare_v2 neg s e neg' s' e' w _ fun w1 x1 a1 => Calls.mono (part_sign_spec (N1.ahead a1)) ?_
  rintro en w2 ⟨h2, rfl⟩
  refine ⟨_, rfl, h2, Calls.mono (part_sign_spec (N2.ahead (a1.trans h2))) ?_⟩
  rintro en w3 ⟨h3, rfl⟩
  have hs1 := sgn_range neg n
  unfold calg
  refine ⟨_, rfl, h3, br_intro (fun h => ?_) (fun h => br_intro (fun h4 => ?_) (fun h4 => br_intro (fun h5 => ?_) (fun h5 => ?_)))⟩
  · rw [if_pos (of_decide_eq_true h)]
  · rw [if_neg (of_decide_eq_false h), if_pos (of_decide_eq_true h4)]
  · rw [if_neg (of_decide_eq_false h), if_neg (of_decide_eq_false h4), if_pos (eq_of_beq h5)]
  · rw [if_neg (of_decide_eq_false h), if_neg (of_decide_eq_false h4), if_neg (fun h6 => by rw [h6] at h5; simp at h5)]
    intro w4 x4 a4
    refine Calls.mono (number_top_spec (N1.ahead a4) (by omega)) ?_
    rintro en w5 ⟨h5', rfl⟩
    have a5 := a4.trans h5'
    refine ⟨_, rfl, h5', Calls.mono (number_top_spec (N2.ahead a5) (by omega)) ?_⟩
    rintro en w6 ⟨h6, rfl⟩
    refine ⟨_, rfl, h6, br_intro (fun ht => ?_) (fun ht => br_intro (fun hg => ?_) (fun hg => ?_))⟩
    · have ht' : e + bl n ≠ e' + bl n' := fun h => by rw [h] at ht; simp at ht
      rw [if_pos ht']
      intro w7 x7 a7
      refine Calls.mono (number_top_spec (N1.ahead a7) (by omega)) ?_
      rintro en w8 ⟨h8, rfl⟩
      refine ⟨_, rfl, h8, Calls.mono (number_top_spec (N2.ahead (a7.trans h8)) (by omega)) ?_⟩
      rintro en w9 ⟨h9, rfl⟩
      refine ⟨_, rfl, h9, br_intro (fun hl => ?_) (fun hl => ?_)⟩
      · have := of_decide_eq_true hl
        rw [if_pos (by omega), wrap_i64 (by omega) (by omega), Int.zero_sub]
      · have := of_decide_eq_false hl
        rw [if_neg (by omega)]
    · have ht' : e + bl n = e' + bl n' := by have : e + bl n - 1 = e' + bl n' - 1 := by simpa using ht
                                             omega
      have hg' := of_decide_eq_true hg
      rw [if_neg (fun h => h ht'), if_pos (by omega)]
      intro w11 x11 a11
      have hk := shift_room (n := n) (n' := n') (k := (e - e').toNat) (by omega) hl'
      rw [wrap_i64 (by omega) (by omega), show e - e' = (((e - e').toNat : Nat) : Int) by omega]
      refine Calls.mono (dleft_spec (r.ahead a11) hk) ?_
      rintro en w12 ⟨h12, s1, rfl, o1⟩
      have o12 := o1.rd
      have lsh : (digs B64 (n * 2 ^ (e - e').toNat)).length ≤ 2 ^ 44 := by
        by_cases h0 : n = 0
        · rw [h0, Nat.zero_mul, digs_zero]; simp
        · have hb := bl_shl (n := (e - e').toNat) h0
          have h1 := bl_len (ok_digs two64 n')
          rw [val_digs two64] at h1
          have := digs_len_bl (N := n * 2 ^ (e - e').toNat) (m := (digs B64 n').length) (by omega)
          omega
      refine ⟨_, rfl, h12, Calls.mono (cmp_num (num_digs o12 lsh) (N2.ahead (a11.trans h12))) ?_⟩
      rintro en w13 ⟨h13, rfl⟩
      refine ⟨_, rfl, h13, ?_⟩
      have hr := smul_range hs1 (cmpI_range (n * 2 ^ (e - e').toNat) n')
      rw [wrap_i64 (by omega) (by omega)]
      rfl
    · have ht' : e + bl n = e' + bl n' := by have : e + bl n - 1 = e' + bl n' - 1 := by simpa using ht
                                             omega
      have hg' := of_decide_eq_false hg
      rw [if_neg (fun h => h ht'), if_neg (by omega)]
      intro w11 x11 a11
      have hk := shift_room (n := n') (n' := n) (k := (e' - e).toNat) (by omega) hl
      rw [wrap_i64 (by omega) (by omega), show e' - e = (((e' - e).toNat : Nat) : Int) by omega]
      refine Calls.mono (dleft_spec (r'.ahead a11) hk) ?_
      rintro en w12 ⟨h12, s1, rfl, o1⟩
      have o12 := o1.rd
      have lsh : (digs B64 (n' * 2 ^ (e' - e).toNat)).length ≤ 2 ^ 44 := by
        by_cases h0 : n' = 0
        · rw [h0, Nat.zero_mul, digs_zero]; simp
        · have hb := bl_shl (n := (e' - e).toNat) h0
          have h1 := bl_len (ok_digs two64 n)
          rw [val_digs two64] at h1
          have := digs_len_bl (N := n' * 2 ^ (e' - e).toNat) (m := (digs B64 n).length) (by omega)
          omega
      refine ⟨_, rfl, h12, Calls.mono (cmp_num (N1.ahead (a11.trans h12)) (num_digs o12 lsh)) ?_⟩
      rintro en w13 ⟨h13, rfl⟩
      refine ⟨_, rfl, h13, ?_⟩
      have hr := smul_range hs1 (cmpI_range n (n' * 2 ^ (e' - e).toNat))
      rw [wrap_i64 (by omega) (by omega)]
      rfl

end Dy
end Go.Proofs.YtahbekmnphkiiaaDoor
namespace Go.Proofs.YtahbekmnphkiiaaDoor
open Go Go.RowKit Eng Sp Dg
set_option linter.unusedVariables false
set_option linter.unusedSimpArgs false
namespace Dy

theorem dv_zero (e b : Int) : dv 0 e b = 0 := Int.zero_mul _
theorem sg_zero (neg : Bool) : sg neg 0 = 0 := by cases neg <;> rfl
theorem sg_nD (neg : Bool) (x : Nat) : sg (nD neg x) (od x) = sg neg (od x) := by
  by_cases h : x = 0
  · subst h; rw [od_zero, sg_zero, sg_zero]
  · rw [nD_ne h]
/-- Lowest terms are the same number. -/
theorem dv_od {neg : Bool} {X : Nat} {E b : Int} (h : b ≤ E) : dv (sg (nD neg X) (od X)) (eD X E) b = dv (sg neg X) E b := by
  rw [sg_nD]
  by_cases h0 : X = 0
  · subst h0; rw [od_zero, sg_zero, dv_zero, dv_zero]
  · rw [dv_sg, dv_sg, eD, if_neg h0]
    congr 1
    rw [show (E + (tz X : Int) - b).toNat = tz X + (E - b).toNat by omega, Nat.pow_add, ← Nat.mul_assoc, Nat.mul_comm (od X), od_mul]
/-- A number in lowest terms. -/
structure NF (neg : Bool) (n : Nat) (e : Int) : Prop where
  s : nD neg n = neg
  o : od n = n
  z : n = 0 → e = 0
theorem NF.of (neg : Bool) (x : Nat) (e : Int) : NF (nD neg x) (od x) (eD x e) :=
  ⟨nD_od neg x, od_od x, fun h => by rw [od_zero_iff] at h; rw [h, eD_zero]⟩

end Dy
end Go.Proofs.YtahbekmnphkiiaaDoor
namespace Go.Proofs.YtahbekmnphkiiaaDoor
open Go Go.RowKit Eng L2
set_option linter.unusedVariables false
set_option maxHeartbeats 2000000
set_option maxRecDepth 100000

/-- surd/dyadic.two: function 40, its local variables as values. -/
theorem dyadic_two_v2 (a0_a_0 : Bool) (a0_a_1 : Slc) (a0_a_2 : Int) (a1_b_0 : Bool) (a1_b_1 : Slc) (a1_b_2 : Int) (w : World) (R : Ending → World → Prop)
    
    (h : ∀ w1, Ext w w1 → Ahead w w1 →
    (Calls Tryd.prog 36 #[Value.agg #[Value.bool a0_a_0, a0_a_1.v, Value.int .i64 a0_a_2]] w1 fun e1 w2 =>
     ∃ b1 : Bool, ∃ s1 : Slc, ∃ x1 : Int, ∃ x2 : Int, e1 = .returned (Value.tuple #[Value.agg #[Value.bool b1, s1.v, Value.int .i64 x1], Value.int .i64 x2]) ∧ Ahead w1 w2 ∧
     (br (x2 != 0)
      (∀ w3, Ext w2 w3 → Ahead w w3 →
       (R (.returned (Value.tuple #[Value.agg #[Value.bool b1, s1.v, Value.int .i64 x1], Value.agg #[Value.bool b1, s1.v, Value.int .i64 x1], Value.int .i64 x2])) w3))
      (∀ w4, Ext w2 w4 → Ahead w w4 →
       (Calls Tryd.prog 36 #[Value.agg #[Value.bool a1_b_0, a1_b_1.v, Value.int .i64 a1_b_2]] w4 fun e2 w5 =>
        ∃ b2 : Bool, ∃ s2 : Slc, ∃ x3 : Int, ∃ x4 : Int, e2 = .returned (Value.tuple #[Value.agg #[Value.bool b2, s2.v, Value.int .i64 x3], Value.int .i64 x4]) ∧ Ahead w4 w5 ∧
        (∀ w6, Ext w5 w6 → Ahead w w6 →
         (R (.returned (Value.tuple #[Value.agg #[Value.bool b1, s1.v, Value.int .i64 x1], Value.agg #[Value.bool b2, s2.v, Value.int .i64 x3], Value.int .i64 x4])) w6)))))))
     :
    Calls Tryd.prog 40 #[Value.agg #[Value.bool a0_a_0, a0_a_1.v, Value.int .i64 a0_a_2], Value.agg #[Value.bool a1_b_0, a1_b_1.v, Value.int .i64 a1_b_2]] w (fun e_ w_ => Ahead w w_ ∧ R e_ w_) := by
  refine dyadic_two_vc a0_a_0 a0_a_1 a0_a_2 a1_b_0 a1_b_1 a1_b_2 w _  ?_
  · have A : Ahead w w := Ahead.refl w
    have X : Ext w w := Ext.refl w
    refine newC_t fun bk1 u1 hb1 ha_u1 _ B1 => ?_
    have g1 := le_eq A.size hb1
    obtain ⟨A, X⟩ := axa2 ha_u1 A X
    refine newC_t fun bk2 u2 hb2 ha_u2 _ B2 => ?_
    have g2 := le_eq A.size hb2
    have l1_2 := lt1 hb2 B1
    replace B1 := B1.ahead ha_u2
    obtain ⟨A, X⟩ := axa2 ha_u2 A X
    refine newC_t fun bk3 u3 hb3 ha_u3 _ B3 => ?_
    have g3 := le_eq A.size hb3
    obtain ⟨_, _⟩ := lt2 hb3 B1 B2
    obtain ⟨B1, B2⟩ := ah2 ha_u3 B1 B2
    obtain ⟨A, X⟩ := axa2 ha_u3 A X
    refine newC_t fun bk4 u4 hb4 ha_u4 _ B4 => ?_
    have g4 := le_eq A.size hb4
    obtain ⟨_, _, _⟩ := lt3 hb4 B1 B2 B3
    obtain ⟨B1, B2, B3⟩ := ah3 ha_u4 B1 B2 B3
    obtain ⟨A, X⟩ := axa2 ha_u4 A X
    refine ldB_t 0 B1 rfl ?_
    refine ldS_t 1 B1 rfl ?_
    refine ldI_t 2 B1 rfl ?_
    replace h := h _ X A
    refine Calls.mono h ?_
    clear h
    rintro e1 w2 ⟨b1, s1, x1, x2, he_, ha_w2, h⟩
    refine ⟨b1, s1, x1, x2, he_, ?_⟩
    clear he_
    obtain ⟨B1, B2, B3, B4⟩ := ah4 ha_w2 B1 B2 B3 B4
    obtain ⟨A, X⟩ := axa2 ha_w2 A X
    replace X : Ext w2 w2 := Ext.refl _
    refine newC_t fun bk5 u5 hb5 ha_u5 _ B5 => ?_
    have g5 := le_eq A.size hb5
    obtain ⟨_, _, _, _⟩ := lt4 hb5 B1 B2 B3 B4
    obtain ⟨B1, B2, B3, B4⟩ := ah4 ha_u5 B1 B2 B3 B4
    obtain ⟨A, X⟩ := axa2 ha_u5 A X
    refine st3_t B5 rfl rfl rfl rfl fun u6 k_u6 B5 => ?_
    obtain ⟨B1, B2, B3, B4⟩ := up4 k_u6 B1 B2 B3 B4
    obtain ⟨A, X⟩ := axu2 k_u6 g5 A X
    refine br_map h (fun h_ => ?_) (fun h_ => ?_)
    ·clear h
     have h := h_
     clear h_
     have hd_ := Sp.Ahead.drew u6
     obtain ⟨B1, B2, B3, B4, B5⟩ := ah5 hd_ B1 B2 B3 B4 B5
     obtain ⟨A, X⟩ := axa2 hd_ A X
     clear hd_
     have z1 := B1.lt
     have z2 := B2.lt
     have z3 := B3.lt
     have z4 := B4.lt
     have z5 := B5.lt
     let V_ : Nat → Nat → Prop := fun (q_ k : Nat) => (k = bk3 ∨ k = bk4 ∨ u6.drew.heap.size ≤ k) ∧ 0 ≤ k
     refine ⟨V_, ?_⟩
     have Y_ : u6.drew.heap.size ≤ u6.drew.heap.size := Nat.le_refl _
     refine out_t (b := bk5) (i := 0) (by first | rfl | exact Sp.add_off) (fun hv_ => (by replace hv_ : _ ∧ _ := hv_; omega)) ?_
     refine ldB_t 0 B5 rfl ?_
     refine ldS_t 1 B5 rfl ?_
     refine ldI_t 2 B5 rfl ?_
     refine out_t (b := bk5) (i := 0) (by first | rfl | exact Sp.add_off) (fun hv_ => (by replace hv_ : _ ∧ _ := hv_; omega)) ?_
     refine ldB_t 0 B5 rfl ?_
     refine ldS_t 1 B5 rfl ?_
     refine ldI_t 2 B5 rfl ?_
     refine st3_t B3 rfl rfl rfl rfl fun u7 k_u7 B3 => ?_
     obtain ⟨B1, B2, B4, B5⟩ := up4 k_u7 B1 B2 B4 B5
     obtain ⟨A, X, Y_⟩ := axu3 k_u7 g3 A X Y_
     refine ⟨(k_u7.bar (V := V_ 1) (by show _ ∧ _; omega)), ?_⟩
     refine st3_t B4 rfl rfl rfl rfl fun u8 k_u8 B4 => ?_
     obtain ⟨B1, B2, B3, B5⟩ := up4 k_u8 B1 B2 B3 B5
     obtain ⟨A, X, Y_⟩ := axu3 k_u8 g4 A X Y_
     refine ldB_t 0 B3 rfl ?_
     refine ldS_t 1 B3 rfl ?_
     refine ldI_t 2 B3 rfl ?_
     refine ldB_t 0 B4 rfl ?_
     refine ldS_t 1 B4 rfl ?_
     refine ldI_t 2 B4 rfl ?_
     replace h := h _ X A
     exact ⟨A, h⟩
    ·clear h
     have h := h_
     clear h_
     refine ldB_t 0 B2 rfl ?_
     refine ldS_t 1 B2 rfl ?_
     refine ldI_t 2 B2 rfl ?_
     replace h := h _ X A
     refine Calls.mono h ?_
     clear h
     rintro e2 w5 ⟨b2, s2, x3, x4, he_, ha_w5, h⟩
     refine ⟨b2, s2, x3, x4, he_, ?_⟩
     clear he_
     obtain ⟨B1, B2, B3, B4, B5⟩ := ah5 ha_w5 B1 B2 B3 B4 B5
     obtain ⟨A, X⟩ := axa2 ha_w5 A X
     replace X : Ext w5 w5 := Ext.refl _
     refine newC_t fun bk6 u9 hb6 ha_u9 _ B6 => ?_
     have g6 := le_eq A.size hb6
     obtain ⟨_, _, _, _, _⟩ := lt5 hb6 B1 B2 B3 B4 B5
     obtain ⟨B1, B2, B3, B4, B5⟩ := ah5 ha_u9 B1 B2 B3 B4 B5
     obtain ⟨A, X⟩ := axa2 ha_u9 A X
     refine st3_t B6 rfl rfl rfl rfl fun u10 k_u10 B6 => ?_
     obtain ⟨B1, B2, B3, B4, B5⟩ := up5 k_u10 B1 B2 B3 B4 B5
     obtain ⟨A, X⟩ := axu2 k_u10 g6 A X
     have hd_ := Sp.Ahead.drew u10
     obtain ⟨B1, B2, B3, B4, B5, B6⟩ := ah6 hd_ B1 B2 B3 B4 B5 B6
     obtain ⟨A, X⟩ := axa2 hd_ A X
     clear hd_
     have z1 := B1.lt
     have z2 := B2.lt
     have z3 := B3.lt
     have z4 := B4.lt
     have z5 := B5.lt
     have z6 := B6.lt
     let V_ : Nat → Nat → Prop := fun (q_ k : Nat) => (k = bk3 ∨ k = bk4 ∨ u10.drew.heap.size ≤ k) ∧ 0 ≤ k
     refine ⟨V_, ?_⟩
     have Y_ : u10.drew.heap.size ≤ u10.drew.heap.size := Nat.le_refl _
     refine out_t (b := bk5) (i := 0) (by first | rfl | exact Sp.add_off) (fun hv_ => (by replace hv_ : _ ∧ _ := hv_; omega)) ?_
     refine ldB_t 0 B5 rfl ?_
     refine ldS_t 1 B5 rfl ?_
     refine ldI_t 2 B5 rfl ?_
     refine out_t (b := bk6) (i := 0) (by first | rfl | exact Sp.add_off) (fun hv_ => (by replace hv_ : _ ∧ _ := hv_; omega)) ?_
     refine ldB_t 0 B6 rfl ?_
     refine ldS_t 1 B6 rfl ?_
     refine ldI_t 2 B6 rfl ?_
     refine st3_t B3 rfl rfl rfl rfl fun u11 k_u11 B3 => ?_
     obtain ⟨B1, B2, B4, B5, B6⟩ := up5 k_u11 B1 B2 B4 B5 B6
     obtain ⟨A, X, Y_⟩ := axu3 k_u11 g3 A X Y_
     refine ⟨(k_u11.bar (V := V_ 1) (by show _ ∧ _; omega)), ?_⟩
     refine st3_t B4 rfl rfl rfl rfl fun u12 k_u12 B4 => ?_
     obtain ⟨B1, B2, B3, B5, B6⟩ := up5 k_u12 B1 B2 B3 B5 B6
     obtain ⟨A, X, Y_⟩ := axu3 k_u12 g4 A X Y_
     refine ldB_t 0 B3 rfl ?_
     refine ldS_t 1 B3 rfl ?_
     refine ldI_t 2 B3 rfl ?_
     refine ldB_t 0 B4 rfl ?_
     refine ldS_t 1 B4 rfl ?_
     refine ldI_t 2 B4 rfl ?_
     replace h := h _ X A
     exact ⟨A, h⟩

/-- surd/surdref06.Abs: function 56, its local variables as values. -/
theorem surdref06_Abs_v2 (a0_a_0 : Bool) (a0_a_1 : Slc) (w : World) (R : Ending → World → Prop)
    
    (h : ∀ w1, Ext w w1 → Ahead w w1 →
    (R (.returned (Value.agg #[Value.bool (false), a0_a_1.v])) w1))
     :
    Calls Tryd.prog 56 #[Value.agg #[Value.bool a0_a_0, a0_a_1.v]] w (fun e_ w_ => Ahead w w_ ∧ R e_ w_) := by
  refine surdref06_Abs_vc a0_a_0 a0_a_1 w _  ?_
  · have A : Ahead w w := Ahead.refl w
    have X : Ext w w := Ext.refl w
    refine newC_t fun bk1 u1 hb1 ha_u1 _ B1 => ?_
    have g1 := le_eq A.size hb1
    obtain ⟨A, X⟩ := axa2 ha_u1 A X
    refine newC_t fun bk2 u2 hb2 ha_u2 _ B2 => ?_
    have g2 := le_eq A.size hb2
    have l1_2 := lt1 hb2 B1
    replace B1 := B1.ahead ha_u2
    obtain ⟨A, X⟩ := axa2 ha_u2 A X
    refine ldS_t 1 B1 rfl ?_
    refine st2_t B2 rfl rfl rfl fun u3 k_u3 B2 => ?_
    replace B1 := up1 k_u3 B1
    obtain ⟨A, X⟩ := axu2 k_u3 g2 A X
    refine ldB_t 0 B2 rfl ?_
    refine ldS_t 1 B2 rfl ?_
    replace h := h _ X A
    exact ⟨A, h⟩

end Go.Proofs.YtahbekmnphkiiaaDoor
namespace Go.Proofs.YtahbekmnphkiiaaDoor
open Go Go.RowKit Eng Sp Dg L2
set_option linter.unusedVariables false
set_option linter.unusedSimpArgs false
set_option maxRecDepth 100000
namespace Dy
open _root_.Go.Proofs.YtahbekmnphkiiaaDoor.Nat (OwnNil Num Num.bl OwnNil.mono OwnNil.ext OwnNil.rd OwnNil.ahead OwnNil.nil digs_len_bl num_of Yes)
open _root_.Go.Proofs.YtahbekmnphkiiaaDoor.Ref (RN RN.nil RN.ext RN.ahead len_mono bl_len32 len32)
open Sb

def twC (e e' : Int) : Int := if wi e then if wi e' then 0 else 80 else 80
theorem twC_zero {e e' : Int} (h : twC e e' = 0) : wi e ∧ wi e' := by
  unfold twC at h
  split at h
  · split at h
    · exact ⟨by assumption, by assumption⟩
    · omega
  · omega
theorem twC_ok {e e' : Int} (h : wi e) (h' : wi e') : twC e e' = 0 := by rw [twC, if_pos h, if_pos h']
theorem two_spec {w : World} {neg neg' : Bool} {s s' : Slc} {x x' : Nat} {e e' : Int} (hT : Tab w) (h : Num w s x) (h' : Num w s' x') :
    Calls pr dyadic_two_id #[.agg (c3 neg s e), .agg (c3 neg' s' e')] w fun en w' => Ahead w w' ∧ ∃ b1 s1 x1 b2 s2 x2, en = .returned (.tuple #[.agg (c3 b1 s1 x1), .agg (c3 b2 s2 x2), .int .i64 (twC e e')]) ∧
      (twC e e' = 0 → b1 = nD neg x ∧ x1 = eD x e ∧ b2 = nD neg' x' ∧ x2 = eD x' e' ∧ OwnNil w.heap.size w' s1 (digs B64 (od x)) ∧ OwnNil w.heap.size w' s2 (digs B64 (od x'))) := by
  refine dyadic_two_v2 neg s e neg' s' e' w _ fun w1 X1 a1 => Calls.mono (read_spec (hT.ahead a1) (h.ahead a1)) ?_
  rintro en w2 ⟨h2, s1, rfl, o1⟩
  have a2 := a1.trans h2
  refine ⟨_, _, _, _, rfl, h2, br_intro (fun hw => ?_) (fun hw => ?_)⟩
  · have hw' : ¬ wi e := fun h => by rw [if_pos h] at hw; simp at hw
    have hc : twC e e' = 80 := if_neg hw'
    intro w3 X3 a3
    rw [hc, if_neg hw', if_neg hw', if_neg hw']
    exact ⟨_, _, _, _, _, _, rfl, fun h => by omega⟩
  · have hw' : wi e := by
      by_cases h : wi e
      · exact h
      · rw [if_neg h] at hw; simp at hw
    rw [if_pos hw'] at o1
    rw [if_pos hw', if_pos hw']
    intro w4 X4 a4
    refine Calls.mono (read_spec (hT.ahead a4) (h'.ahead a4)) ?_
    rintro en w5 ⟨h5, s2, rfl, o2⟩
    refine ⟨_, _, _, _, rfl, h5, fun w6 X6 a6 => ?_⟩
    have hc : twC e e' = if wi e' then 0 else 80 := if_pos hw'
    rw [hc]
    refine ⟨_, _, _, _, _, _, rfl, fun h0 => ?_⟩
    have hw2 : wi e' := by
      by_cases h : wi e'
      · exact h
      · rw [if_neg h] at h0; omega
    rw [if_pos hw2] at o2
    rw [if_pos hw2, if_pos hw2]
    exact ⟨rfl, rfl, rfl, rfl, (((o1.ext X4).ahead h5).ext X6).mono a1.size, (o2.ext X6).mono a4.size⟩
theorem far_eD {w : World} {s : Slc} {x : Nat} {e : Int} (h : Num w s x) (he : wi e) : far (eD x e) := by
  have := eD_far h he
  unfold far; omega
theorem Compare_spec {w : World} {neg neg' : Bool} {s s' : Slc} {x x' : Nat} {e e' : Int} (hT : Tab w) (h : Num w s x) (h' : Num w s' x') (hl : (digs B64 x).length + 2 ≤ 2 ^ 44) (hl' : (digs B64 x').length + 2 ≤ 2 ^ 44) :
    Calls pr dyadic_Compare_id #[.agg (c3 neg s e), .agg (c3 neg' s' e')] w fun en w' => Ahead w w' ∧ en = .returned (.tuple #[.int .i64 (if twC e e' = 0 then dcmp (sg (nD neg x) (od x)) (eD x e) (sg (nD neg' x') (od x')) (eD x' e') else 0), .int .i64 (twC e e')]) := by
  refine dyadic_Compare_v2 neg s e neg' s' e' w _ fun w1 X1 a1 => Calls.mono (two_spec (hT.ahead a1) (h.ahead a1) (h'.ahead a1)) ?_
  rintro en w2 ⟨h2, b1, s1, x1, b2, s2, x2, rfl, hh⟩
  refine ⟨_, _, _, _, _, _, _, rfl, h2, br_intro (fun hc => ?_) (fun hc => ?_)⟩
  · have hc' : twC e e' ≠ 0 := by simpa using hc
    rw [if_neg hc']
    exact fun w3 X3 a3 => rfl
  · have hc' : twC e e' = 0 := by simpa using hc
    obtain ⟨rfl, rfl, rfl, rfl, o1, o2⟩ := hh hc'
    obtain ⟨hw, hw'⟩ := twC_zero hc'
    rw [if_pos hc', hc']
    intro w4 X4 a4
    have l1 := len_mono two64 (od_le x)
    have l2 := len_mono two64 (od_le x')
    refine Calls.mono (compare_spec (o1.ext X4).rd (o2.ext X4).rd (by omega) (by omega) (far_eD h hw) (far_eD h' hw')) ?_
    rintro en w5 ⟨h5, rfl⟩
    exact ⟨_, rfl, h5, rfl⟩

theorem rdC_ok {neg : Bool} {x : Nat} {e pos m : Int} (h : wi e) (hp : wi pos) (hm : okM m) : rdC neg x e pos m = tC (rX (nD neg x) (od x) (eD x e) pos m) (rE (od x) (eD x e) pos) := by
  rw [rdC, if_pos h, if_pos hp, if_pos hm]

end Dy
end Go.Proofs.YtahbekmnphkiiaaDoor
namespace Go.Proofs.YtahbekmnphkiiaaDoor
open Go Go.RowKit Eng Sp Dg L2
set_option linter.unusedVariables false
set_option linter.unusedSimpArgs false
set_option maxRecDepth 100000
namespace Dy
open _root_.Go.Proofs.YtahbekmnphkiiaaDoor.Nat (OwnNil Num Num.bl OwnNil.mono OwnNil.ext OwnNil.rd OwnNil.ahead OwnNil.nil digs_len_bl num_of Yes)
open _root_.Go.Proofs.YtahbekmnphkiiaaDoor.Ref (RN RN.nil RN.ext RN.ahead Len_spec len_mono bl_len32 len32)
open Sb

/-- A dyadic in lowest terms, as a whole number and an exponent. -/
structure NZ (z e : Int) : Prop where
  o : od z.natAbs = z.natAbs
  z : z = 0 → e = 0
theorem NF.nz {neg : Bool} {n : Nat} {e : Int} (h : NF neg n e) : NZ (sg neg n) e :=
  ⟨by rw [sg_abs]; exact h.o, fun h0 => h.z (by have := congrArg Int.natAbs h0; rw [sg_abs] at this; simpa using this)⟩
theorem NF.zb {neg : Bool} {n : Nat} {e : Int} (h : NF neg n e) : Dy.zb (sg neg n) = neg := by rw [zb_sg, h.s]

theorem zb_abs (z : Int) : zb (z.natAbs : Int) = false := zb_nat _
theorem zAbs_spec {w : World} {s : Slc} {z : Int} : Calls pr surdref06_Abs_id #[.agg (c2 (zb z) s)] w fun en w' => Ahead w w' ∧ en = .returned (.agg (c2 false s)) :=
  surdref06_Abs_v2 (zb z) s w _ fun w1 X1 a1 => rfl
theorem dAbs_spec {w : World} {s : Slc} {z e : Int} (r : RN w s z.natAbs) : Calls pr surdref08_Abs_id #[.agg (c3 (zb z) s e)] w fun en w' => Ahead w w' ∧ ∃ s', en = .returned (.agg (c3 (zb (z.natAbs : Int)) s' e)) ∧ RN w' s' (z.natAbs : Int).natAbs := by
  refine surdref08_Abs_v2 (zb z) s e w _ fun w1 X1 a1 => Calls.mono zAbs_spec ?_
  rintro en w2 ⟨h2, rfl⟩
  exact ⟨_, _, rfl, h2, fun w3 X3 a3 => ⟨s, by rw [zb_abs], by rw [Int.natAbs_natCast]; exact r.ahead a3⟩⟩

theorem dv_add (x y e b : Int) : dv (x + y) e b = dv x e b + dv y e b := Int.add_mul _ _ _

end Dy
end Go.Proofs.YtahbekmnphkiiaaDoor
namespace Go.Proofs.YtahbekmnphkiiaaDoor
open Go Go.RowKit Eng Sp Dg L2
set_option linter.unusedVariables false
set_option linter.unusedSimpArgs false
set_option maxRecDepth 100000
namespace Dy
open _root_.Go.Proofs.YtahbekmnphkiiaaDoor.Nat (ldN ldNf stF stFf mkF Fill OwnNil Num Num.bl Num.ext OwnNil.mono OwnNil.ext OwnNil.rd OwnNil.ahead OwnNil.nil Norm_spec digs_len_bl num_of bigC bigC_ok leftC left_num Ret add_num sub_num cmp_num subC)
open _root_.Go.Proofs.YtahbekmnphkiiaaDoor.Ref (RN len_mono)
open Sb

theorem minus_spec {w : World} {p q : Slc} {x y : Nat} (hp : Rd .u64 w p (nn (digs B64 x))) (hq : Rd .u64 w q (nn (digs B64 y))) (hle : y ≤ x) (la : (digs B64 x).length ≤ 2 ^ 44) :
    Calls pr dyadic_minus_id #[p.v, q.v] w fun e w' => Ahead w w' ∧ ∃ s, e = .returned (Slc.v s) ∧ OwnNil w.heap.size w' s (digs B64 (x - y)) := by
  have hB := B64v
  have hna : p.n = (digs B64 x).length := by rw [hp.n, nn_length]
  have hnb : q.n = (digs B64 y).length := by rw [hq.n, nn_length]
  have hlen : (digs B64 y).length ≤ (digs B64 x).length := len_mono two64 hle
  have oa := ok_digs two64 x
  have ob := ok_digs two64 y
  have vx := val_digs two64 x
  have vy := val_digs two64 y
  generalize digs B64 x = A at *
  generalize digs B64 y = C at *
  refine dyadic_minus_vc p q w _ (fun s t out k n i w' => s = p ∧ t = q ∧ n = (A.length : Int) ∧ ∃ (l : List Nat) (j cr : Nat), k = (cr : Int) ∧ cr ≤ 1 ∧ i = (j : Int) ∧ j ≤ A.length ∧
    Fill w w' out l (fun _ => True) ∧ l.length = A.length ∧ ok B64 l ∧ val B64 (l.take j) + val B64 (C.take j) = val B64 (A.take j) + cr * B64 ^ j) (fun _ _ _ _ n i _ => (n - i).toNat) ?_ ?_
  · rw [hna]
    refine mkF (S := fun _ => True) (w0 := w) (by omega) (by omega) (Ahead.refl _) trivial ?_
    intro s w1 hsn hf ha
    refine ⟨rfl, rfl, by rw [hsn]; omega, _, 0, 0, rfl, by omega, rfl, Nat.zero_le _, hf, by rw [List.length_replicate]; omega, ok_replicate (by omega) _, by simp [val]⟩
  · rintro s t out k n i w1 ⟨rfl, rfl, rfl, l, j, cr, rfl, hcr, rfl, hj, hf, hl, ol, hv⟩
    refine br_intro (fun hlt => ?_) (fun hge => ?_)
    · have hj' : j < A.length := by have := of_decide_eq_true hlt; omega
      refine Calls.mono (limb_spec (hp.ahead hf.base) (by omega)) ?_
      rintro e w2 ⟨rfl, rfl⟩
      refine ⟨_, rfl, Calls.mono (limb_spec (hq.ahead hf.base) (by omega)) ?_⟩
      rintro e w3 ⟨rfl, rfl⟩
      refine ⟨_, rfl, ?_⟩
      rw [Int.toNat_natCast]
      have hx := ok_getD oa (by omega : 0 < B64) j
      have hy := ok_getD ob (by omega : 0 < B64) j
      have e8 : IntKind.i64.wrap ((j : Int) + 1) = ((j + 1 : Nat) : Int) := by rw [wrap_i64 (by omega) (by omega)]; omega
      have t1 := val_take_succ' A j (B := B64)
      have t2 := val_take_succ' C j (B := B64)
      generalize A.getD j 0 = a at *
      generalize C.getD j 0 = c at *
      have e2 : IntKind.u64.wrap (IntKind.u64.wrap ((a : Int) - (c : Int)) - (cr : Int)) = (((a + 2 * B64 - c - cr) % B64 : Nat) : Int) := by rw [wrap_u64, wrap_u64, hB]; rw [hB] at hx hy; omega
      rw [e2]
      have fin : ∀ cr' : Nat, cr' = (if a < c + cr then 1 else 0) → semA pr (Instr.indexAt 35 out.v (.int .i64 (j : Int))) w3 fun ad1 w4 => stC ad1 (.int .u64 (((a + 2 * B64 - c - cr) % B64 : Nat) : Int)) w4 fun w5 =>
          (s = s ∧ t = t ∧ (A.length : Int) = (A.length : Int) ∧ ∃ (l : List Nat) (j' cr : Nat), (cr' : Int) = (cr : Int) ∧ cr ≤ 1 ∧ IntKind.i64.wrap ((j : Int) + 1) = (j' : Int) ∧ j' ≤ A.length ∧
    Fill w w5 out l (fun _ => True) ∧ l.length = A.length ∧ ok B64 l ∧ val B64 (l.take j') + val B64 (C.take j') = val B64 (A.take j') + cr * B64 ^ j') ∧ ((A.length : Int) - IntKind.i64.wrap ((j : Int) + 1)).toNat < ((A.length : Int) - (j : Int)).toNat := by
        intro cr' hc'
        refine stF hf (by omega) (by omega) ?_
        intro w5 hf5
        simp only [Int.toNat_natCast] at hf5
        refine ⟨⟨rfl, rfl, rfl, _, j + 1, cr', rfl, by rw [hc']; split <;> omega, e8, hj', hf5, by simpa using hl, ok_set ol (Nat.mod_lt _ (by omega)), ?_⟩, by rw [e8]; omega⟩
        rw [val_take_set _ _ _ (by omega), t1, t2, Nat.pow_succ]
        refine sub_step ?_ hv
        rw [hc', hB]
        rw [hB] at hx hy
        split <;> omega
      refine br_intro (fun h1 => ?_) (fun h1 => br_intro (fun h2 => br_intro (fun h3 => ?_) (fun h3 => ?_)) (fun h2 => ?_))
      · exact fin 1 (by have := of_decide_eq_true h1; rw [if_pos (by omega)])
      · have q2 : a = c := by have := eq_of_beq h2; omega
        have q3 : cr = 1 := by have := eq_of_beq h3; omega
        exact fin 1 (by rw [if_pos (by omega)])
      · have q2 : a = c := by have := eq_of_beq h2; omega
        have q3 : cr ≠ 1 := fun h => by rw [h] at h3; simp at h3
        exact fin 0 (by rw [if_neg (by omega)])
      · have q1 := of_decide_eq_false h1
        have q2 : a ≠ c := fun h => by rw [h] at h2; simp at h2
        exact fin 0 (by rw [if_neg (by omega)])
    · have hj' : j = A.length := by have := of_decide_eq_false hge; omega
      subst hj'
      rw [val_take_all l (by omega), val_take_all A (by omega), val_take_all C (by omega), vx, vy] at hv
      have hlt := val_lt ol
      rw [hl] at hlt
      have h3 : cr = 0 := by
        rcases Nat.lt_or_ge cr 1 with h | h
        · omega
        · have hc1 : cr = 1 := by omega
          subst hc1
          omega
      subst h3
      have hv' : val B64 l = x - y := by omega
      refine Calls.mono (Norm_spec hf.rd (by omega) ol) ?_
      rw [hv']
      rintro e w6 ⟨h6, s', rfl, hr⟩
      exact ⟨_, rfl, hf.base.trans h6, _, rfl, hr.mono hf.base.size⟩

/-- z times 2^E is v times 2^b, in lowest terms. -/
structure Vl (z E b v : Int) : Prop where
  nz : NZ z E
  le : b ≤ E
  val : dv z E b = v
/-- What told makes of a number. -/
theorem Vl.told {neg : Bool} {X : Nat} {E b v : Int} (hb : b ≤ E) (h0 : b ≤ 0) (h : dv (sg neg X) E b = v) : Vl (sg (nD neg X) (od X)) (eD X E) b v := by
  refine ⟨(NF.of neg X E).nz, by unfold eD; split <;> omega, ?_⟩
  rw [dv_od hb, h]

end Dy
end Go.Proofs.YtahbekmnphkiiaaDoor
namespace Go.Proofs.YtahbekmnphkiiaaDoor
open Go Go.RowKit Eng Sp Dg
set_option linter.unusedVariables false
set_option linter.unusedSimpArgs false
set_option maxRecDepth 100000
namespace Mul
open _root_.Go.Proofs.YtahbekmnphkiiaaDoor.Nat (ldN ldNf stN mkN Fill mkF stF stFf Num OwnNil add64 sub64)

theorem row_step (x y o cr : Nat) (hx : x < B64) (hy : y < B64) (ho : o < B64) (hc : cr < B64) :
    (o + (x * y % B64 + cr) % B64) % B64 + B64 * (x * y / B64 + (x * y % B64 + cr) / B64 + (o + (x * y % B64 + cr) % B64) / B64) = o + x * y + cr ∧
      x * y / B64 + (x * y % B64 + cr) / B64 + (o + (x * y % B64 + cr) % B64) / B64 < B64 := by
  have hB := B64v
  have h1 := Nat.mod_add_div (x * y) B64
  have h2 := Nat.mod_add_div (x * y % B64 + cr) B64
  have h3 := Nat.mod_add_div (o + (x * y % B64 + cr) % B64) B64
  have hxy : x * y ≤ (B64 - 1) * (B64 - 1) := Nat.mul_le_mul (by omega) (by omega)
  generalize (o + (x * y % B64 + cr) % B64) % B64 = s at *
  generalize (o + (x * y % B64 + cr) % B64) / B64 = c2 at *
  generalize (x * y % B64 + cr) % B64 = lo2 at *
  generalize (x * y % B64 + cr) / B64 = c1 at *
  generalize x * y % B64 = lo at *
  generalize x * y / B64 = hi at *
  generalize x * y = p at *
  have e : s + B64 * (hi + c1 + c2) = o + p + cr := by rw [Nat.mul_add, Nat.mul_add]; omega
  refine ⟨e, ?_⟩
  rcases Nat.lt_or_ge (hi + c1 + c2) B64 with h | h
  · exact h
  · exfalso
    have h5 := Nat.mul_le_mul_left B64 h
    have h6 : (B64 - 1) * (B64 - 1) + 2 * B64 = B64 * B64 + 1 := by decide
    clear h1 h2 h3
    generalize (B64 - 1) * (B64 - 1) = Q at *
    generalize B64 * B64 = BB at *
    generalize B64 * (hi + c1 + c2) = T at *
    omega

theorem school_spec {w : World} {a b : Slc} {la lb : List Nat} (ha : Rd .u64 w a (nn la)) (hb : Rd .u64 w b (nn lb)) (oa : ok B64 la) (ob : ok B64 lb) (nab : la.length + lb.length ≤ 2 ^ 45) :
    Calls pr mul_school_id #[a.v, b.v] w fun e w' => Ahead w w' ∧ ∃ s l, e = .returned (Slc.v s) ∧ OwnNil w.heap.size w' s l ∧ l.length = la.length + lb.length ∧ ok B64 l ∧ val B64 l = val B64 la * val B64 lb := by
  have hB := B64v
  have hna : a.n = la.length := by rw [ha.n, nn_length]
  have hnb : b.n = lb.length := by rw [hb.n, nn_length]
  refine mul_school_vc a b w _
    (fun t1 out t20 t21 t22 w' => t1 = b ∧ t20 = a ∧ t21 = (la.length : Int) ∧ Ahead w w' ∧ ∃ (i : Nat) (l : List Nat), t22 = (i : Int) ∧ i ≤ la.length ∧ Own .u64 tU64 w' out (nn l) w.heap.size ∧ out.c ≤ maxLen ∧ l.length = la.length + lb.length ∧ ok B64 l ∧
      (∀ j, i + lb.length ≤ j → j < l.length → l.getD j 0 = 0) ∧ val B64 l = val B64 (la.take i) * val B64 lb)
    (fun _ _ _ n i _ => (n - i).toNat)
    (fun o1 o5 o20 o21 o22 ow t1 out t6 t7 t8 t20 t21 t22 t27 t28 t29 w' => o21 = t21 ∧ o22 = t22 ∧ t1 = b ∧ t20 = a ∧ t21 = (la.length : Int) ∧ t27 = b ∧ t28 = (lb.length : Int) ∧ Ahead w w' ∧ ∃ (i k cr : Nat) (l : List Nat), t6 = (i : Int) ∧ t22 = (i : Int) ∧ i < la.length ∧ t7 = ((la.getD i 0 : Nat) : Int) ∧
      t8 = (cr : Int) ∧ cr < B64 ∧ t29 = (k : Int) ∧ k ≤ lb.length ∧ Own .u64 tU64 w' out (nn l) w.heap.size ∧ out.c ≤ maxLen ∧ l.length = la.length + lb.length ∧ ok B64 l ∧
      (∀ j, i + lb.length ≤ j → j < l.length → l.getD j 0 = 0) ∧ val B64 l + cr * B64 ^ (i + k) = val B64 (la.take i) * val B64 lb + la.getD i 0 * val B64 (lb.take k) * B64 ^ i)
    (fun _ _ _ _ _ _ _ _ _ _ _ _ _ _ _ n k _ => (n - k).toNat) ?_ ?_ ?_
  · rw [hna, hnb, wrap_i64 (by omega) (by omega)]
    refine mkN (by omega) (by omega) ?_
    intro c w1 hc ho h1 hs1
    refine ⟨rfl, rfl, rfl, h1, 0, _, rfl, Nat.zero_le _, ho, by rw [hc]; unfold maxLen; omega, by rw [List.length_replicate]; omega, ok_replicate (by omega) _, fun j h2 h3 => ?_, by rw [val_replicate]; simp [val]⟩
    rw [List.length_replicate] at h3
    simp [List.getD_eq_getElem?_getD, List.getElem?_replicate, h3]
  · rintro t1 out t20 t21 t22 w1 ⟨rfl, rfl, rfl, h1, i, l, rfl, hi, ho, hoc, hl, ol, hz, hv⟩
    refine br_intro (fun hlt => ?_) (fun hge => ?_)
    · have hi' : i < la.length := by simp at hlt; omega
      refine ldN (ha.ahead h1) (by omega) (by omega) ?_
      rw [Int.toNat_natCast]
      exact ⟨rfl, rfl, rfl, rfl, rfl, rfl, by rw [hnb], h1, i, 0, 0, l, rfl, rfl, hi', rfl, rfl, by omega, rfl, Nat.zero_le _, ho, hoc, hl, ol, hz, by simp [val, hv]⟩
    · have hi' : i = la.length := by simp at hge; omega
      subst hi'
      exact ⟨h1, out, l, rfl, .inr ⟨_, Nat.le_refl _, hoc, ho⟩, hl, ol, by rw [hv, List.take_length]⟩
  · rintro o1 o5 o20 o21 o22 ow _ t1 out t6 t7 t8 t20 t21 t22 t27 t28 t29 w1 ⟨rfl, rfl, rfl, rfl, rfl, rfl, rfl, h1, i, k, cr, l, rfl, rfl, hi, rfl, rfl, hcr, rfl, hk, ho, hoc, hl, ol, hz, hv⟩
    have hx := ok_getD oa (by omega : 0 < B64) i
    refine br_intro (fun hlt => ?_) (fun hge => ?_)
    · have hk' : k < lb.length := by simp at hlt; omega
      have e8 : IntKind.i64.wrap ((k : Int) + 1) = ((k + 1 : Nat) : Int) := by rw [wrap_i64 (by omega) (by omega)]; omega
      have hy := ok_getD ob (by omega : 0 < B64) k
      have hoo := ok_getD ol (by omega : 0 < B64) (i + k)
      refine ldN (hb.ahead h1) (by omega) (by omega) ?_
      rw [Int.toNat_natCast]
      refine Calls.mono (Tryd.bits_Mul64 _ _ (by omega) (by omega) _) ?_
      rintro e w4 ⟨rfl, rfl⟩
      refine ⟨_, _, rfl, ?_⟩
      rw [← B64v]
      refine add64 (c := 0) (by omega) ?_
      rw [wrap_i64 (x := (i : Int) + (k : Int)) (by omega) (by omega), show (i : Int) + (k : Int) = ((i + k : Nat) : Int) by omega]
      refine ldN ho.rd (by omega) (by omega) ?_
      rw [Int.toNat_natCast]
      refine add64 (c := 0) (by omega) ?_
      refine stO ho (by omega) (by omega) ?_
      intro w9 ho9 hon9
      rw [Int.toNat_natCast] at ho9
      obtain ⟨r1, r2⟩ := row_step (la.getD i 0) (lb.getD k 0) (l.getD (i + k) 0) cr hx hy hoo hcr
      simp only [Nat.add_zero] at ho9 ⊢
      have vs := val_set (B := B64) l (i + k) ((l.getD (i + k) 0 + (la.getD i 0 * lb.getD k 0 % B64 + cr) % B64) % B64) (by omega)
      have tk := val_take_succ' lb k (B := B64)
      have hsB : (l.getD (i + k) 0 + (la.getD i 0 * lb.getD k 0 % B64 + cr) % B64) % B64 < B64 := Nat.mod_lt _ (by omega)
      generalize (l.getD (i + k) 0 + (la.getD i 0 * lb.getD k 0 % B64 + cr) % B64) % B64 = s at *
      generalize la.getD i 0 * lb.getD k 0 / B64 = hi' at *
      generalize (la.getD i 0 * lb.getD k 0 % B64 + cr) / B64 = c1 at *
      generalize (l.getD (i + k) 0 + (la.getD i 0 * lb.getD k 0 % B64 + cr) % B64) / B64 = c2 at *
      have ec : IntKind.u64.wrap (IntKind.u64.wrap ((hi' : Int) + (c1 : Int)) + (c2 : Int)) = ((hi' + c1 + c2 : Nat) : Int) := by
        rw [wrap_u64' (x := (hi' : Int) + c1) (by omega) (by omega), wrap_u64' (by omega) (by omega)]; omega
      rw [ec, e8]
      refine ⟨⟨by trivial, by trivial, by trivial, by trivial, by trivial, by trivial, by trivial, hon9.ahead h1 (Nat.le_refl _), i, k + 1, _, _, rfl, rfl, hi, rfl, rfl, r2, rfl, hk', ho9, hoc, by simpa using hl, ok_set ol hsB, fun j h2 h3 => ?_, ?_⟩, by omega⟩
      · rw [List.length_set] at h3
        rw [getD_set _ _ _ _ (by omega), if_neg (by omega)]
        exact hz j h2 h3
      · rw [tk, show i + (k + 1) = i + k + 1 by omega, Nat.pow_succ]
        have e1 : la.getD i 0 * (val B64 (lb.take k) + B64 ^ k * lb.getD k 0) * B64 ^ i = la.getD i 0 * val B64 (lb.take k) * B64 ^ i + B64 ^ (i + k) * (la.getD i 0 * lb.getD k 0) := by
          rw [Nat.mul_add, Nat.add_mul, Nat.pow_add]; congr 1; ac_rfl
        rw [e1, ← Nat.add_assoc, ← hv]
        generalize la.getD i 0 * lb.getD k 0 = xy at *
        generalize l.getD (i + k) 0 = o at *
        generalize B64 ^ (i + k) = P at *
        have e2 : P * s + (hi' + c1 + c2) * (P * B64) = P * o + P * xy + cr * P := by
          have f1 : P * (s + B64 * (hi' + c1 + c2)) = P * s + (hi' + c1 + c2) * (P * B64) := by rw [Nat.mul_add]; congr 1; ac_rfl
          have f2 : P * (o + xy + cr) = P * o + P * xy + cr * P := by rw [Nat.mul_add, Nat.mul_add, Nat.mul_comm P cr]
          rw [← f1, r1, f2]
        omega
    · have hk' : k = lb.length := by simp at hge; omega
      subst hk'
      have e8 : IntKind.i64.wrap ((i : Int) + 1) = ((i + 1 : Nat) : Int) := by rw [wrap_i64 (by omega) (by omega)]; omega
      rw [hnb, wrap_i64 (x := (i : Int) + ((lb.length : Nat) : Int)) (by omega) (by omega), show (i : Int) + ((lb.length : Nat) : Int) = ((i + lb.length : Nat) : Int) by omega]
      refine stO ho (by omega) (by omega) ?_
      intro w9 ho9 hon9
      rw [Int.toNat_natCast] at ho9
      have hzero := hz (i + lb.length) (Nat.le_refl _) (by omega)
      refine ⟨⟨rfl, rfl, rfl, hon9.ahead h1 (Nat.le_refl _), i + 1, _, e8, hi, ho9, hoc, by simpa using hl, ok_set ol hcr, fun j h2 h3 => ?_, ?_⟩, by rw [e8]; omega⟩
      · rw [List.length_set] at h3
        rw [getD_set _ _ _ _ (by omega), if_neg (by omega)]
        exact hz j (by omega) h3
      · have vs := val_set (B := B64) l (i + lb.length) cr (by omega)
        rw [hzero, Nat.mul_zero, Nat.add_zero] at vs
        rw [vs, Nat.mul_comm (B64 ^ (i + lb.length)), hv, List.take_length, val_take_succ', Nat.add_mul]
        congr 1
        ac_rfl

end Mul
end Go.Proofs.YtahbekmnphkiiaaDoor
namespace Go.Proofs.YtahbekmnphkiiaaDoor
open Go Go.RowKit Eng Sp Dg
set_option linter.unusedVariables false
set_option linter.unusedSimpArgs false
set_option maxRecDepth 100000
namespace Mul
open _root_.Go.Proofs.YtahbekmnphkiiaaDoor.Nat (ldN ldNf stN mkN Fill mkF stF stFf Num OwnNil add64 sub64 len_le Norm_spec)

theorem part_lo {w : World} {a : Slc} {l : List Nat} (h : Rd .u64 w a (nn l)) (ol : ok B64 l) (ll : l.length ≤ 2 ^ 46) (k : Nat) :
    Calls pr mul_part_id #[a.v, .int .i64 0, .int .i64 (k : Int)] w fun e w' => w' = w ∧ ∃ s, e = .returned (Slc.v s) ∧ Rd .u64 w s (nn (digs B64 (val B64 (l.take k)))) ∧ (digs B64 (val B64 (l.take k))).length ≤ k := by
  refine Calls.mono (part_spec h ol ll (f := 0) (t := (k : Int)) (by omega) (by simp) (by omega)) ?_
  rintro e w' ⟨rfl, s, rfl, hr⟩
  have e1 : (l.drop (min (0 : Int).toNat l.length)).take (min ((k : Int)).toNat l.length - min (0 : Int).toNat l.length) = l.take k := by
    simp
  rw [e1] at hr
  exact ⟨rfl, s, rfl, hr, Nat.le_trans (len_le (ok_take ol k)) (by simp; omega)⟩
theorem part_hi {w : World} {a : Slc} {l : List Nat} (h : Rd .u64 w a (nn l)) (ol : ok B64 l) (ll : l.length ≤ 2 ^ 46) (k : Nat) (n : Nat) (hn : n = l.length) :
    Calls pr mul_part_id #[a.v, .int .i64 (k : Int), .int .i64 (n : Int)] w fun e w' => w' = w ∧ ∃ s, e = .returned (Slc.v s) ∧ Rd .u64 w s (nn (digs B64 (val B64 (l.drop k)))) ∧ (digs B64 (val B64 (l.drop k))).length ≤ l.length - k := by
  refine Calls.mono (part_spec h ol ll (f := (k : Int)) (t := (n : Int)) (by omega) (by simp; omega) (by omega)) ?_
  rintro e w' ⟨rfl, s, rfl, hr⟩
  have e1 : (l.drop (min ((k : Int)).toNat l.length)).take (min ((n : Int)).toNat l.length - min ((k : Int)).toNat l.length) = l.drop k := by
    rw [hn]
    simp
    rw [Nat.min_def]; split
    · rw [List.take_of_length_le (by simp)]
    · rw [List.drop_of_length_le (Nat.le_refl _), List.drop_of_length_le (by omega)]; simp
  rw [e1] at hr
  exact ⟨rfl, s, rfl, hr, Nat.le_trans (len_le (ok_drop ol k)) (by simp)⟩

/-- An answer that is a row of the call's own with limbs of the number. -/
def Res (w : World) (N m : Nat) (e : Ending) (w' : World) : Prop := Ahead w w' ∧ ∃ s l, e = .returned (Slc.v s) ∧ OwnNil w.heap.size w' s l ∧ l.length ≤ m ∧ ok B64 l ∧ val B64 l = N

theorem kara (A B C D P : Nat) : A * C + ((A + B) * (C + D) - A * C - B * D) * P + B * D * (P * P) = (A + P * B) * (C + P * D) := by
  have h1 : (A + B) * (C + D) = A * C + A * D + B * C + B * D := by rw [Nat.add_mul, Nat.mul_add, Nat.mul_add]; omega
  have h2 : (A + B) * (C + D) - A * C - B * D = A * D + B * C := by rw [h1]; omega
  rw [h2, Nat.add_mul (A * D), Nat.mul_add (A + P * B), Nat.add_mul A, Nat.add_mul A]
  have e1 : A * (P * D) = A * D * P := by ac_rfl
  have e2 : P * B * C = B * C * P := by ac_rfl
  have e3 : P * B * (P * D) = B * D * (P * P) := by ac_rfl
  rw [e1, e2, e3]
  omega

set_option maxHeartbeats 2000000 in
theorem halved_spec : ∀ (n : Nat) (w : World) (a : Slc) (la : List Nat) (ha : Rd .u64 w a (nn la)) (oa : ok B64 la) (b : Slc) (lb : List Nat) (hb : Rd .u64 w b (nn lb)) (ob : ok B64 lb) (cut : Int) (hc0 : 4 ≤ cut) (hc1 : cut ≤ 9223372036854775807)
    (hsz : la.length + lb.length + 4 ≤ 2 ^ 44) (hn : la.length + lb.length ≤ n), Calls pr mul_halved_id #[a.v, b.v, .int .i64 cut] w (Res w (val B64 la * val B64 lb) (la.length + lb.length + 1)) := by
  have hB := B64v
  intro n
  induction n using Nat.strongRecOn with
  | ind n ih =>
  intro w a la ha oa b lb hb ob cut hc0 hc1 hsz hn
  have hna : a.n = la.length := by rw [ha.n, nn_length]
  have hnb : b.n = lb.length := by rw [hb.n, nn_length]
  refine mul_halved_vc a b cut w _ ?_
  have key : ∀ m, m < la.length + lb.length → ∀ (w : World) (a : Slc) (la : List Nat) (ha : Rd .u64 w a (nn la)) (oa : ok B64 la) (b : Slc) (lb : List Nat) (hb : Rd .u64 w b (nn lb)) (ob : ok B64 lb),
      la.length + lb.length + 4 ≤ 2 ^ 44 → la.length + lb.length ≤ m → Calls pr mul_halved_id #[a.v, b.v, .int .i64 cut] w (Res w (val B64 la * val B64 lb) (la.length + lb.length + 1)) :=
    fun m hm w a la ha oa b lb hb ob h1 h2 => ih m (by omega) w a la ha oa b lb hb ob cut hc0 hc1 h1 h2
  clear ih hn
  refine br_intro (fun hlt => ?_) (fun hge => ?_)
  have hle : la.length ≤ lb.length := by simp at hlt; omega
  clear hlt
  obtain ⟨p, e⟩ : ∃ p, p = b := ⟨_, rfl⟩
  subst e
  obtain ⟨q, e⟩ : ∃ q, q = a := ⟨_, rfl⟩
  subst e
  obtain ⟨lp, e⟩ : ∃ lp, lp = lb := ⟨_, rfl⟩
  subst e
  obtain ⟨lq, e⟩ : ∃ lq, lq = la := ⟨_, rfl⟩
  subst e
  rw [Nat.mul_comm, Nat.add_comm lq.length lp.length]
  rw [Nat.add_comm lq.length lp.length] at hsz key
  have hp := hb
  have hq := ha
  have op := ob
  have oq := oa
  have hnp := hnb
  have hnq := hna
  clear ha hb oa ob hna hnb
  rotate_left 1
  have hle : lb.length ≤ la.length := by simp at hge; omega
  clear hge
  obtain ⟨p, e⟩ : ∃ p, p = a := ⟨_, rfl⟩
  subst e
  obtain ⟨q, e⟩ : ∃ q, q = b := ⟨_, rfl⟩
  subst e
  obtain ⟨lp, e⟩ : ∃ lp, lp = la := ⟨_, rfl⟩
  subst e
  obtain ⟨lq, e⟩ : ∃ lq, lq = lb := ⟨_, rfl⟩
  subst e
  have hp := ha
  have hq := hb
  have op := oa
  have oq := ob
  have hnp := hna
  have hnq := hnb
  clear ha hb oa ob hna hnb
  rotate_left 1
  all_goals
    have hXY : val B64 lp * val B64 lq < B64 ^ (lp.length + lq.length + 1) := by
      have h1 := val_lt op
      have h2 := val_lt oq
      have h3 : val B64 lp * val B64 lq < B64 ^ (lp.length + lq.length) := by
        rw [Nat.pow_add]; exact Nat.mul_lt_mul_of_lt_of_lt h1 h2
      exact Nat.lt_of_lt_of_le h3 (Nat.pow_le_pow_right (by omega) (by omega))
    refine br_intro (fun hs => ?_) (fun hs => ?_)
    · refine Calls.mono (school_spec hp hq op oq (by omega)) ?_
      rintro e w1 ⟨h1, s, l, rfl, ho, hl, ol, hv⟩
      exact ⟨_, rfl, h1, s, l, rfl, ho, by omega, ol, hv⟩
    · have hq4 : 4 ≤ lq.length := by simp at hs; omega
      have ek : IntKind.i64.wrap (Int.tdiv (IntKind.i64.wrap ((p.n : Int) + 1)) 2) = (((lp.length + 1) / 2 : Nat) : Int) := by
        rw [wrap_i64 (x := (p.n : Int) + 1) (by omega) (by omega), Int.tdiv_eq_ediv_of_nonneg (by omega), wrap_i64 (by omega) (by omega)]; omega
      have em : IntKind.i64.wrap (IntKind.i64.wrap ((p.n : Int) + (q.n : Int)) + 1) = ((lp.length + lq.length + 1 : Nat) : Int) := by
        rw [wrap_i64 (x := (p.n : Int) + (q.n : Int)) (by omega) (by omega), wrap_i64 (by omega) (by omega)]; omega
      rw [ek, em]
      generalize hk : (lp.length + 1) / 2 = k at *
      have hX : val B64 lp = val B64 (lp.take k) + B64 ^ k * val B64 (lp.drop k) := val_take_drop lp k (by omega)
      refine br_intro (fun hu => ?_) (fun hu => ?_)
      · -- the shorter one is not parted
        refine mkN (by omega) (by omega) ?_
        intro c w2 hcc ho2 h2 hs2
        have hlc : (List.replicate ((lp.length + lq.length + 1 : Nat) : Int).toNat 0).length = lp.length + lq.length + 1 := by rw [List.length_replicate]; omega
        have hvc : val B64 (List.replicate ((lp.length + lq.length + 1 : Nat) : Int).toNat 0) = 0 := val_replicate _
        have olc : ok B64 (List.replicate ((lp.length + lq.length + 1 : Nat) : Int).toNat 0) := ok_replicate (by omega) _
        generalize List.replicate ((lp.length + lq.length + 1 : Nat) : Int).toNat 0 = C0 at *
        refine Calls.mono (part_lo (hp.ahead h2) op (by omega) k) ?_
        rintro e w3 ⟨rfl, s3, rfl, r3, l3⟩
        refine ⟨_, rfl, Calls.mono (key (k + lq.length) (by omega) _ _ _ r3 (ok_digs two64 _) _ _ (hq.ahead h2) oq (by omega) (by omega)) ?_⟩
        rintro e w4 ⟨h4, s4, L4, rfl, o4, n4, k4, v4⟩
        rw [val_digs two64] at v4
        have hpos : 0 < B64 ^ k := Nat.pow_pos (by omega)
        have hsum : val B64 lp * val B64 lq = val B64 (lp.take k) * val B64 lq + val B64 (lp.drop k) * val B64 lq * B64 ^ k := by
          rw [hX, Nat.add_mul]; congr 1; ac_rfl
        refine ⟨_, rfl, Calls.mono (addAt_spec (at_ := 0) (ho2.ahead h4) o4.rd (off_new o4 (by omega)) olc k4 (by omega) (by omega) (Nat.zero_le _) ?_) ?_⟩
        · rw [hvc, v4, hlc, Nat.pow_zero, Nat.mul_one, Nat.zero_add]
          exact Nat.lt_of_le_of_lt (by rw [hsum]; exact Nat.le_add_right _ _) hXY
        rintro e w5 ⟨rfl, hon5, l5, o5, n5, k5, v5⟩
        have h5 : Ahead w w5 := hon5.ahead (h2.trans h4) (Nat.le_refl _)
        refine ⟨rfl, ?_⟩
        rw [hnp]
        refine Calls.mono (part_hi (hp.ahead h5) op (by omega) k _ rfl) ?_
        rintro e w6 ⟨rfl, s5, rfl, r5, l5'⟩
        refine ⟨_, rfl, Calls.mono (key (lp.length - k + lq.length) (by omega) _ _ _ r5 (ok_digs two64 _) _ _ (hq.ahead h5) oq (by omega) (by omega)) ?_⟩
        rintro e w7 ⟨h7, s6, L6, rfl, o6, n6, k6, v6⟩
        rw [val_digs two64] at v6
        have hlt5 := o5.lt
        refine ⟨_, rfl, Calls.mono (addAt_spec (at_ := k) (o5.ahead h7) o6.rd (off_new o6 (by omega)) k5 k6 (by omega) (by omega) (by omega) ?_) ?_⟩
        · rw [v5, v6, n5, hlc, hvc, v4, Nat.pow_zero, Nat.mul_one, Nat.zero_add, ← hsum]
          exact hXY
        rintro e w8 ⟨rfl, hon8, l8, o8, n8, k8, v8⟩
        refine ⟨rfl, hon8.ahead (h5.trans h7) (Nat.le_refl _), c, l8, rfl, .inr ⟨_, Nat.le_refl _, by rw [hcc]; unfold maxLen; omega, o8⟩, by omega, k8, ?_⟩
        rw [v8, v5, v6, hvc, v4, Nat.pow_zero, Nat.mul_one, Nat.zero_add, hsum]
      · have hu' : k < lq.length := by simp at hu; omega
        have hY : val B64 lq = val B64 (lq.take k) + B64 ^ k * val B64 (lq.drop k) := val_take_drop lq k (by omega)
        refine Calls.mono (part_lo hp op (by omega) k) ?_
        rintro e w9 ⟨rfl, al, rfl, ral, nal⟩
        refine ⟨_, rfl, ?_⟩
        rw [hnp]
        refine Calls.mono (part_hi hp op (by omega) k _ rfl) ?_
        rintro e w10 ⟨rfl, ah, rfl, rah, nah⟩
        refine ⟨_, rfl, Calls.mono (part_lo hq oq (by omega) k) ?_⟩
        rintro e w11 ⟨rfl, bl', rfl, rbl, nbl⟩
        refine ⟨_, rfl, ?_⟩
        rw [hnq]
        refine Calls.mono (part_hi hq oq (by omega) k _ rfl) ?_
        rintro e w12 ⟨rfl, bh, rfl, rbh, nbh⟩
        have kal := ok_digs two64 (val B64 (lp.take k))
        have kah := ok_digs two64 (val B64 (lp.drop k))
        have kbl := ok_digs two64 (val B64 (lq.take k))
        have kbh := ok_digs two64 (val B64 (lq.drop k))
        have val1 := val_digs two64 (val B64 (lp.take k))
        have val2 := val_digs two64 (val B64 (lp.drop k))
        have val3 := val_digs two64 (val B64 (lq.take k))
        have val4 := val_digs two64 (val B64 (lq.drop k))
        generalize val B64 (lp.take k) = A at *
        generalize val B64 (lp.drop k) = B at *
        generalize val B64 (lq.take k) = C at *
        generalize val B64 (lq.drop k) = D at *
        refine ⟨_, rfl, Calls.mono (key (k + k) (by omega) _ _ _ ral kal _ _ rbl kbl (by omega) (by omega)) ?_⟩
        rintro e w13 ⟨h13, s11, L11, rfl, o11, n11, k11, v11⟩
        refine ⟨_, rfl, Calls.mono (key (lp.length - k + (lq.length - k)) (by omega) _ _ _ (rah.ahead h13) kah _ _ (rbh.ahead h13) kbh (by omega) (by omega)) ?_⟩
        rintro e w14 ⟨h14, s12, L12, rfl, o12, n12, k12, v12⟩
        have h014 := h13.trans h14
        refine ⟨_, rfl, Calls.mono (sum_spec (ral.ahead h014) (rah.ahead h014) kal kah (by omega) (by omega)) ?_⟩
        rintro e w15 ⟨h15, s13, L13, rfl, o13, n13, k13, v13⟩
        refine ⟨_, rfl, Calls.mono (Norm_spec o13.rd (by omega) k13) ?_⟩
        rintro e w16 ⟨h16, s14, rfl, o14⟩
        have h016 := (h014.trans h15).trans h16
        refine ⟨_, rfl, Calls.mono (sum_spec (rbl.ahead h016) (rbh.ahead h016) kbl kbh (by omega) (by omega)) ?_⟩
        rintro e w17 ⟨h17, s15, L15, rfl, o15, n15, k15, v15⟩
        refine ⟨_, rfl, Calls.mono (Norm_spec o15.rd (by omega) k15) ?_⟩
        rintro e w18 ⟨h18, s16, rfl, o16⟩
        have h018 := (h016.trans h17).trans h18
        have d13 := len_le k13
        have d15 := len_le k15
        refine ⟨_, rfl, Calls.mono (key (k + 1 + (k + 1)) (by omega) _ _ _ ((o14.ahead h17).ahead h18).rd (ok_digs two64 _) _ _ o16.rd (ok_digs two64 _) (by omega) (by omega)) ?_⟩
        rintro e w19 ⟨h19, s17, L17, rfl, o17, n17, k17, v17⟩
        rw [val_digs two64, val_digs two64, v13, v15, val1, val2, val3, val4] at v17
        rw [val1, val3] at v11
        rw [val2, val4] at v12
        have h019 := h018.trans h19
        have hAC : A * C + B * D ≤ (A + B) * (C + D) := by
          rw [Nat.add_mul, Nat.mul_add, Nat.mul_add]; omega
        have h1419 := ((((h15.trans h16).trans h17).trans h18).trans h19)
        have o11' := (o11.ahead h14).ahead h1419
        have o12' := o12.ahead h1419
        refine ⟨_, rfl, Calls.mono (less_spec o17.rd o11'.rd k17 k11 (by omega) (by omega) (by rw [v17, v11]; omega)) ?_⟩
        rintro e w20 ⟨h20, s18, L18, rfl, o18, n18, k18, v18⟩
        refine ⟨_, rfl, Calls.mono (less_spec o18.rd (o12'.ahead h20).rd k18 k12 (by omega) (by omega) (by rw [v18, v17, v11, v12]; omega)) ?_⟩
        rintro e w21 ⟨h21, s19, L19, rfl, o19, n19, k19, v19⟩
        rw [v18, v17, v11, v12] at v19
        have h021 := (h019.trans h20).trans h21
        have hsz21 := h021.size
        refine ⟨_, rfl, mkN (by omega) (by omega) ?_⟩
        intro c w22 hcc ho22 h22 hs22
        have hlc : (List.replicate ((lp.length + lq.length + 1 : Nat) : Int).toNat 0).length = lp.length + lq.length + 1 := by rw [List.length_replicate]; omega
        have hvc : val B64 (List.replicate ((lp.length + lq.length + 1 : Nat) : Int).toNat 0) = 0 := val_replicate _
        have olc : ok B64 (List.replicate ((lp.length + lq.length + 1 : Nat) : Int).toNat 0) := ok_replicate (by omega) _
        generalize List.replicate ((lp.length + lq.length + 1 : Nat) : Int).toNat 0 = C0 at *
        have r11 := ((o11'.ahead h20).ahead h21).rd
        have r12 := ((o12'.ahead h20).ahead h21).rd
        have r19 := o19.rd
        have hsum := kara A B C D (B64 ^ k)
        rw [← hX, ← hY] at hsum
        have f11 := rd_off r11 (Nat.le_refl w21.heap.size)
        have f12 := rd_off r12 (Nat.le_refl w21.heap.size)
        have f19 := rd_off r19 (Nat.le_refl w21.heap.size)
        have hpw : B64 ^ (2 * k) = B64 ^ k * B64 ^ k := by rw [Nat.two_mul, Nat.pow_add]
        refine Calls.mono (addAt_spec (at_ := 0) ho22 (r11.ahead h22) f11 olc k11 (by omega) (by omega) (Nat.zero_le _) ?_) ?_
        · rw [hvc, v11, hlc, Nat.pow_zero, Nat.mul_one, Nat.zero_add]
          exact Nat.lt_of_le_of_lt (by rw [← hsum]; omega) hXY
        rintro e w23 ⟨rfl, hon23, l23, o23, n23, k23, v23⟩
        rw [hvc, v11, Nat.pow_zero, Nat.mul_one, Nat.zero_add] at v23
        refine ⟨rfl, Calls.mono (addAt_spec (at_ := k) o23 (hon23.rd (r19.ahead h22) f19) f19 k23 k19 (by omega) (by omega) (by omega) ?_) ?_⟩
        · rw [v23, v19, n23, hlc]
          exact Nat.lt_of_le_of_lt (by rw [← hsum]; omega) hXY
        rintro e w24 ⟨rfl, hon24, l24, o24, n24, k24, v24⟩
        rw [v23, v19] at v24
        have hon := hon23.trans hon24
        have e2k : IntKind.i64.wrap (2 * ((k : Nat) : Int)) = ((2 * k : Nat) : Int) := by rw [wrap_i64 (by omega) (by omega)]; omega
        rw [e2k]
        refine ⟨rfl, Calls.mono (addAt_spec (at_ := 2 * k) o24 (hon.rd (r12.ahead h22) f12) f12 k24 k12 (by omega) (by omega) (by omega) ?_) ?_⟩
        · rw [v24, v12, n24, n23, hlc, hpw, hsum]
          exact hXY
        rintro e w25 ⟨rfl, hon25, l25, o25, n25, k25, v25⟩
        rw [v24, v12, hpw, hsum] at v25
        exact ⟨rfl, (hon.trans hon25).ahead (h021.trans h22) hsz21, c, l25, rfl, .inr ⟨_, hsz21, by rw [hcc]; unfold maxLen; omega, o25⟩, by omega, k25, v25⟩

end Mul
end Go.Proofs.YtahbekmnphkiiaaDoor
namespace Go.Proofs.YtahbekmnphkiiaaDoor
open Go Go.RowKit Eng Sp Dg
set_option linter.unusedVariables false
set_option linter.unusedSimpArgs false
set_option maxRecDepth 100000
namespace Mul
open _root_.Go.Proofs.YtahbekmnphkiiaaDoor.Nat (ldN ldNf stN mkN Num OwnNil len_le Norm_spec Length_spec Ret bigC bigC_ok own_num digs_len_bl Yes)

theorem fits_spec {w : World} {s : Slc} {l : List Nat} (h : Rd .u64 w s (nn l)) (hl : l.length ≤ 2 ^ 44) (ol : ok B64 l) : Calls pr mul_fits_id #[s.v] w (Ret w (bigC (val B64 l)) (val B64 l)) := by
  have hd := len_le ol
  refine mul_fits_vc s w _ (Calls.mono (Norm_spec h hl ol) ?_)
  rintro e w1 ⟨h1, t, rfl, ho⟩
  refine ⟨_, rfl, Calls.mono (Length_spec ho.rd (by omega) (ok_digs two64 _)) ?_⟩
  rintro e w2 ⟨rfl, rfl⟩
  rw [val_digs two64]
  refine ⟨_, rfl, br_intro (fun hb => ?_) (fun hb => ?_)⟩
  · have hc : bigC (val B64 l) = 3 := by rw [bigC, if_neg (by simp at hb; omega)]
    rw [hc]
    exact ⟨h1, _, rfl, by rw [if_neg (by omega)]; exact OwnNil.nil⟩
  · have hc : bigC (val B64 l) = 0 := by rw [bigC, if_pos (by simp at hb; omega)]
    rw [hc]
    exact ⟨h1, _, rfl, by rw [if_pos rfl]; exact ho⟩

theorem bl_mul {x y : Nat} (hx : x ≠ 0) (hy : y ≠ 0) : bl x + bl y - 1 ≤ bl (x * y) := by
  have h1 := (bl_bounds hx).1
  have h2 := (bl_bounds hy).1
  have p1 := bl_pos hx
  have p2 := bl_pos hy
  have h3 := Nat.mul_le_mul h1 h2
  rw [← Nat.pow_add] at h3
  rcases Nat.lt_or_ge (bl (x * y)) (bl x + bl y - 1) with h | h
  · exfalso
    have h4 := bl_le_iff.1 (show bl (x * y) ≤ bl x - 1 + (bl y - 1) by omega)
    omega
  · exact h

theorem great_spec {w : World} {a b : Slc} {x y : Nat} (ha : Num w a x) (hb : Num w b y) :
    Calls pr mul_great_id #[a.v, b.v] w fun e w' => w' = w ∧ ∃ c : Bool, e = .returned (.bool c) ∧ (c = true ↔ x ≠ 0 ∧ y ≠ 0 ∧ 67108864 < bl x + bl y - 1) := by
  have bx := ha.bl
  have by' := hb.bl
  refine mul_great_vc a b w _ (Calls.mono (Nat.len_num ha) ?_)
  rintro e w1 ⟨rfl, rfl⟩
  refine ⟨_, rfl, Calls.mono (Nat.len_num hb) ?_⟩
  rintro e w2 ⟨rfl, rfl⟩
  have zx : bl x = 0 ↔ x = 0 := ⟨fun h => by rcases Nat.eq_zero_or_pos x with h1 | h1; exact h1; have := bl_pos (n := x) (by omega); omega, fun h => by rw [h, bl_zero]⟩
  have zy : bl y = 0 ↔ y = 0 := ⟨fun h => by rcases Nat.eq_zero_or_pos y with h1 | h1; exact h1; have := bl_pos (n := y) (by omega); omega, fun h => by rw [h, bl_zero]⟩
  refine ⟨_, rfl, br_intro (fun h => br_intro (fun h' => ?_) (fun h' => ?_)) (fun h => ?_)⟩
  · have h1 : 0 < bl x := by simp at h; omega
    have h2 : 0 < bl y := by simp at h'; omega
    rw [wrap_i64 (x := (bl x : Int) + (bl y : Int)) (by omega) (by omega), wrap_i64 (by omega) (by omega)]
    refine ⟨rfl, _, rfl, ?_⟩
    simp only [decide_eq_true_eq]
    constructor
    · intro h3
      exact ⟨fun e => by have := zx.2 e; omega, fun e => by have := zy.2 e; omega, by omega⟩
    · rintro ⟨_, _, h3⟩
      omega
  · have h2 : bl y = 0 := by simp at h'; omega
    exact ⟨rfl, _, rfl, by simp [zy.1 h2]⟩
  · have h2 : bl x = 0 := by simp at h; omega
    exact ⟨rfl, _, rfl, by simp [zx.1 h2]⟩

theorem Mul_spec {w : World} {a b : Slc} {x y : Nat} (ha : Num w a x) (hb : Num w b y) (la : (digs B64 x).length + 16 ≤ 2 ^ 44) (lb : (digs B64 y).length + 16 ≤ 2 ^ 44) :
    Calls pr mul_Mul_id #[a.v, b.v] w (Ret w (bigC (x * y)) (x * y)) := by
  obtain ⟨l, ra, na, oa, rfl⟩ := ha
  obtain ⟨m, rb, nb, ob, rfl⟩ := hb
  refine mul_Mul_vc a b w _ ?_
  refine mul_product__mul_Mul_1_vc a b w _ (Calls.mono (Norm_spec ra na oa) ?_)
  rintro e w1 ⟨h1, s, rfl, os⟩
  refine ⟨_, rfl, Calls.mono (Norm_spec (rb.ahead h1) nb ob) ?_⟩
  rintro e w2 ⟨h2, t, rfl, ot⟩
  have h12 := h1.trans h2
  have rs := (os.ahead h2).rd
  have rt := ot.rd
  have ns : Num w2 s (val B64 l) := ⟨_, rs, by omega, ok_digs two64 _, val_digs two64 _⟩
  have nt : Num w2 t (val B64 m) := ⟨_, rt, by omega, ok_digs two64 _, val_digs two64 _⟩
  generalize val B64 l = x at *
  generalize val B64 m = y at *
  refine ⟨_, rfl, Calls.mono (great_spec ns nt) ?_⟩
  rintro e w3 ⟨rfl, c, rfl, hc⟩
  refine ⟨_, rfl, br_intro (fun h => ?_) (fun h => ?_)⟩
  · obtain ⟨h3, h4, h5⟩ := hc.1 h
    have := bl_mul h3 h4
    have hcc : bigC (x * y) = 3 := by rw [bigC, if_neg (by omega)]
    rw [hcc]
    exact ⟨_, _, rfl, h12, _, rfl, by rw [if_neg (by omega)]; exact OwnNil.nil⟩
  · have hsz : (digs B64 x).length + (digs B64 y).length + 16 ≤ 2 ^ 44 := by
      by_cases hx : x = 0
      · subst hx; rw [digs_zero]; simp; omega
      · by_cases hy : y = 0
        · subst hy; rw [digs_zero]; simp; omega
        · have hbl : bl x + bl y - 1 ≤ 67108864 := by
            rcases Nat.lt_or_ge 67108864 (bl x + bl y - 1) with h6 | h6
            · have := hc.2 ⟨hx, hy, h6⟩; rw [h] at this; cases this
            · exact h6
          have p1 := bl_pos hx
          have p2 := bl_pos hy
          have := digs_len_bl (N := x) (m := 2 ^ 21) (by omega)
          have := digs_len_bl (N := y) (m := 2 ^ 21) (by omega)
          omega
    refine mul_Mul_1_vc s t w3 _ (Calls.mono (halved_spec _ w3 s _ rs (ok_digs two64 x) t _ rt (ok_digs two64 y) 40 (by omega) (by omega) (by omega) (Nat.le_refl _)) ?_)
    rintro e w4 ⟨h4, u, L, rfl, ou, nu, ku, vu⟩
    rw [val_digs two64, val_digs two64] at vu
    refine ⟨_, rfl, _, rfl, Calls.mono (fits_spec ou.rd (by omega) ku) ?_⟩
    rw [vu]
    rintro e w5 ⟨h5, v, rfl, ov⟩
    have hsz := (h12.trans h4).size
    exact ⟨_, _, rfl, _, _, rfl, (h12.trans h4).trans h5, _, rfl, ov.mono hsz⟩

end Mul
end Go.Proofs.YtahbekmnphkiiaaDoor
namespace Go.Proofs.YtahbekmnphkiiaaDoor
open Go Go.RowKit Eng
set_option linter.unusedVariables false

set_option maxRecDepth 100000 in
/-- surd/whole.Mul: function 41. -/
theorem whole_Mul_vc (a0_a_0 : Bool) (a0_a_1 : Slc) (a1_b_0 : Bool) (a1_b_1 : Slc) (w : World) (R : Ending → World → Prop)
    
    (h : newC w #[Value.bool a0_a_0, a0_a_1.v] 37 fun ad1 w1 =>
    newC w1 #[Value.bool a1_b_0, a1_b_1.v] 37 fun ad2 w2 =>
    newC w2 #[Value.bool false, (⟨none, 0, 0⟩ : Slc).v] 37 fun ad3 w3 =>
    ldS (ad1.add 1) w3 fun s1 =>
    ldS (ad2.add 1) w3 fun s2 =>
    Calls Tryd.prog 66 #[s1.v, s2.v] w3 fun e1 w4 =>
    ∃ s3 : Slc, ∃ x1 : Int, e1 = .returned (Value.tuple #[s3.v, Value.int .i64 x1]) ∧
    (ldB ad1 w4 fun b1 =>
     ldB ad2 w4 fun b2 =>
     Calls Tryd.prog 67 #[Value.bool (!(b1 == b2)), s3.v, Value.int .i64 x1] w4 fun e2 w5 =>
     ∃ b3 : Bool, ∃ s4 : Slc, ∃ x2 : Int, e2 = .returned (Value.tuple #[Value.agg #[Value.bool b3, s4.v], Value.int .i64 x2]) ∧
     (stC ad3 (Value.bool b3) w5 fun w6 =>
      stC (ad3.add 1) s4.v w6 fun w7 =>
      ldB ad3 w7 fun b4 =>
      ldS (ad3.add 1) w7 fun s5 =>
      R (.returned (Value.tuple #[Value.agg #[Value.bool b4, s5.v], Value.int .i64 x2])) w7))) :
    Calls Tryd.prog 41 #[Value.agg #[Value.bool a0_a_0, a0_a_1.v], Value.agg #[Value.bool a1_b_0, a1_b_1.v]] w R := by
  refine calls_of_vc (fun _ => none) (by kernel_rfl) Tryd.func41 rfl ?_ ?_
  · refine kcast h ?_; kernel_rfl
  · exact (obl_seq rfl (obl_reg (obl_seq rfl (obl_reg (obl_seq rfl (obl_reg (obl_ret trivial)))))))

set_option maxRecDepth 100000 in
/-- surd/dyadic.Mul: function 11. -/
theorem dyadic_Mul_vc (a0_a_0 : Bool) (a0_a_1 : Slc) (a0_a_2 : Int) (a1_b_0 : Bool) (a1_b_1 : Slc) (a1_b_2 : Int) (w : World) (R : Ending → World → Prop)
    
    (h : newC w #[Value.bool a0_a_0, a0_a_1.v, Value.int .i64 a0_a_2] 39 fun ad1 w1 =>
    newC w1 #[Value.bool a1_b_0, a1_b_1.v, Value.int .i64 a1_b_2] 39 fun ad2 w2 =>
    newC w2 #[Value.bool false, (⟨none, 0, 0⟩ : Slc).v, Value.int .i64 0] 39 fun ad3 w3 =>
    ldB ad1 w3 fun b1 =>
    ldS (ad1.add 1) w3 fun s1 =>
    ldI .i64 (ad1.add 2) w3 fun x1 =>
    ldB ad2 w3 fun b2 =>
    ldS (ad2.add 1) w3 fun s2 =>
    ldI .i64 (ad2.add 2) w3 fun x2 =>
    Calls Tryd.prog 40 #[Value.agg #[Value.bool b1, s1.v, Value.int .i64 x1], Value.agg #[Value.bool b2, s2.v, Value.int .i64 x2]] w3 fun e1 w4 =>
    ∃ b3 : Bool, ∃ s3 : Slc, ∃ x3 : Int, ∃ b4 : Bool, ∃ s4 : Slc, ∃ x4 : Int, ∃ x5 : Int, e1 = .returned (Value.tuple #[Value.agg #[Value.bool b3, s3.v, Value.int .i64 x3], Value.agg #[Value.bool b4, s4.v, Value.int .i64 x4], Value.int .i64 x5]) ∧
    (newC w4 #[Value.bool false, (⟨none, 0, 0⟩ : Slc).v, Value.int .i64 0] 76 fun ad4 w5 =>
     newC w5 #[Value.bool false, (⟨none, 0, 0⟩ : Slc).v, Value.int .i64 0] 76 fun ad5 w6 =>
     stC ad4 (Value.bool b3) w6 fun w7 =>
     stC (ad4.add 1) s3.v w7 fun w8 =>
     stC (ad4.add 2) (Value.int .i64 x3) w8 fun w9 =>
     stC ad5 (Value.bool b4) w9 fun w10 =>
     stC (ad5.add 1) s4.v w10 fun w11 =>
     stC (ad5.add 2) (Value.int .i64 x4) w11 fun w12 =>
     br (x5 != 0)
     (stC ad3 (Value.bool false) w12 fun w13 =>
      stC (ad3.add 1) ((⟨none, 0, 0⟩ : Slc).v) w13 fun w14 =>
      stC (ad3.add 2) (Value.int .i64 0) w14 fun w15 =>
      ldB ad3 w15 fun b5 =>
      ldS (ad3.add 1) w15 fun s5 =>
      ldI .i64 (ad3.add 2) w15 fun x6 =>
      R (.returned (Value.tuple #[Value.agg #[Value.bool b5, s5.v, Value.int .i64 x6], Value.int .i64 x5])) w15)
     (ldB ad4 w12 fun b6 =>
      ldS (ad4.add 1) w12 fun s6 =>
      ldB ad5 w12 fun b7 =>
      ldS (ad5.add 1) w12 fun s7 =>
      Calls Tryd.prog 41 #[Value.agg #[Value.bool b6, s6.v], Value.agg #[Value.bool b7, s7.v]] w12 fun e2 w16 =>
      ∃ b8 : Bool, ∃ s8 : Slc, ∃ x7 : Int, e2 = .returned (Value.tuple #[Value.agg #[Value.bool b8, s8.v], Value.int .i64 x7]) ∧
      (newC w16 #[Value.bool false, (⟨none, 0, 0⟩ : Slc).v] 37 fun ad6 w17 =>
       stC ad6 (Value.bool b8) w17 fun w18 =>
       stC (ad6.add 1) s8.v w18 fun w19 =>
       br (x7 != 0)
       (stC ad3 (Value.bool false) w19 fun w20 =>
        stC (ad3.add 1) ((⟨none, 0, 0⟩ : Slc).v) w20 fun w21 =>
        stC (ad3.add 2) (Value.int .i64 0) w21 fun w22 =>
        ldB ad3 w22 fun b9 =>
        ldS (ad3.add 1) w22 fun s9 =>
        ldI .i64 (ad3.add 2) w22 fun x8 =>
        R (.returned (Value.tuple #[Value.agg #[Value.bool b9, s9.v, Value.int .i64 x8], Value.int .i64 x7])) w22)
       (ldB ad6 w19 fun b10 =>
        ldS (ad6.add 1) w19 fun s10 =>
        ldI .i64 (ad4.add 2) w19 fun x9 =>
        ldI .i64 (ad5.add 2) w19 fun x10 =>
        Calls Tryd.prog 42 #[Value.agg #[Value.bool b10, s10.v], Value.int .i64 (IntKind.i64.wrap (x9 + x10))] w19 fun e3 w23 =>
        ∃ b11 : Bool, ∃ s11 : Slc, ∃ x11 : Int, ∃ x12 : Int, e3 = .returned (Value.tuple #[Value.agg #[Value.bool b11, s11.v, Value.int .i64 x11], Value.int .i64 x12]) ∧
        (stC ad3 (Value.bool b11) w23 fun w24 =>
         stC (ad3.add 1) s11.v w24 fun w25 =>
         stC (ad3.add 2) (Value.int .i64 x11) w25 fun w26 =>
         ldB ad3 w26 fun b12 =>
         ldS (ad3.add 1) w26 fun s12 =>
         ldI .i64 (ad3.add 2) w26 fun x13 =>
         R (.returned (Value.tuple #[Value.agg #[Value.bool b12, s12.v, Value.int .i64 x13], Value.int .i64 x12])) w26)))))) :
    Calls Tryd.prog 11 #[Value.agg #[Value.bool a0_a_0, a0_a_1.v, Value.int .i64 a0_a_2], Value.agg #[Value.bool a1_b_0, a1_b_1.v, Value.int .i64 a1_b_2]] w R := by
  refine calls_of_vc (fun _ => none) (by kernel_rfl) Tryd.func11 rfl ?_ ?_
  · refine kcast h ?_; kernel_rfl
  · exact (obl_seq rfl (obl_reg (obl_seq rfl (obl_reg (obl_seq rfl (obl_seq rfl (obl_reg (obl_cond (obl_seq rfl (obl_reg (obl_ret (obl_skip (obl_seq rfl (obl_reg (obl_seq rfl (obl_seq rfl (obl_reg (obl_cond (obl_seq rfl (obl_reg (obl_ret (obl_skip (obl_seq rfl (obl_reg (obl_ret trivial)))))))))))))))))))))))))

set_option maxRecDepth 100000 in
/-- surd/dyadic.Sub: function 22. -/
theorem dyadic_Sub_vc (a0_a_0 : Bool) (a0_a_1 : Slc) (a0_a_2 : Int) (a1_b_0 : Bool) (a1_b_1 : Slc) (a1_b_2 : Int) (w : World) (R : Ending → World → Prop)
    
    (h : newC w #[Value.bool a0_a_0, a0_a_1.v, Value.int .i64 a0_a_2] 39 fun ad1 w1 =>
    newC w1 #[Value.bool a1_b_0, a1_b_1.v, Value.int .i64 a1_b_2] 39 fun ad2 w2 =>
    newC w2 #[Value.bool false, (⟨none, 0, 0⟩ : Slc).v, Value.int .i64 0] 39 fun ad3 w3 =>
    ldB ad1 w3 fun b1 =>
    ldS (ad1.add 1) w3 fun s1 =>
    ldI .i64 (ad1.add 2) w3 fun x1 =>
    ldB ad2 w3 fun b2 =>
    ldS (ad2.add 1) w3 fun s2 =>
    ldI .i64 (ad2.add 2) w3 fun x2 =>
    Calls Tryd.prog 40 #[Value.agg #[Value.bool b1, s1.v, Value.int .i64 x1], Value.agg #[Value.bool b2, s2.v, Value.int .i64 x2]] w3 fun e1 w4 =>
    ∃ b3 : Bool, ∃ s3 : Slc, ∃ x3 : Int, ∃ b4 : Bool, ∃ s4 : Slc, ∃ x4 : Int, ∃ x5 : Int, e1 = .returned (Value.tuple #[Value.agg #[Value.bool b3, s3.v, Value.int .i64 x3], Value.agg #[Value.bool b4, s4.v, Value.int .i64 x4], Value.int .i64 x5]) ∧
    (newC w4 #[Value.bool false, (⟨none, 0, 0⟩ : Slc).v, Value.int .i64 0] 76 fun ad4 w5 =>
     newC w5 #[Value.bool false, (⟨none, 0, 0⟩ : Slc).v, Value.int .i64 0] 76 fun ad5 w6 =>
     stC ad4 (Value.bool b3) w6 fun w7 =>
     stC (ad4.add 1) s3.v w7 fun w8 =>
     stC (ad4.add 2) (Value.int .i64 x3) w8 fun w9 =>
     stC ad5 (Value.bool b4) w9 fun w10 =>
     stC (ad5.add 1) s4.v w10 fun w11 =>
     stC (ad5.add 2) (Value.int .i64 x4) w11 fun w12 =>
     br (x5 != 0)
     (stC ad3 (Value.bool false) w12 fun w13 =>
      stC (ad3.add 1) ((⟨none, 0, 0⟩ : Slc).v) w13 fun w14 =>
      stC (ad3.add 2) (Value.int .i64 0) w14 fun w15 =>
      ldB ad3 w15 fun b5 =>
      ldS (ad3.add 1) w15 fun s5 =>
      ldI .i64 (ad3.add 2) w15 fun x6 =>
      R (.returned (Value.tuple #[Value.agg #[Value.bool b5, s5.v, Value.int .i64 x6], Value.int .i64 x5])) w15)
     (ldB ad5 w12 fun b6 =>
      stC ad5 (Value.bool (!b6)) w12 fun w16 =>
      ldB ad4 w16 fun b7 =>
      ldS (ad4.add 1) w16 fun s6 =>
      ldI .i64 (ad4.add 2) w16 fun x7 =>
      ldB ad5 w16 fun b8 =>
      ldS (ad5.add 1) w16 fun s7 =>
      ldI .i64 (ad5.add 2) w16 fun x8 =>
      Calls Tryd.prog 57 #[Value.agg #[Value.bool b7, s6.v, Value.int .i64 x7], Value.agg #[Value.bool b8, s7.v, Value.int .i64 x8]] w16 fun e2 w17 =>
      ∃ b9 : Bool, ∃ s8 : Slc, ∃ x9 : Int, ∃ x10 : Int, e2 = .returned (Value.tuple #[Value.agg #[Value.bool b9, s8.v, Value.int .i64 x9], Value.int .i64 x10]) ∧
      (stC ad3 (Value.bool b9) w17 fun w18 =>
       stC (ad3.add 1) s8.v w18 fun w19 =>
       stC (ad3.add 2) (Value.int .i64 x9) w19 fun w20 =>
       ldB ad3 w20 fun b10 =>
       ldS (ad3.add 1) w20 fun s9 =>
       ldI .i64 (ad3.add 2) w20 fun x11 =>
       R (.returned (Value.tuple #[Value.agg #[Value.bool b10, s9.v, Value.int .i64 x11], Value.int .i64 x10])) w20)))) :
    Calls Tryd.prog 22 #[Value.agg #[Value.bool a0_a_0, a0_a_1.v, Value.int .i64 a0_a_2], Value.agg #[Value.bool a1_b_0, a1_b_1.v, Value.int .i64 a1_b_2]] w R := by
  refine calls_of_vc (fun _ => none) (by kernel_rfl) Tryd.func22 rfl ?_ ?_
  · refine kcast h ?_; kernel_rfl
  · exact (obl_seq rfl (obl_reg (obl_seq rfl (obl_reg (obl_seq rfl (obl_seq rfl (obl_reg (obl_cond (obl_seq rfl (obl_reg (obl_ret (obl_skip (obl_seq rfl (obl_reg (obl_seq rfl (obl_reg (obl_ret trivial)))))))))))))))))

end Go.Proofs.YtahbekmnphkiiaaDoor
namespace Go.Proofs.YtahbekmnphkiiaaDoor
open Go Go.RowKit Eng L2
set_option linter.unusedVariables false
set_option maxHeartbeats 2000000
set_option maxRecDepth 100000

/-- surd/whole.Mul: function 41, its local variables as values. -/
theorem whole_Mul_v2 (a0_a_0 : Bool) (a0_a_1 : Slc) (a1_b_0 : Bool) (a1_b_1 : Slc) (w : World) (R : Ending → World → Prop)
    
    (h : ∀ w1, Ext w w1 → Ahead w w1 →
    (Calls Tryd.prog 66 #[a0_a_1.v, a1_b_1.v] w1 fun e1 w2 =>
     ∃ s1 : Slc, ∃ x1 : Int, e1 = .returned (Value.tuple #[s1.v, Value.int .i64 x1]) ∧ Ahead w1 w2 ∧
     (Calls Tryd.prog 67 #[Value.bool (!(a0_a_0 == a1_b_0)), s1.v, Value.int .i64 x1] w2 fun e2 w3 =>
      ∃ b1 : Bool, ∃ s2 : Slc, ∃ x2 : Int, e2 = .returned (Value.tuple #[Value.agg #[Value.bool b1, s2.v], Value.int .i64 x2]) ∧ Ahead w2 w3 ∧
      (∀ w4, Ext w3 w4 → Ahead w w4 →
       (R (.returned (Value.tuple #[Value.agg #[Value.bool b1, s2.v], Value.int .i64 x2])) w4)))))
     :
    Calls Tryd.prog 41 #[Value.agg #[Value.bool a0_a_0, a0_a_1.v], Value.agg #[Value.bool a1_b_0, a1_b_1.v]] w (fun e_ w_ => Ahead w w_ ∧ R e_ w_) := by
  refine whole_Mul_vc a0_a_0 a0_a_1 a1_b_0 a1_b_1 w _  ?_
  · have A : Ahead w w := Ahead.refl w
    have X : Ext w w := Ext.refl w
    refine newC_t fun bk1 u1 hb1 ha_u1 _ B1 => ?_
    have g1 := le_eq A.size hb1
    obtain ⟨A, X⟩ := axa2 ha_u1 A X
    refine newC_t fun bk2 u2 hb2 ha_u2 _ B2 => ?_
    have g2 := le_eq A.size hb2
    have l1_2 := lt1 hb2 B1
    replace B1 := B1.ahead ha_u2
    obtain ⟨A, X⟩ := axa2 ha_u2 A X
    refine newC_t fun bk3 u3 hb3 ha_u3 _ B3 => ?_
    have g3 := le_eq A.size hb3
    obtain ⟨_, _⟩ := lt2 hb3 B1 B2
    obtain ⟨B1, B2⟩ := ah2 ha_u3 B1 B2
    obtain ⟨A, X⟩ := axa2 ha_u3 A X
    refine ldS_t 1 B1 rfl ?_
    refine ldS_t 1 B2 rfl ?_
    replace h := h _ X A
    refine Calls.mono h ?_
    clear h
    rintro e1 w2 ⟨s1, x1, he_, ha_w2, h⟩
    refine ⟨s1, x1, he_, ?_⟩
    clear he_
    obtain ⟨B1, B2, B3⟩ := ah3 ha_w2 B1 B2 B3
    obtain ⟨A, X⟩ := axa2 ha_w2 A X
    replace X : Ext w2 w2 := Ext.refl _
    refine ldB_t 0 B1 rfl ?_
    refine ldB_t 0 B2 rfl ?_
    refine Calls.mono h ?_
    clear h
    rintro e2 w3 ⟨b1, s2, x2, he_, ha_w3, h⟩
    refine ⟨b1, s2, x2, he_, ?_⟩
    clear he_
    obtain ⟨B1, B2, B3⟩ := ah3 ha_w3 B1 B2 B3
    obtain ⟨A, X⟩ := axa2 ha_w3 A X
    replace X : Ext w3 w3 := Ext.refl _
    refine st2_t B3 rfl rfl rfl fun u4 k_u4 B3 => ?_
    obtain ⟨B1, B2⟩ := up2 k_u4 B1 B2
    obtain ⟨A, X⟩ := axu2 k_u4 g3 A X
    refine ldB_t 0 B3 rfl ?_
    refine ldS_t 1 B3 rfl ?_
    replace h := h _ X A
    exact ⟨A, h⟩

/-- surd/dyadic.Mul: function 11, its local variables as values. -/
theorem dyadic_Mul_v2 (a0_a_0 : Bool) (a0_a_1 : Slc) (a0_a_2 : Int) (a1_b_0 : Bool) (a1_b_1 : Slc) (a1_b_2 : Int) (w : World) (R : Ending → World → Prop)
    
    (h : ∀ w1, Ext w w1 → Ahead w w1 →
    (Calls Tryd.prog 40 #[Value.agg #[Value.bool a0_a_0, a0_a_1.v, Value.int .i64 a0_a_2], Value.agg #[Value.bool a1_b_0, a1_b_1.v, Value.int .i64 a1_b_2]] w1 fun e1 w2 =>
     ∃ b1 : Bool, ∃ s1 : Slc, ∃ x1 : Int, ∃ b2 : Bool, ∃ s2 : Slc, ∃ x2 : Int, ∃ x3 : Int, e1 = .returned (Value.tuple #[Value.agg #[Value.bool b1, s1.v, Value.int .i64 x1], Value.agg #[Value.bool b2, s2.v, Value.int .i64 x2], Value.int .i64 x3]) ∧ Ahead w1 w2 ∧
     (br (x3 != 0)
      (∀ w3, Ext w2 w3 → Ahead w w3 →
       (R (.returned (Value.tuple #[Value.agg #[Value.bool (false), ((⟨none, 0, 0⟩ : Slc)).v, Value.int .i64 (0 : Int)], Value.int .i64 x3])) w3))
      (∀ w4, Ext w2 w4 → Ahead w w4 →
       (Calls Tryd.prog 41 #[Value.agg #[Value.bool b1, s1.v], Value.agg #[Value.bool b2, s2.v]] w4 fun e2 w5 =>
        ∃ b3 : Bool, ∃ s3 : Slc, ∃ x4 : Int, e2 = .returned (Value.tuple #[Value.agg #[Value.bool b3, s3.v], Value.int .i64 x4]) ∧ Ahead w4 w5 ∧
        (br (x4 != 0)
         (∀ w6, Ext w5 w6 → Ahead w w6 →
          (R (.returned (Value.tuple #[Value.agg #[Value.bool (false), ((⟨none, 0, 0⟩ : Slc)).v, Value.int .i64 (0 : Int)], Value.int .i64 x4])) w6))
         (∀ w7, Ext w5 w7 → Ahead w w7 →
          (Calls Tryd.prog 42 #[Value.agg #[Value.bool b3, s3.v], Value.int .i64 (IntKind.i64.wrap (x1 + x2))] w7 fun e3 w8 =>
           ∃ b4 : Bool, ∃ s4 : Slc, ∃ x5 : Int, ∃ x6 : Int, e3 = .returned (Value.tuple #[Value.agg #[Value.bool b4, s4.v, Value.int .i64 x5], Value.int .i64 x6]) ∧ Ahead w7 w8 ∧
           (∀ w9, Ext w8 w9 → Ahead w w9 →
            (R (.returned (Value.tuple #[Value.agg #[Value.bool b4, s4.v, Value.int .i64 x5], Value.int .i64 x6])) w9))))))))))
     :
    Calls Tryd.prog 11 #[Value.agg #[Value.bool a0_a_0, a0_a_1.v, Value.int .i64 a0_a_2], Value.agg #[Value.bool a1_b_0, a1_b_1.v, Value.int .i64 a1_b_2]] w (fun e_ w_ => Ahead w w_ ∧ R e_ w_) := by
  refine dyadic_Mul_vc a0_a_0 a0_a_1 a0_a_2 a1_b_0 a1_b_1 a1_b_2 w _  ?_
  · have A : Ahead w w := Ahead.refl w
    have X : Ext w w := Ext.refl w
    refine newC_t fun bk1 u1 hb1 ha_u1 _ B1 => ?_
    have g1 := le_eq A.size hb1
    obtain ⟨A, X⟩ := axa2 ha_u1 A X
    refine newC_t fun bk2 u2 hb2 ha_u2 _ B2 => ?_
    have g2 := le_eq A.size hb2
    have l1_2 := lt1 hb2 B1
    replace B1 := B1.ahead ha_u2
    obtain ⟨A, X⟩ := axa2 ha_u2 A X
    refine newC_t fun bk3 u3 hb3 ha_u3 _ B3 => ?_
    have g3 := le_eq A.size hb3
    obtain ⟨_, _⟩ := lt2 hb3 B1 B2
    obtain ⟨B1, B2⟩ := ah2 ha_u3 B1 B2
    obtain ⟨A, X⟩ := axa2 ha_u3 A X
    refine ldB_t 0 B1 rfl ?_
    refine ldS_t 1 B1 rfl ?_
    refine ldI_t 2 B1 rfl ?_
    refine ldB_t 0 B2 rfl ?_
    refine ldS_t 1 B2 rfl ?_
    refine ldI_t 2 B2 rfl ?_
    replace h := h _ X A
    refine Calls.mono h ?_
    clear h
    rintro e1 w2 ⟨b1, s1, x1, b2, s2, x2, x3, he_, ha_w2, h⟩
    refine ⟨b1, s1, x1, b2, s2, x2, x3, he_, ?_⟩
    clear he_
    obtain ⟨B1, B2, B3⟩ := ah3 ha_w2 B1 B2 B3
    obtain ⟨A, X⟩ := axa2 ha_w2 A X
    replace X : Ext w2 w2 := Ext.refl _
    refine newC_t fun bk4 u4 hb4 ha_u4 _ B4 => ?_
    have g4 := le_eq A.size hb4
    obtain ⟨_, _, _⟩ := lt3 hb4 B1 B2 B3
    obtain ⟨B1, B2, B3⟩ := ah3 ha_u4 B1 B2 B3
    obtain ⟨A, X⟩ := axa2 ha_u4 A X
    refine newC_t fun bk5 u5 hb5 ha_u5 _ B5 => ?_
    have g5 := le_eq A.size hb5
    obtain ⟨_, _, _, _⟩ := lt4 hb5 B1 B2 B3 B4
    obtain ⟨B1, B2, B3, B4⟩ := ah4 ha_u5 B1 B2 B3 B4
    obtain ⟨A, X⟩ := axa2 ha_u5 A X
    refine st3_t B4 rfl rfl rfl rfl fun u6 k_u6 B4 => ?_
    obtain ⟨B1, B2, B3, B5⟩ := up4 k_u6 B1 B2 B3 B5
    obtain ⟨A, X⟩ := axu2 k_u6 g4 A X
    refine st3_t B5 rfl rfl rfl rfl fun u7 k_u7 B5 => ?_
    obtain ⟨B1, B2, B3, B4⟩ := up4 k_u7 B1 B2 B3 B4
    obtain ⟨A, X⟩ := axu2 k_u7 g5 A X
    refine br_map h (fun h_ => ?_) (fun h_ => ?_)
    ·clear h
     have h := h_
     clear h_
     refine st3_t B3 rfl rfl rfl rfl fun u8 k_u8 B3 => ?_
     obtain ⟨B1, B2, B4, B5⟩ := up4 k_u8 B1 B2 B4 B5
     obtain ⟨A, X⟩ := axu2 k_u8 g3 A X
     refine ldB_t 0 B3 rfl ?_
     refine ldS_t 1 B3 rfl ?_
     refine ldI_t 2 B3 rfl ?_
     replace h := h _ X A
     exact ⟨A, h⟩
    ·clear h
     have h := h_
     clear h_
     refine ldB_t 0 B4 rfl ?_
     refine ldS_t 1 B4 rfl ?_
     refine ldB_t 0 B5 rfl ?_
     refine ldS_t 1 B5 rfl ?_
     replace h := h _ X A
     refine Calls.mono h ?_
     clear h
     rintro e2 w5 ⟨b3, s3, x4, he_, ha_w5, h⟩
     refine ⟨b3, s3, x4, he_, ?_⟩
     clear he_
     obtain ⟨B1, B2, B3, B4, B5⟩ := ah5 ha_w5 B1 B2 B3 B4 B5
     obtain ⟨A, X⟩ := axa2 ha_w5 A X
     replace X : Ext w5 w5 := Ext.refl _
     refine newC_t fun bk6 u9 hb6 ha_u9 _ B6 => ?_
     have g6 := le_eq A.size hb6
     obtain ⟨_, _, _, _, _⟩ := lt5 hb6 B1 B2 B3 B4 B5
     obtain ⟨B1, B2, B3, B4, B5⟩ := ah5 ha_u9 B1 B2 B3 B4 B5
     obtain ⟨A, X⟩ := axa2 ha_u9 A X
     refine st2_t B6 rfl rfl rfl fun u10 k_u10 B6 => ?_
     obtain ⟨B1, B2, B3, B4, B5⟩ := up5 k_u10 B1 B2 B3 B4 B5
     obtain ⟨A, X⟩ := axu2 k_u10 g6 A X
     refine br_map h (fun h_ => ?_) (fun h_ => ?_)
     ·clear h
      have h := h_
      clear h_
      refine st3_t B3 rfl rfl rfl rfl fun u11 k_u11 B3 => ?_
      obtain ⟨B1, B2, B4, B5, B6⟩ := up5 k_u11 B1 B2 B4 B5 B6
      obtain ⟨A, X⟩ := axu2 k_u11 g3 A X
      refine ldB_t 0 B3 rfl ?_
      refine ldS_t 1 B3 rfl ?_
      refine ldI_t 2 B3 rfl ?_
      replace h := h _ X A
      exact ⟨A, h⟩
     ·clear h
      have h := h_
      clear h_
      refine ldB_t 0 B6 rfl ?_
      refine ldS_t 1 B6 rfl ?_
      refine ldI_t 2 B4 rfl ?_
      refine ldI_t 2 B5 rfl ?_
      replace h := h _ X A
      refine Calls.mono h ?_
      clear h
      rintro e3 w8 ⟨b4, s4, x5, x6, he_, ha_w8, h⟩
      refine ⟨b4, s4, x5, x6, he_, ?_⟩
      clear he_
      obtain ⟨B1, B2, B3, B4, B5, B6⟩ := ah6 ha_w8 B1 B2 B3 B4 B5 B6
      obtain ⟨A, X⟩ := axa2 ha_w8 A X
      replace X : Ext w8 w8 := Ext.refl _
      refine st3_t B3 rfl rfl rfl rfl fun u12 k_u12 B3 => ?_
      obtain ⟨B1, B2, B4, B5, B6⟩ := up5 k_u12 B1 B2 B4 B5 B6
      obtain ⟨A, X⟩ := axu2 k_u12 g3 A X
      refine ldB_t 0 B3 rfl ?_
      refine ldS_t 1 B3 rfl ?_
      refine ldI_t 2 B3 rfl ?_
      replace h := h _ X A
      exact ⟨A, h⟩

/-- surd/dyadic.Sub: function 22, its local variables as values. -/
theorem dyadic_Sub_v2 (a0_a_0 : Bool) (a0_a_1 : Slc) (a0_a_2 : Int) (a1_b_0 : Bool) (a1_b_1 : Slc) (a1_b_2 : Int) (w : World) (R : Ending → World → Prop)
    
    (h : ∀ w1, Ext w w1 → Ahead w w1 →
    (Calls Tryd.prog 40 #[Value.agg #[Value.bool a0_a_0, a0_a_1.v, Value.int .i64 a0_a_2], Value.agg #[Value.bool a1_b_0, a1_b_1.v, Value.int .i64 a1_b_2]] w1 fun e1 w2 =>
     ∃ b1 : Bool, ∃ s1 : Slc, ∃ x1 : Int, ∃ b2 : Bool, ∃ s2 : Slc, ∃ x2 : Int, ∃ x3 : Int, e1 = .returned (Value.tuple #[Value.agg #[Value.bool b1, s1.v, Value.int .i64 x1], Value.agg #[Value.bool b2, s2.v, Value.int .i64 x2], Value.int .i64 x3]) ∧ Ahead w1 w2 ∧
     (br (x3 != 0)
      (∀ w3, Ext w2 w3 → Ahead w w3 →
       (R (.returned (Value.tuple #[Value.agg #[Value.bool (false), ((⟨none, 0, 0⟩ : Slc)).v, Value.int .i64 (0 : Int)], Value.int .i64 x3])) w3))
      (∀ w4, Ext w2 w4 → Ahead w w4 →
       (Calls Tryd.prog 57 #[Value.agg #[Value.bool b1, s1.v, Value.int .i64 x1], Value.agg #[Value.bool (!b2), s2.v, Value.int .i64 x2]] w4 fun e2 w5 =>
        ∃ b3 : Bool, ∃ s3 : Slc, ∃ x4 : Int, ∃ x5 : Int, e2 = .returned (Value.tuple #[Value.agg #[Value.bool b3, s3.v, Value.int .i64 x4], Value.int .i64 x5]) ∧ Ahead w4 w5 ∧
        (∀ w6, Ext w5 w6 → Ahead w w6 →
         (R (.returned (Value.tuple #[Value.agg #[Value.bool b3, s3.v, Value.int .i64 x4], Value.int .i64 x5])) w6)))))))
     :
    Calls Tryd.prog 22 #[Value.agg #[Value.bool a0_a_0, a0_a_1.v, Value.int .i64 a0_a_2], Value.agg #[Value.bool a1_b_0, a1_b_1.v, Value.int .i64 a1_b_2]] w (fun e_ w_ => Ahead w w_ ∧ R e_ w_) := by
  refine dyadic_Sub_vc a0_a_0 a0_a_1 a0_a_2 a1_b_0 a1_b_1 a1_b_2 w _  ?_
  · have A : Ahead w w := Ahead.refl w
    have X : Ext w w := Ext.refl w
    refine newC_t fun bk1 u1 hb1 ha_u1 _ B1 => ?_
    have g1 := le_eq A.size hb1
    obtain ⟨A, X⟩ := axa2 ha_u1 A X
    refine newC_t fun bk2 u2 hb2 ha_u2 _ B2 => ?_
    have g2 := le_eq A.size hb2
    have l1_2 := lt1 hb2 B1
    replace B1 := B1.ahead ha_u2
    obtain ⟨A, X⟩ := axa2 ha_u2 A X
    refine newC_t fun bk3 u3 hb3 ha_u3 _ B3 => ?_
    have g3 := le_eq A.size hb3
    obtain ⟨_, _⟩ := lt2 hb3 B1 B2
    obtain ⟨B1, B2⟩ := ah2 ha_u3 B1 B2
    obtain ⟨A, X⟩ := axa2 ha_u3 A X
    refine ldB_t 0 B1 rfl ?_
    refine ldS_t 1 B1 rfl ?_
    refine ldI_t 2 B1 rfl ?_
    refine ldB_t 0 B2 rfl ?_
    refine ldS_t 1 B2 rfl ?_
    refine ldI_t 2 B2 rfl ?_
    replace h := h _ X A
    refine Calls.mono h ?_
    clear h
    rintro e1 w2 ⟨b1, s1, x1, b2, s2, x2, x3, he_, ha_w2, h⟩
    refine ⟨b1, s1, x1, b2, s2, x2, x3, he_, ?_⟩
    clear he_
    obtain ⟨B1, B2, B3⟩ := ah3 ha_w2 B1 B2 B3
    obtain ⟨A, X⟩ := axa2 ha_w2 A X
    replace X : Ext w2 w2 := Ext.refl _
    refine newC_t fun bk4 u4 hb4 ha_u4 _ B4 => ?_
    have g4 := le_eq A.size hb4
    obtain ⟨_, _, _⟩ := lt3 hb4 B1 B2 B3
    obtain ⟨B1, B2, B3⟩ := ah3 ha_u4 B1 B2 B3
    obtain ⟨A, X⟩ := axa2 ha_u4 A X
    refine newC_t fun bk5 u5 hb5 ha_u5 _ B5 => ?_
    have g5 := le_eq A.size hb5
    obtain ⟨_, _, _, _⟩ := lt4 hb5 B1 B2 B3 B4
    obtain ⟨B1, B2, B3, B4⟩ := ah4 ha_u5 B1 B2 B3 B4
    obtain ⟨A, X⟩ := axa2 ha_u5 A X
    refine st3_t B4 rfl rfl rfl rfl fun u6 k_u6 B4 => ?_
    obtain ⟨B1, B2, B3, B5⟩ := up4 k_u6 B1 B2 B3 B5
    obtain ⟨A, X⟩ := axu2 k_u6 g4 A X
    refine st3_t B5 rfl rfl rfl rfl fun u7 k_u7 B5 => ?_
    obtain ⟨B1, B2, B3, B4⟩ := up4 k_u7 B1 B2 B3 B4
    obtain ⟨A, X⟩ := axu2 k_u7 g5 A X
    refine br_map h (fun h_ => ?_) (fun h_ => ?_)
    ·clear h
     have h := h_
     clear h_
     refine st3_t B3 rfl rfl rfl rfl fun u8 k_u8 B3 => ?_
     obtain ⟨B1, B2, B4, B5⟩ := up4 k_u8 B1 B2 B4 B5
     obtain ⟨A, X⟩ := axu2 k_u8 g3 A X
     refine ldB_t 0 B3 rfl ?_
     refine ldS_t 1 B3 rfl ?_
     refine ldI_t 2 B3 rfl ?_
     replace h := h _ X A
     exact ⟨A, h⟩
    ·clear h
     have h := h_
     clear h_
     refine ldB_t 0 B5 rfl ?_
     refine stC_t 0 B5 rfl rfl rfl fun u9 k_u9 B5_ => ?_
     replace B5 : Blt u9 bk5 76 #[Value.bool (!b2), s2.v, Value.int .i64 x2] := B5_
     clear B5_
     obtain ⟨B1, B2, B3, B4⟩ := up4 k_u9 B1 B2 B3 B4
     obtain ⟨A, X⟩ := axu2 k_u9 g5 A X
     refine ldB_t 0 B4 rfl ?_
     refine ldS_t 1 B4 rfl ?_
     refine ldI_t 2 B4 rfl ?_
     refine ldB_t 0 B5 rfl ?_
     refine ldS_t 1 B5 rfl ?_
     refine ldI_t 2 B5 rfl ?_
     replace h := h _ X A
     refine Calls.mono h ?_
     clear h
     rintro e2 w5 ⟨b3, s3, x4, x5, he_, ha_w5, h⟩
     refine ⟨b3, s3, x4, x5, he_, ?_⟩
     clear he_
     obtain ⟨B1, B2, B3, B4, B5⟩ := ah5 ha_w5 B1 B2 B3 B4 B5
     obtain ⟨A, X⟩ := axa2 ha_w5 A X
     replace X : Ext w5 w5 := Ext.refl _
     refine st3_t B3 rfl rfl rfl rfl fun u10 k_u10 B3 => ?_
     obtain ⟨B1, B2, B4, B5⟩ := up4 k_u10 B1 B2 B4 B5
     obtain ⟨A, X⟩ := axu2 k_u10 g3 A X
     refine ldB_t 0 B3 rfl ?_
     refine ldS_t 1 B3 rfl ?_
     refine ldI_t 2 B3 rfl ?_
     replace h := h _ X A
     exact ⟨A, h⟩

/-- surd/dyadic.Add: function 21, its local variables as values. -/
theorem dyadic_Add_v2 (a0_a_0 : Bool) (a0_a_1 : Slc) (a0_a_2 : Int) (a1_b_0 : Bool) (a1_b_1 : Slc) (a1_b_2 : Int) (w : World) (R : Ending → World → Prop)
    
    (h : ∀ w1, Ext w w1 → Ahead w w1 →
    (Calls Tryd.prog 40 #[Value.agg #[Value.bool a0_a_0, a0_a_1.v, Value.int .i64 a0_a_2], Value.agg #[Value.bool a1_b_0, a1_b_1.v, Value.int .i64 a1_b_2]] w1 fun e1 w2 =>
     ∃ b1 : Bool, ∃ s1 : Slc, ∃ x1 : Int, ∃ b2 : Bool, ∃ s2 : Slc, ∃ x2 : Int, ∃ x3 : Int, e1 = .returned (Value.tuple #[Value.agg #[Value.bool b1, s1.v, Value.int .i64 x1], Value.agg #[Value.bool b2, s2.v, Value.int .i64 x2], Value.int .i64 x3]) ∧ Ahead w1 w2 ∧
     (br (x3 != 0)
      (∀ w3, Ext w2 w3 → Ahead w w3 →
       (R (.returned (Value.tuple #[Value.agg #[Value.bool (false), ((⟨none, 0, 0⟩ : Slc)).v, Value.int .i64 (0 : Int)], Value.int .i64 x3])) w3))
      (∀ w4, Ext w2 w4 → Ahead w w4 →
       (Calls Tryd.prog 57 #[Value.agg #[Value.bool b1, s1.v, Value.int .i64 x1], Value.agg #[Value.bool b2, s2.v, Value.int .i64 x2]] w4 fun e2 w5 =>
        ∃ b3 : Bool, ∃ s3 : Slc, ∃ x4 : Int, ∃ x5 : Int, e2 = .returned (Value.tuple #[Value.agg #[Value.bool b3, s3.v, Value.int .i64 x4], Value.int .i64 x5]) ∧ Ahead w4 w5 ∧
        (∀ w6, Ext w5 w6 → Ahead w w6 →
         (R (.returned (Value.tuple #[Value.agg #[Value.bool b3, s3.v, Value.int .i64 x4], Value.int .i64 x5])) w6)))))))
     :
    Calls Tryd.prog 21 #[Value.agg #[Value.bool a0_a_0, a0_a_1.v, Value.int .i64 a0_a_2], Value.agg #[Value.bool a1_b_0, a1_b_1.v, Value.int .i64 a1_b_2]] w (fun e_ w_ => Ahead w w_ ∧ R e_ w_) := by
  refine dyadic_Add_vc a0_a_0 a0_a_1 a0_a_2 a1_b_0 a1_b_1 a1_b_2 w _  ?_
  · have A : Ahead w w := Ahead.refl w
    have X : Ext w w := Ext.refl w
    refine newC_t fun bk1 u1 hb1 ha_u1 _ B1 => ?_
    have g1 := le_eq A.size hb1
    obtain ⟨A, X⟩ := axa2 ha_u1 A X
    refine newC_t fun bk2 u2 hb2 ha_u2 _ B2 => ?_
    have g2 := le_eq A.size hb2
    have l1_2 := lt1 hb2 B1
    replace B1 := B1.ahead ha_u2
    obtain ⟨A, X⟩ := axa2 ha_u2 A X
    refine newC_t fun bk3 u3 hb3 ha_u3 _ B3 => ?_
    have g3 := le_eq A.size hb3
    obtain ⟨_, _⟩ := lt2 hb3 B1 B2
    obtain ⟨B1, B2⟩ := ah2 ha_u3 B1 B2
    obtain ⟨A, X⟩ := axa2 ha_u3 A X
    refine ldB_t 0 B1 rfl ?_
    refine ldS_t 1 B1 rfl ?_
    refine ldI_t 2 B1 rfl ?_
    refine ldB_t 0 B2 rfl ?_
    refine ldS_t 1 B2 rfl ?_
    refine ldI_t 2 B2 rfl ?_
    replace h := h _ X A
    refine Calls.mono h ?_
    clear h
    rintro e1 w2 ⟨b1, s1, x1, b2, s2, x2, x3, he_, ha_w2, h⟩
    refine ⟨b1, s1, x1, b2, s2, x2, x3, he_, ?_⟩
    clear he_
    obtain ⟨B1, B2, B3⟩ := ah3 ha_w2 B1 B2 B3
    obtain ⟨A, X⟩ := axa2 ha_w2 A X
    replace X : Ext w2 w2 := Ext.refl _
    refine newC_t fun bk4 u4 hb4 ha_u4 _ B4 => ?_
    have g4 := le_eq A.size hb4
    obtain ⟨_, _, _⟩ := lt3 hb4 B1 B2 B3
    obtain ⟨B1, B2, B3⟩ := ah3 ha_u4 B1 B2 B3
    obtain ⟨A, X⟩ := axa2 ha_u4 A X
    refine newC_t fun bk5 u5 hb5 ha_u5 _ B5 => ?_
    have g5 := le_eq A.size hb5
    obtain ⟨_, _, _, _⟩ := lt4 hb5 B1 B2 B3 B4
    obtain ⟨B1, B2, B3, B4⟩ := ah4 ha_u5 B1 B2 B3 B4
    obtain ⟨A, X⟩ := axa2 ha_u5 A X
    refine st3_t B4 rfl rfl rfl rfl fun u6 k_u6 B4 => ?_
    obtain ⟨B1, B2, B3, B5⟩ := up4 k_u6 B1 B2 B3 B5
    obtain ⟨A, X⟩ := axu2 k_u6 g4 A X
    refine st3_t B5 rfl rfl rfl rfl fun u7 k_u7 B5 => ?_
    obtain ⟨B1, B2, B3, B4⟩ := up4 k_u7 B1 B2 B3 B4
    obtain ⟨A, X⟩ := axu2 k_u7 g5 A X
    refine br_map h (fun h_ => ?_) (fun h_ => ?_)
    ·clear h
     have h := h_
     clear h_
     refine st3_t B3 rfl rfl rfl rfl fun u8 k_u8 B3 => ?_
     obtain ⟨B1, B2, B4, B5⟩ := up4 k_u8 B1 B2 B4 B5
     obtain ⟨A, X⟩ := axu2 k_u8 g3 A X
     refine ldB_t 0 B3 rfl ?_
     refine ldS_t 1 B3 rfl ?_
     refine ldI_t 2 B3 rfl ?_
     replace h := h _ X A
     exact ⟨A, h⟩
    ·clear h
     have h := h_
     clear h_
     refine ldB_t 0 B4 rfl ?_
     refine ldS_t 1 B4 rfl ?_
     refine ldI_t 2 B4 rfl ?_
     refine ldB_t 0 B5 rfl ?_
     refine ldS_t 1 B5 rfl ?_
     refine ldI_t 2 B5 rfl ?_
     replace h := h _ X A
     refine Calls.mono h ?_
     clear h
     rintro e2 w5 ⟨b3, s3, x4, x5, he_, ha_w5, h⟩
     refine ⟨b3, s3, x4, x5, he_, ?_⟩
     clear he_
     obtain ⟨B1, B2, B3, B4, B5⟩ := ah5 ha_w5 B1 B2 B3 B4 B5
     obtain ⟨A, X⟩ := axa2 ha_w5 A X
     replace X : Ext w5 w5 := Ext.refl _
     refine st3_t B3 rfl rfl rfl rfl fun u9 k_u9 B3 => ?_
     obtain ⟨B1, B2, B4, B5⟩ := up4 k_u9 B1 B2 B4 B5
     obtain ⟨A, X⟩ := axu2 k_u9 g3 A X
     refine ldB_t 0 B3 rfl ?_
     refine ldS_t 1 B3 rfl ?_
     refine ldI_t 2 B3 rfl ?_
     replace h := h _ X A
     exact ⟨A, h⟩

end Go.Proofs.YtahbekmnphkiiaaDoor
namespace Go.Proofs.YtahbekmnphkiiaaDoor
open Go Go.RowKit Eng Sp Dg L2
set_option linter.unusedVariables false
set_option linter.unusedSimpArgs false
set_option maxRecDepth 100000
namespace Dy
open _root_.Go.Proofs.YtahbekmnphkiiaaDoor.Nat (OwnNil Num Num.bl Num.ext Num.ahead OwnNil.mono OwnNil.ext OwnNil.rd OwnNil.ahead OwnNil.nil digs_len_bl num_of bigC bigC_ok Ret add_num sub_num cmp_num subC own_num)
open _root_.Go.Proofs.YtahbekmnphkiiaaDoor.Ref (RN len_mono)
open Sb

theorem bigC_bl' {n : Nat} (h : bigC n = 0) : bl n ≤ 67108864 := by
  unfold bigC at h
  split at h
  · assumption
  · omega
/-- A whole number, where the call is taken. -/
def WAns (z : Int) (en : Ending) (w' : World) : Prop := ∃ code neg s, en = .returned (.tuple #[.agg (c2 neg s), .int .i64 code]) ∧ (code = 0 → neg = zb z ∧ bl z.natAbs ≤ 67108864 ∧ Rd .u64 w' s (nn (digs B64 z.natAbs)))
theorem WOut.ans {w w' : World} {code : Int} {neg : Bool} {q : Nat} {en : Ending} {z : Int} (h : WOut w code neg q en w') (hz : code = 0 → sg neg q = z ∧ bl q ≤ 67108864) : WAns z en w' := by
  obtain ⟨s, rfl, o⟩ := h
  refine ⟨code, _, s, rfl, fun hc => ?_⟩
  obtain ⟨e1, e2⟩ := hz hc
  rw [if_pos hc] at o
  rw [if_pos hc, ← e1, zb_sg, sg_abs]
  exact ⟨rfl, e2, o.rd⟩
theorem result_spec {w w0 : World} {neg : Bool} {s : Slc} {x : Nat} {c : Int} (h : c = 0 → Num w s x) : Calls pr whole_result_id #[.bool neg, s.v, .int .i64 c] w fun en w' => Ahead w w' ∧ WAns (sg neg x) en w' := by
  refine whole_result_v2 neg s c w _ (br_intro (fun hc => fun w1 X1 a1 => ?_) (fun hc => fun w1 X1 a1 => ?_))
  · have hc' : c ≠ 0 := by simpa using hc
    exact ⟨c, _, _, rfl, fun h => absurd h hc'⟩
  · have hc' : c = 0 := by simpa using hc
    refine Calls.mono (fits_spec ((h hc').ahead a1)) ?_
    rintro en w2 ⟨h2, s2, rfl, o2⟩
    refine ⟨_, _, _, rfl, h2, fun w3 X3 a3 => ?_⟩
    refine WOut.ans (w := w1) (code := bC x) (neg := neg) (q := x) ⟨s2, rfl, o2.ext X3⟩ fun hb => ⟨rfl, ?_⟩
    unfold bC at hb
    split at hb
    · omega
    · omega
theorem sg_add {neg : Bool} {x y : Nat} : sg neg (x + y) = sg neg x + sg neg y := by unfold sg; split <;> omega
theorem sg_sub {neg : Bool} {x y : Nat} (h : y ≤ x) : sg neg (x - y) = sg neg x - sg neg y := by unfold sg; split <;> omega
theorem sg_not {neg : Bool} {x : Nat} : sg (!neg) x = -sg neg x := by unfold sg; cases neg <;> simp
theorem wAdd_spec {w : World} {n m : Bool} {a b : Slc} {x y : Nat} (ha : Num w a x) (hb : Num w b y) :
    Calls pr whole_Add_id #[.agg (c2 n a), .agg (c2 m b)] w fun en w' => Ahead w w' ∧ WAns (sg n x + sg m y) en w' := by
  have e1 : sg n x = sg (nD n x) x := by
    by_cases h : x = 0
    · rw [h, sg_zero, sg_zero]
    · rw [nD_ne h]
  have e2 : sg m y = sg (nD m y) y := by
    by_cases h : y = 0
    · rw [h, sg_zero, sg_zero]
    · rw [nD_ne h]
  rw [e1, e2]
  have lx := num_len ha
  have ly := num_len hb
  refine whole_Add_v2 n a m b w _ fun w1 X1 a1 => Calls.mono (wnorm_spec (ha.ahead a1)) ?_
  rintro en w2 ⟨h2, s, rfl, os⟩
  refine ⟨_, _, rfl, h2, Calls.mono (wnorm_spec ((hb.ahead a1).ahead h2)) ?_⟩
  rintro en w3 ⟨h3, t, rfl, ot⟩
  generalize nD n x = n at *
  generalize nD m y = m at *
  have ns : Num w3 s x := ⟨_, (os.ahead h3).rd, lx, ok_digs two64 _, val_digs two64 _⟩
  have nt : Num w3 t y := ⟨_, ot.rd, ly, ok_digs two64 _, val_digs two64 _⟩
  refine ⟨_, _, rfl, h3, br_intro (fun he => fun w4 X4 a4 => ?_) (fun he => fun w8 X8 a8 => ?_)⟩
  · have he' : n = m := eq_of_beq he
    subst he'
    refine Calls.mono (add_num (ns.ext X4) (nt.ext X4)) ?_
    rintro en w5 ⟨h5, u, rfl, ou⟩
    refine ⟨_, _, rfl, h5, Calls.mono (result_spec (x := x + y) (w0 := w) fun hc => ?_) ?_⟩
    · rw [if_pos hc] at ou; exact own_num ou (bigC_bl' hc)
    rintro en w6 ⟨h6, c, ng, v, rfl, hv⟩
    refine ⟨_, _, _, rfl, h6, fun w7 X7 a7 => ⟨c, ng, v, rfl, fun hc => ?_⟩⟩
    obtain ⟨q1, q2, q3⟩ := hv hc
    rw [← sg_add]
    exact ⟨q1, q2, q3.ext X7⟩
  · have he' : m = !n := by
      have := beq_eq_false_iff_ne.1 he
      cases n <;> cases m <;> simp_all
    subst he'
    refine Calls.mono (cmp_num (ns.ext X8) (nt.ext X8)) ?_
    rintro en w9 ⟨h9, rfl⟩
    refine ⟨_, rfl, h9, br_intro (fun hl => fun w10 X10 a10 => ?_) (fun hl => ?_)⟩
    · have hlt : x < y := cmpI_neg.1 (of_decide_eq_true hl)
      have XX := X8.trans (h9.ext.trans X10)
      refine Calls.mono (sub_num (nt.ext XX) (ns.ext XX)) ?_
      rintro en w11 ⟨h11, u, rfl, ou⟩
      refine ⟨_, _, rfl, h11, Calls.mono (result_spec (x := y - x) (w0 := w) fun hc => ?_) ?_⟩
      · rw [if_pos hc] at ou; refine own_num ou (bigC_bl' ?_); rw [subC, if_neg (by omega)] at hc; exact hc
      rintro en w6 ⟨h6, c, ng, v, rfl, hv⟩
      refine ⟨_, _, _, rfl, h6, fun w7 X7 a7 => ⟨c, ng, v, rfl, fun hc => ?_⟩⟩
      obtain ⟨q1, q2, q3⟩ := hv hc
      have ez : sg n x + sg (!n) y = sg (!n) (y - x) := by rw [sg_sub (by omega), sg_not, sg_not]; omega
      rw [ez]
      exact ⟨q1, q2, q3.ext X7⟩
    · have hlt : ¬ x < y := fun h => by have := of_decide_eq_false hl; exact this (cmpI_neg.2 h)
      refine Calls.mono (sub_num ((ns.ext X8).ahead h9) ((nt.ext X8).ahead h9)) ?_
      rintro en w11 ⟨h11, u, rfl, ou⟩
      refine ⟨_, _, rfl, h11, Calls.mono (result_spec (x := x - y) (w0 := w) fun hc => ?_) ?_⟩
      · rw [if_pos hc] at ou; refine own_num ou (bigC_bl' ?_); rw [subC, if_neg (by omega)] at hc; exact hc
      rintro en w6 ⟨h6, c, ng, v, rfl, hv⟩
      refine ⟨_, _, _, rfl, h6, fun w7 X7 a7 => ⟨c, ng, v, rfl, fun hc => ?_⟩⟩
      obtain ⟨q1, q2, q3⟩ := hv hc
      have ez : sg n x + sg (!n) y = sg n (x - y) := by rw [sg_sub (by omega), sg_not]; omega
      rw [ez]
      exact ⟨q1, q2, q3.ext X7⟩

/-- What is known of an answer: where the call is taken, its number. -/
def Got (P : Int → Int → Prop) (w : World) (code : Int) (neg : Bool) (s : Slc) (E : Int) : Prop :=
  code = 0 → ∃ z, neg = zb z ∧ bl z.natAbs ≤ 67108864 ∧ wi E ∧ NZ z E ∧ Rd .u64 w s (nn (digs B64 z.natAbs)) ∧ P z E
theorem Got.ext {P : Int → Int → Prop} {w w' : World} {code : Int} {neg : Bool} {s : Slc} {E : Int} (h : Got P w code neg s E) (X : Ext w w') : Got P w' code neg s E := fun hc => by
  obtain ⟨z, h1, h2, h3, h4, h5, h6⟩ := h hc
  exact ⟨z, h1, h2, h3, h4, h5.ext X, h6⟩
/-- A dyadic's number, where the call is taken. -/
def DAns (P : Int → Int → Prop) (en : Ending) (w' : World) : Prop := ∃ code neg s E, en = .returned (.tuple #[.agg (c3 neg s E), .int .i64 code]) ∧ Got P w' code neg s E
theorem DAns.ext {P : Int → Int → Prop} {en : Ending} {w w' : World} (h : DAns P en w) (X : Ext w w') : DAns P en w' := by
  obtain ⟨c, n, s, E, rfl, hh⟩ := h
  refine ⟨c, n, s, E, rfl, fun hc => ?_⟩
  obtain ⟨z, h1, h2, h3, h4, h5, h6⟩ := hh hc
  exact ⟨z, h1, h2, h3, h4, h5.ext X, h6⟩
theorem DAns.no {P : Int → Int → Prop} {w' : World} {neg : Bool} {s : Slc} {E code : Int} (h : code ≠ 0) : DAns P (.returned (.tuple #[.agg (c3 neg s E), .int .i64 code])) w' := ⟨code, neg, s, E, rfl, fun h' => absurd h' h⟩
theorem told_ans {w : World} {neg : Bool} {s : Slc} {x : Nat} {e : Int} {P : Int → Int → Prop} (hT : Tab w) (h : Num w s x) (he : -4611686018427387904 ≤ e ∧ e ≤ 4611686018427387904) (hP : P (sg (nD neg x) (od x)) (eD x e)) :
    Calls pr dyadic_told_id #[.agg (c2 neg s), .int .i64 e] w fun en w' => Ahead w w' ∧ DAns P en w' := by
  refine Calls.mono (told_spec hT h he) ?_
  rintro en w1 ⟨h1, t, rfl, ot⟩
  refine ⟨h1, _, _, _, _, rfl, fun hc => ?_⟩
  rw [if_pos hc] at ot
  rw [if_pos hc, if_pos hc]
  obtain ⟨q1, q2⟩ := tC_zero hc
  refine ⟨sg (nD neg x) (od x), ?_, ?_, q2, (NF.of neg x e).nz, ?_, hP⟩
  · rw [(NF.of neg x e).zb]
  · rw [sg_abs]; exact q1
  · rw [sg_abs]; exact ot.rd
/-- The number that told makes of z. -/
theorem Vl.told' {z E b v : Int} (hb : b ≤ E) (h0 : b ≤ 0) (h : dv z E b = v) : Vl (sg (nD (zb z) z.natAbs) (od z.natAbs)) (eD z.natAbs E) b v := Vl.told hb h0 (by rw [sg_zb]; exact h)

/-- What a sum is asked to be. -/
def SumP (z e z' e' : Int) (Z E : Int) : Prop := ∀ b, b ≤ 0 → b ≤ e → b ≤ e' → Vl Z E b (dv z e b + dv z' e' b)
theorem dv_hi {n : Bool} {x : Nat} {e e' b : Int} (hge : e' ≤ e) (hb : b ≤ e') : dv (sg n x) e b = sg n (x * 2 ^ (e - e').toNat) * ((2 ^ (e' - b).toNat : Nat) : Int) := by
  rw [← sg_mul]
  show sg n x * _ = sg n x * _ * _
  rw [Int.mul_assoc, ← Int.natCast_mul, ← Nat.pow_add]
  congr 3
  omega
theorem long_spec {w : World} {s t : Slc} {n m : Bool} {x y : Nat} {e e' : Int} (hT : Tab w) (r : Rd .u64 w s (nn (digs B64 x))) (r' : Rd .u64 w t (nn (digs B64 y))) (hge : e' ≤ e) (he : far e) (he' : far e')
    (l1 : (digs B64 x).length + (e - e').toNat / 64 + 1 ≤ 2 ^ 44) (l2 : (digs B64 (x * 2 ^ (e - e').toNat)).length + 2 ≤ 2 ^ 44) (l3 : (digs B64 y).length + 2 ≤ 2 ^ 44) :
    Calls pr dyadic_long_id #[.agg (c3 n s e), .agg (c3 m t e')] w fun en w' => Ahead w w' ∧ DAns (SumP (sg n x) e (sg m y) e') en w' := by
  unfold far at he he'
  have hv : ∀ b, b ≤ e' → dv (sg n x) e b = sg n (x * 2 ^ (e - e').toNat) * ((2 ^ (e' - b).toNat : Nat) : Int) := fun b hb => dv_hi hge hb
  have fin : ∀ (neg : Bool) (X : Nat) (w1 : World) (u : Slc), Ahead w w1 → Num w1 u X → sg neg X = sg n (x * 2 ^ (e - e').toNat) + sg m y →
      Calls pr dyadic_told_id #[.agg (c2 neg u), .int .i64 e'] w1 fun e4 w6 => ∃ b1 : Bool, ∃ s3 : Slc, ∃ x2 : Int, ∃ x3 : Int, e4 = .returned (Value.tuple #[Value.agg #[Value.bool b1, s3.v, Value.int .i64 x2], Value.int .i64 x3]) ∧ Ahead w1 w6 ∧
        (∀ w7, Ext w6 w7 → Ahead w w7 → DAns (SumP (sg n x) e (sg m y) e') (.returned (Value.tuple #[Value.agg #[Value.bool b1, s3.v, Value.int .i64 x2], Value.int .i64 x3])) w7) := by
    intro neg X w1 u a1 hu hX
    refine Calls.mono (told_ans (P := SumP (sg n x) e (sg m y) e') (hT.ahead a1) hu (by omega) ?_) ?_
    · intro b h0 h1 h2
      refine Vl.told h2 h0 ?_
      rw [hv b h2]
      show sg neg X * _ = _ + sg m y * _
      rw [← Int.add_mul, ← hX]
    · rintro en w6 ⟨h6, c, n, s3, E, rfl, hh⟩
      exact ⟨_, _, _, _, rfl, h6, fun w7 X7 a7 => DAns.ext ⟨c, n, s3, E, rfl, hh⟩ X7⟩
  generalize hA : x * 2 ^ (e - e').toNat = A at *
  refine dyadic_long_v2 n s e m t e' w _ fun w1 X1 a1 => ?_
  rw [wrap_i64 (by omega) (by omega), show e - e' = ((e - e').toNat : Int) by omega]
  refine Calls.mono (dleft_spec (r.ahead a1) l1) ?_
  rw [hA]
  rintro en w2 ⟨h2, u, rfl, ou⟩
  have a2 := a1.trans h2
  have nu : Num w2 u A := ⟨_, ou.rd, by omega, ok_digs two64 _, val_digs two64 _⟩
  have nt : Num w2 t y := ⟨_, r'.ahead a2, by omega, ok_digs two64 _, val_digs two64 _⟩
  refine ⟨_, rfl, h2, br_intro (fun hs => ?_) (fun hs => fun w12 X12 a12 => ?_)⟩
  · have hs' : m = !n := by
      have : ¬ n = m := by simpa using hs
      revert this
      cases n <;> cases m <;> simp
    refine Calls.mono (cmp_num nu nt) ?_
    rintro en w3 ⟨h3, rfl⟩
    refine ⟨_, rfl, h3, br_intro (fun hl => fun w4 X4 a4 => ?_) (fun hl => fun w8 X8 a8 => ?_)⟩
    · have hlt : A < y := cmpI_neg.1 (of_decide_eq_true hl)
      refine Calls.mono (minus_spec (r'.ahead a4) ((ou.ahead h3).ext X4).rd (by omega) (by omega)) ?_
      rintro en w5 ⟨h5, v, rfl, ov⟩
      have lm := len_mono two64 (Nat.sub_le y A)
      exact ⟨_, rfl, h5, fin _ (y - A) w5 v (a4.trans h5) ⟨_, ov.rd, by omega, ok_digs two64 _, val_digs two64 _⟩ (by rw [hs', sg_sub (by omega), sg_not, sg_not]; omega)⟩
    · have hlt : ¬ A < y := fun h => by have := of_decide_eq_false hl; exact this (cmpI_neg.2 h)
      refine Calls.mono (minus_spec ((ou.ahead h3).ext X8).rd (r'.ahead a8) (by omega) (by omega)) ?_
      rintro en w5 ⟨h5, v, rfl, ov⟩
      have lm := len_mono two64 (Nat.sub_le A y)
      exact ⟨_, rfl, h5, fin _ (A - y) w5 v (a8.trans h5) ⟨_, ov.rd, by omega, ok_digs two64 _, val_digs two64 _⟩ (by rw [hs', sg_sub (by omega), sg_not]; omega)⟩
  · have hs' : m = n := by
      have : ¬ ¬ n = m := by simpa using hs
      revert this
      cases n <;> cases m <;> simp
    refine Calls.mono (plus_spec (ou.ext X12).rd (r'.ahead a12) (by omega) (by omega)) ?_
    rintro en w5 ⟨h5, v, rfl, ov⟩
    have lm := Ref.digs_add_len two64 (x := A) (y := y) (k := 2 ^ 44 - 2) (by omega) (by omega)
    exact ⟨_, rfl, h5, fin _ (A + y) w5 v (a12.trans h5) ⟨_, ov.rd, by omega, ok_digs two64 _, val_digs two64 _⟩ (by rw [hs', sg_add])⟩

/-- Two numbers whose sum is asked for, in either order. -/
def SI (z e z' e' : Int) (n : Bool) (s : Slc) (a : Int) (m : Bool) (t : Slc) (c : Int) (w : World) (Q : Nat → Nat → Prop) : Prop := ∃ x y : Nat, Rd .u64 w s (nn (digs B64 x)) ∧ Rd .u64 w t (nn (digs B64 y)) ∧ (digs B64 x).length + 2 ≤ 2 ^ 44 ∧ (digs B64 y).length + 2 ≤ 2 ^ 44 ∧ far a ∧ far c ∧
  (∀ Z E, SumP (sg n x) a (sg m y) c Z E → SumP z e z' e' Z E) ∧ Q x y
theorem SumP.swap {z e z' e' Z E : Int} (h : SumP z e z' e' Z E) : SumP z' e' z e Z E := fun b h0 h1 h2 => by rw [Int.add_comm]; exact h b h0 h2 h1
theorem num_of_digs {w : World} {s : Slc} {x : Nat} (r : Rd .u64 w s (nn (digs B64 x))) (l : (digs B64 x).length + 2 ≤ 2 ^ 44) : Num w s x := ⟨_, r, by omega, ok_digs two64 _, val_digs two64 _⟩
theorem DAns.mono {P Q : Int → Int → Prop} {en : Ending} {w : World} (h : DAns P en w) (hq : ∀ Z E, P Z E → Q Z E) : DAns Q en w := by
  obtain ⟨c, n, s, E, rfl, hh⟩ := h
  refine ⟨c, n, s, E, rfl, fun hc => ?_⟩
  obtain ⟨z, h1, h2, h3, h4, h5, h6⟩ := hh hc
  exact ⟨z, h1, h2, h3, h4, h5, hq _ _ h6⟩
/-- The room of a shifted number. -/
theorem shl_len {x k : Nat} (h : k + bl x ≤ 67108867) : (digs B64 (x * 2 ^ k)).length ≤ 2 ^ 21 ∧ (digs B64 x).length ≤ 2 ^ 21 := by
  have h1 : bl (x * 2 ^ k) ≤ bl x + k := bl_le (by rw [Nat.pow_add]; exact Nat.mul_lt_mul_of_pos_right (lt_bl x) (two_pos k))
  exact ⟨digs_len_bl (by omega), digs_len_bl (by omega)⟩

set_option maxHeartbeats 1000000 in
theorem sum_spec {w : World} {s t : Slc} {n m : Bool} {x y : Nat} {e e' : Int} (hT : Tab w) (r : Rd .u64 w s (nn (digs B64 x))) (r' : Rd .u64 w t (nn (digs B64 y))) (he : far e) (he' : far e')
    (l : (digs B64 x).length + 2 ≤ 2 ^ 44) (l' : (digs B64 y).length + 2 ≤ 2 ^ 44) :
    Calls pr dyadic_sum_id #[.agg (c3 n s e), .agg (c3 m t e')] w fun en w' => Ahead w w' ∧ DAns (SumP (sg n x) e (sg m y) e') en w' := by
  refine dyadic_sum_v2 n s e m t e' w _
    (fun n2 s2 e2 n3 s3 e3 _ _ _ w' => SI (sg n x) e (sg m y) e' n2 s2 e2 n3 s3 e3 w' fun _ _ => True)
    (fun n2 s2 e2 n3 s3 e3 _ _ _ w' => e3 ≤ e2 ∧ SI (sg n x) e (sg m y) e' n2 s2 e2 n3 s3 e3 w' fun _ _ => True)
    (fun g n2 s2 e2 n3 s3 e3 _ _ _ w' => g = e2 - e3 ∧ e3 ≤ e2 ∧ SI (sg n x) e (sg m y) e' n2 s2 e2 n3 s3 e3 w' fun a _ => (digs B64 a).length + (e2 - e3).toNat / 64 + 1 ≤ 2 ^ 44 ∧ (digs B64 (a * 2 ^ (e2 - e3).toNat)).length + 2 ≤ 2 ^ 44)
    (fun c n2 s2 e2 n3 s3 e3 _ _ _ n7 s7 w' => e3 ≤ e2 ∧ SI (sg n x) e (sg m y) e' n2 s2 e2 n3 s3 e3 w' fun a _ => (digs B64 a).length + (e2 - e3).toNat / 64 + 1 ≤ 2 ^ 44 ∧ (digs B64 (a * 2 ^ (e2 - e3).toNat)).length + 2 ≤ 2 ^ 44 ∧
      (c = 0 → Rd .u64 w' s7 (nn (digs B64 (a * 2 ^ (e2 - e3).toNat))) ∧ sg n7 (a * 2 ^ (e2 - e3).toNat) = sg n2 (a * 2 ^ (e2 - e3).toNat))) ?_ ?_ ?_ ?_ ?_
  · intro w1 X1 a1
    refine Calls.mono (part_sign_spec (num_of_digs (r.ahead a1) l)) ?_
    rintro en w2 ⟨h2, rfl⟩
    have a2 := a1.trans h2
    refine ⟨_, rfl, h2, br_intro (fun hz => fun w3 X3 a3 => ?_) (fun hz => ?_)⟩
    · exact ⟨y, x, r'.ahead a3, r.ahead a3, l', l, he', he, fun Z E h => h.swap, trivial⟩
    · exact ⟨x, y, r.ahead a2, r'.ahead a2, l, l', he, he', fun Z E h => h, trivial⟩
  · rintro n2 s2 e2 n3 s3 e3 _ _ _ w1 a1 ⟨a, c, ra, rc, la, lc, fa, fc, hs, -⟩
    refine Calls.mono (part_sign_spec (num_of_digs rc lc)) ?_
    rintro en w2 ⟨h2, rfl⟩
    refine ⟨_, rfl, h2, br_intro (fun hz => ?_) (fun hz => br_intro (fun hlt => fun w3 X3 a3 => ?_) (fun hlt => ?_))⟩
    · have hc : c = 0 := sgn_zero_iff.1 (eq_of_beq hz)
      subst hc
      unfold far at fa
      refine Calls.mono (told_ans (P := SumP (sg n x) e (sg m y) e') (hT.ahead (a1.trans h2)) (num_of_digs (ra.ahead h2) la) (by omega) (hs _ _ ?_)) ?_
      · intro b h0 h1 h2
        refine Vl.told h1 h0 ?_
        rw [sg_zero, dv_zero, Int.add_zero]
      · rintro en w6 ⟨h6, c, n, s3, E, rfl, hh⟩
        exact ⟨_, _, _, _, rfl, h6, fun w7 X7 a7 => DAns.ext ⟨c, n, s3, E, rfl, hh⟩ X7⟩
    · exact ⟨by have := of_decide_eq_true hlt; omega, c, a, (rc.ahead h2).ext X3, (ra.ahead h2).ext X3, lc, la, fc, fa, fun Z E h => hs Z E h.swap, trivial⟩
    · exact ⟨by have := of_decide_eq_false hlt; omega, a, c, ra.ahead h2, rc.ahead h2, la, lc, fa, fc, hs, trivial⟩
  · rintro n2 s2 e2 n3 s3 e3 _ _ _ w1 a1 ⟨hge, a, c, ra, rc, la, lc, fa, fc, hs, -⟩
    have ba := (num_of_digs ra la).bl
    have bc := (num_of_digs rc lc).bl
    have fa0 := fa
    have fc0 := fc
    unfold far at fa fc
    rw [wrap_i64 (x := e2 - e3) (by omega) (by omega)]
    refine br_intro (fun hg => fun w2 X2 a2 => ?_) (fun hg => fun w2 X2 a2 => ?_)
    · refine Calls.mono (number_top_spec (num_of_digs (ra.ext X2) la) (by omega)) ?_
      rintro en w3 ⟨h3, rfl⟩
      refine ⟨_, rfl, h3, Calls.mono (number_top_spec (num_of_digs ((rc.ext X2).ahead h3) lc) (by omega)) ?_⟩
      rintro en w4 ⟨h4, rfl⟩
      refine ⟨_, rfl, h4, ?_⟩
      rw [wrap_i64 (x := e3 + (bl c : Int) - 1 + 1) (by omega) (by omega), wrap_i64 (x := maxI _ _ - e3) (by unfold maxI; split <;> omega) (by unfold maxI; split <;> omega)]
      refine br_intro (fun hb => fun w5 X5 a5 => DAns.no (by omega)) (fun hb => ?_)
      have hb' := of_decide_eq_false hb
      have hroom : (e2 - e3).toNat + bl a ≤ 67108867 := by unfold maxI at hb'; split at hb' <;> omega
      have sl := shl_len hroom
      exact ⟨rfl, hge, a, c, ((ra.ext X2).ahead h3).ahead h4, ((rc.ext X2).ahead h3).ahead h4, la, lc, fa0, fc0, hs, by omega, by omega⟩
    · have hg' := of_decide_eq_false hg
      have h0 : (e2 - e3).toNat = 0 := by omega
      exact ⟨rfl, hge, a, c, ra.ext X2, rc.ext X2, la, lc, fa0, fc0, hs, by rw [h0]; omega, by rw [h0, Nat.pow_zero, Nat.mul_one]; exact la⟩
  · rintro g n2 s2 e2 n3 s3 e3 _ _ _ w1 a1 ⟨rfl, hge, a, c, ra, rc, la, lc, fa, fc, hs, l1, l2⟩
    intro w2 X2 a2
    obtain ⟨k, hk⟩ : ∃ k : Nat, e2 - e3 = (k : Int) := ⟨(e2 - e3).toNat, by omega⟩
    have hk' : (e2 - e3).toNat = k := by omega
    rw [hk'] at l1 l2
    rw [hk', hk]
    refine Calls.mono (dleft_spec (ra.ext X2) l1) ?_
    rintro en w3 ⟨h3, u, rfl, ou⟩
    refine ⟨_, rfl, h3, fun w4 X4 a4 => ?_⟩
    refine Calls.mono (wMake_spec (neg := n2) (num_of_digs (ou.ext X4).rd l2)) ?_
    rintro en w5 ⟨h5, v, rfl, ov⟩
    refine ⟨_, _, _, rfl, h5, fun w6 X6 a6 => ?_⟩
    have XX := (X2.trans h3.ext).trans (X4.trans (h5.ext.trans X6))
    refine ⟨hge, a, c, ra.ext XX, rc.ext XX, la, lc, fa, fc, hs, l1, l2, fun hc => ?_⟩
    rw [if_pos hc] at ov
    rw [if_pos hc]
    refine ⟨(ov.ext X6).rd, ?_⟩
    generalize a * 2 ^ k = A
    by_cases h : A = 0
    · rw [h, sg_zero, sg_zero]
    · rw [nD_ne h]
  · rintro cd n2 s2 e2 n3 s3 e3 _ _ _ n7 s7 w1 a1 ⟨hge, a, c, ra, rc, la, lc, fa, fc, hs, l1, l2, h7⟩
    have lng : ∀ w2, Ext w1 w2 → Ahead w w2 → Calls pr dyadic_long_id #[.agg (c3 n2 s2 e2), .agg (c3 n3 s3 e3)] w2 fun e8 w14 => ∃ b3 : Bool, ∃ s4 : Slc, ∃ x8 : Int, ∃ x9 : Int, e8 = .returned (Value.tuple #[Value.agg #[Value.bool b3, s4.v, Value.int .i64 x8], Value.int .i64 x9]) ∧ Ahead w2 w14 ∧
        (∀ w15, Ext w14 w15 → Ahead w w15 → DAns (SumP (sg n x) e (sg m y) e') (.returned (Value.tuple #[Value.agg #[Value.bool b3, s4.v, Value.int .i64 x8], Value.int .i64 x9])) w15) := by
      intro w2 X2 a2
      refine Calls.mono (long_spec (hT.ahead a2) (ra.ext X2) (rc.ext X2) hge fa fc l1 l2 lc) ?_
      rintro en w6 ⟨h6, c, n, s3, E, rfl, hh⟩
      exact ⟨_, _, _, _, rfl, h6, fun w7 X7 a7 => DAns.mono (DAns.ext ⟨c, n, s3, E, rfl, hh⟩ X7) hs⟩
    refine br_intro (fun hc => lng w1 (Ext.refl _) a1) (fun hc => ?_)
    have hc' : cd = 0 := by simpa using hc
    obtain ⟨r7, sg7⟩ := h7 hc'
    refine Calls.mono (wAdd_spec (num_of_digs r7 l2) (num_of_digs rc lc)) ?_
    rintro en w2 ⟨h2, c2', ng, u, rfl, hu⟩
    refine ⟨_, _, _, rfl, h2, br_intro (fun hx => fun w3 X3 a3 => lng w3 (h2.ext.trans X3) a3) (fun hx => fun w3 X3 a3 => ?_)⟩
    obtain ⟨rfl, hb, ru⟩ := hu (by simpa using hx)
    have hl := digs_len_bl (m := 2 ^ 20) (show bl (sg n7 (a * 2 ^ (e2 - e3).toNat) + sg n3 c).natAbs ≤ 64 * 2 ^ 20 by omega)
    unfold far at fc
    refine Calls.mono (told_ans (P := SumP (sg n x) e (sg m y) e') (hT.ahead a3) (num_of_digs (ru.ext X3) (by omega)) (by omega) (hs _ _ ?_)) ?_
    · intro b h0 h1 h2
      refine Vl.told' h2 h0 ?_
      rw [dv_add, sg7, dv_hi hge h2]; rfl
    · rintro en w6 ⟨h6, c, n, s3, E, rfl, hh⟩
      exact ⟨_, _, _, _, rfl, h6, fun w7 X7 a7 => DAns.ext ⟨c, n, s3, E, rfl, hh⟩ X7⟩

/-- The number that a dyadic of any shape means. -/
def vz (neg : Bool) (x : Nat) : Int := sg (nD neg x) (od x)
theorem Add_spec {w : World} {neg neg' : Bool} {s s' : Slc} {x x' : Nat} {e e' : Int} (hT : Tab w) (h : Num w s x) (h' : Num w s' x') (hl : (digs B64 x).length + 2 ≤ 2 ^ 44) (hl' : (digs B64 x').length + 2 ≤ 2 ^ 44) :
    Calls pr dyadic_Add_id #[.agg (c3 neg s e), .agg (c3 neg' s' e')] w fun en w' => Ahead w w' ∧ DAns (fun Z E => wi e ∧ wi e' ∧ SumP (vz neg x) (eD x e) (vz neg' x') (eD x' e') Z E) en w' := by
  refine dyadic_Add_v2 neg s e neg' s' e' w _ fun w1 X1 a1 => Calls.mono (two_spec (hT.ahead a1) (h.ahead a1) (h'.ahead a1)) ?_
  rintro en w2 ⟨h2, b1, s1, x1, b2, s2, x2, rfl, hh⟩
  refine ⟨_, _, _, _, _, _, _, rfl, h2, br_intro (fun hc => fun w3 X3 a3 => DAns.no (by simpa using hc)) (fun hc => fun w4 X4 a4 => ?_)⟩
  have hc' : twC e e' = 0 := by simpa using hc
  obtain ⟨rfl, rfl, rfl, rfl, o1, o2⟩ := hh hc'
  obtain ⟨hw, hw'⟩ := twC_zero hc'
  have l1 := len_mono two64 (od_le x)
  have l2 := len_mono two64 (od_le x')
  refine Calls.mono (sum_spec (hT.ahead a4) (o1.ext X4).rd (o2.ext X4).rd (far_eD h hw) (far_eD h' hw') (by omega) (by omega)) ?_
  rintro en w6 ⟨h6, c, n, s3, E, rfl, hh⟩
  exact ⟨_, _, _, _, rfl, h6, fun w7 X7 a7 => DAns.mono (DAns.ext ⟨c, n, s3, E, rfl, hh⟩ X7) fun Z E q => ⟨hw, hw', q⟩⟩
theorem Sub_spec {w : World} {neg neg' : Bool} {s s' : Slc} {x x' : Nat} {e e' : Int} (hT : Tab w) (h : Num w s x) (h' : Num w s' x') (hl : (digs B64 x).length + 2 ≤ 2 ^ 44) (hl' : (digs B64 x').length + 2 ≤ 2 ^ 44) :
    Calls pr dyadic_Sub_id #[.agg (c3 neg s e), .agg (c3 neg' s' e')] w fun en w' => Ahead w w' ∧ DAns (fun Z E => wi e ∧ wi e' ∧ SumP (vz neg x) (eD x e) (-vz neg' x') (eD x' e') Z E) en w' := by
  refine dyadic_Sub_v2 neg s e neg' s' e' w _ fun w1 X1 a1 => Calls.mono (two_spec (hT.ahead a1) (h.ahead a1) (h'.ahead a1)) ?_
  rintro en w2 ⟨h2, b1, s1, x1, b2, s2, x2, rfl, hh⟩
  refine ⟨_, _, _, _, _, _, _, rfl, h2, br_intro (fun hc => fun w3 X3 a3 => DAns.no (by simpa using hc)) (fun hc => fun w4 X4 a4 => ?_)⟩
  have hc' : twC e e' = 0 := by simpa using hc
  obtain ⟨rfl, rfl, rfl, rfl, o1, o2⟩ := hh hc'
  obtain ⟨hw, hw'⟩ := twC_zero hc'
  have l1 := len_mono two64 (od_le x)
  have l2 := len_mono two64 (od_le x')
  refine Calls.mono (sum_spec (hT.ahead a4) (o1.ext X4).rd (o2.ext X4).rd (far_eD h hw) (far_eD h' hw') (by omega) (by omega)) ?_
  rintro en w6 ⟨h6, c, n, s3, E, rfl, hh⟩
  rw [sg_not] at hh
  exact ⟨_, _, _, _, rfl, h6, fun w7 X7 a7 => DAns.mono (DAns.ext ⟨c, n, s3, E, rfl, hh⟩ X7) fun Z E q => ⟨hw, hw', q⟩⟩

end Dy
end Go.Proofs.YtahbekmnphkiiaaDoor
namespace Go.Proofs.YtahbekmnphkiiaaDoor
open Go Go.RowKit Eng
set_option linter.unusedVariables false

def surdlaw08_DyadicOwn_cut (J0 : Int → Addr → Addr → Addr → Addr → Slc → Addr → Addr → Int → Addr → Int → Addr → Int → Addr → Int → Int → Int → World → Prop) (m0 : Int → Addr → Addr → Addr → Addr → Slc → Addr → Addr → Int → Addr → Int → Addr → Int → Addr → Int → Int → Int → World → Nat) (K10 : Int → Addr → Addr → Addr → Addr → Slc → Addr → Addr → Int → Addr → Int → World → Prop) (K18 : Int → Addr → Addr → Addr → Addr → Addr → Int → Addr → Int → Addr → Int → Addr → Int → Addr → World → Prop) (K20 : Int → Addr → Addr → Addr → Addr → Int → Addr → Int → Addr → Int → Addr → Int → Addr → Addr → Int → Addr → Int → World → Prop) : Nat → Option ((Act → World → Prop) × (Act → World → Nat))
  | 0 => some (fun a_ w_ => atSz a_ 207 (atI .i64 a_ 2 fun t2 => atA a_ 3 fun t3 => atA a_ 4 fun t4 => atA a_ 7 fun t7 => atA a_ 9 fun t9 => atS a_ 11 fun t11 => atA a_ 12 fun t12 => atA a_ 13 fun t13 => atI .i64 a_ 14 fun t14 => atA a_ 15 fun t15 => atI .i64 a_ 16 fun t16 => atA a_ 17 fun t17 => atI .i64 a_ 18 fun t18 => atA a_ 19 fun t19 => atI .i64 a_ 20 fun t20 => atI .i64 a_ 86 fun t86 => atI .i64 a_ 87 fun t87 => J0 t2 t3 t4 t7 t9 t11 t12 t13 t14 t15 t16 t17 t18 t19 t20 t86 t87 w_), fun a_ w_ => mI a_ 2 fun t2 => mA a_ 3 fun t3 => mA a_ 4 fun t4 => mA a_ 7 fun t7 => mA a_ 9 fun t9 => mS a_ 11 fun t11 => mA a_ 12 fun t12 => mA a_ 13 fun t13 => mI a_ 14 fun t14 => mA a_ 15 fun t15 => mI a_ 16 fun t16 => mA a_ 17 fun t17 => mI a_ 18 fun t18 => mA a_ 19 fun t19 => mI a_ 20 fun t20 => mI a_ 86 fun t86 => mI a_ 87 fun t87 => m0 t2 t3 t4 t7 t9 t11 t12 t13 t14 t15 t16 t17 t18 t19 t20 t86 t87 w_)
  | 3000010 => some (fun a_ w_ => atSz a_ 207 (atI .i64 a_ 2 fun t2 => atA a_ 3 fun t3 => atA a_ 4 fun t4 => atA a_ 7 fun t7 => atA a_ 9 fun t9 => atS a_ 11 fun t11 => atA a_ 12 fun t12 => atA a_ 13 fun t13 => atI .i64 a_ 14 fun t14 => atA a_ 15 fun t15 => atI .i64 a_ 16 fun t16 => K10 t2 t3 t4 t7 t9 t11 t12 t13 t14 t15 t16 w_), fun _ _ => 0)
  | 3000018 => some (fun a_ w_ => atSz a_ 207 (atI .i64 a_ 2 fun t2 => atA a_ 4 fun t4 => atA a_ 7 fun t7 => atA a_ 9 fun t9 => atA a_ 12 fun t12 => atA a_ 13 fun t13 => atI .i64 a_ 14 fun t14 => atA a_ 15 fun t15 => atI .i64 a_ 16 fun t16 => atA a_ 17 fun t17 => atI .i64 a_ 18 fun t18 => atA a_ 19 fun t19 => atI .i64 a_ 20 fun t20 => atA a_ 22 fun t22 => K18 t2 t4 t7 t9 t12 t13 t14 t15 t16 t17 t18 t19 t20 t22 w_), fun _ _ => 0)
  | 3000020 => some (fun a_ w_ => atSz a_ 207 (atI .i64 a_ 2 fun t2 => atA a_ 7 fun t7 => atA a_ 9 fun t9 => atA a_ 12 fun t12 => atA a_ 13 fun t13 => atI .i64 a_ 14 fun t14 => atA a_ 15 fun t15 => atI .i64 a_ 16 fun t16 => atA a_ 17 fun t17 => atI .i64 a_ 18 fun t18 => atA a_ 19 fun t19 => atI .i64 a_ 20 fun t20 => atA a_ 22 fun t22 => atA a_ 23 fun t23 => atI .i64 a_ 24 fun t24 => atA a_ 25 fun t25 => atI .i64 a_ 26 fun t26 => K20 t2 t7 t9 t12 t13 t14 t15 t16 t17 t18 t19 t20 t22 t23 t24 t25 t26 w_), fun _ _ => 0)
  | _ => none

set_option maxRecDepth 100000 in
/-- surd/surdlaw08.DyadicOwn: function 3. -/
theorem surdlaw08_DyadicOwn_vc (a0_0 : Bool) (a0_1 : Slc) (a0_2 : Int) (a1_0 : Bool) (a1_1 : Slc) (a1_2 : Int) (a2 : Int) (w : World) (R : Ending → World → Prop)
    (J0 : Int → Addr → Addr → Addr → Addr → Slc → Addr → Addr → Int → Addr → Int → Addr → Int → Addr → Int → Int → Int → World → Prop) (m0 : Int → Addr → Addr → Addr → Addr → Slc → Addr → Addr → Int → Addr → Int → Addr → Int → Addr → Int → Int → Int → World → Nat) (K10 : Int → Addr → Addr → Addr → Addr → Slc → Addr → Addr → Int → Addr → Int → World → Prop) (K18 : Int → Addr → Addr → Addr → Addr → Addr → Int → Addr → Int → Addr → Int → Addr → Int → Addr → World → Prop) (K20 : Int → Addr → Addr → Addr → Addr → Int → Addr → Int → Addr → Int → Addr → Int → Addr → Addr → Int → Addr → Int → World → Prop)
    (h : newC w #[Value.bool a0_0, a0_1.v, Value.int .i64 a0_2] 24 fun ad1 w1 =>
    newC w1 #[Value.bool a1_0, a1_1.v, Value.int .i64 a1_2] 24 fun ad2 w2 =>
    ldB ad1 w2 fun b1 =>
    ldS (ad1.add 1) w2 fun s1 =>
    ldI .i64 (ad1.add 2) w2 fun x1 =>
    Calls Tryd.prog 6 #[Value.agg #[Value.bool b1, s1.v, Value.int .i64 x1]] w2 fun e1 w3 =>
    ∃ b2 : Bool, ∃ s2 : Slc, ∃ x2 : Int, ∃ b3 : Bool, e1 = .returned (Value.tuple #[Value.agg #[Value.bool b2, s2.v, Value.int .i64 x2], Value.bool b3]) ∧
    (newC w3 #[Value.bool false, (⟨none, 0, 0⟩ : Slc).v, Value.int .i64 0] 29 fun ad3 w4 =>
     stC ad3 (Value.bool b2) w4 fun w5 =>
     stC (ad3.add 1) s2.v w5 fun w6 =>
     stC (ad3.add 2) (Value.int .i64 x2) w6 fun w7 =>
     ldB ad2 w7 fun b4 =>
     ldS (ad2.add 1) w7 fun s3 =>
     ldI .i64 (ad2.add 2) w7 fun x3 =>
     Calls Tryd.prog 6 #[Value.agg #[Value.bool b4, s3.v, Value.int .i64 x3]] w7 fun e2 w8 =>
     ∃ b5 : Bool, ∃ s4 : Slc, ∃ x4 : Int, ∃ b6 : Bool, e2 = .returned (Value.tuple #[Value.agg #[Value.bool b5, s4.v, Value.int .i64 x4], Value.bool b6]) ∧
     (newC w8 #[Value.bool false, (⟨none, 0, 0⟩ : Slc).v, Value.int .i64 0] 29 fun ad4 w9 =>
      stC ad4 (Value.bool b5) w9 fun w10 =>
      stC (ad4.add 1) s4.v w10 fun w11 =>
      stC (ad4.add 2) (Value.int .i64 x4) w11 fun w12 =>
      br (!b3)
      (Calls Tryd.prog 8 #[] w12 fun e3 w13 =>
       ∃ b7 : Bool, e3 = .returned (Value.bool b7) ∧
       (R (.returned (Value.bool b7)) w13))
      (br (!b6)
       (Calls Tryd.prog 8 #[] w12 fun e4 w14 =>
        ∃ b8 : Bool, e4 = .returned (Value.bool b8) ∧
        (R (.returned (Value.bool b8)) w14))
       (Calls Tryd.prog 7 #[Value.int .i64 a2] w12 fun e5 w15 =>
        ∃ b9 : Bool, e5 = .returned (Value.bool b9) ∧
        (br (!b9)
         (Calls Tryd.prog 8 #[] w15 fun e6 w16 =>
          ∃ b10 : Bool, e6 = .returned (Value.bool b10) ∧
          (R (.returned (Value.bool b10)) w16))
         (ldS (ad1.add 1) w15 fun s5 =>
          Calls Tryd.prog 9 #[s5.v] w15 fun e7 w17 =>
          ∃ s6 : Slc, e7 = .returned s6.v ∧
          (ldB ad1 w17 fun b11 =>
           ldI .i64 (ad1.add 2) w17 fun x5 =>
           newC w17 #[Value.bool false, (⟨none, 0, 0⟩ : Slc).v, Value.int .i64 0] 39 fun ad5 w18 =>
           stC ad5 (Value.bool b11) w18 fun w19 =>
           stC (ad5.add 1) s6.v w19 fun w20 =>
           stC (ad5.add 2) (Value.int .i64 x5) w20 fun w21 =>
           ldB ad5 w21 fun b12 =>
           ldS (ad5.add 1) w21 fun s7 =>
           ldI .i64 (ad5.add 2) w21 fun x6 =>
           Calls Tryd.prog 10 #[Value.agg #[Value.bool b12, s7.v, Value.int .i64 x6], Value.int .i64 a2, Value.int .i64 0] w21 fun e8 w22 =>
           ∃ b13 : Bool, ∃ s8 : Slc, ∃ x7 : Int, ∃ x8 : Int, e8 = .returned (Value.tuple #[Value.agg #[Value.bool b13, s8.v, Value.int .i64 x7], Value.int .i64 x8]) ∧
           (newC w22 #[Value.bool false, (⟨none, 0, 0⟩ : Slc).v, Value.int .i64 0] 39 fun ad6 w23 =>
            stC ad6 (Value.bool b13) w23 fun w24 =>
            stC (ad6.add 1) s8.v w24 fun w25 =>
            stC (ad6.add 2) (Value.int .i64 x7) w25 fun w26 =>
            ∃ V1 : Nat → Nat → Prop, Out (V1 0) ad5 (ldB ad5 w26.drew fun b14 =>
             ldS (ad5.add 1) w26.drew fun s9 =>
             ldI .i64 (ad5.add 2) w26.drew fun x9 =>
             Out (V1 1) ad2 (ldB ad2 w26.drew fun b15 =>
              ldS (ad2.add 1) w26.drew fun s10 =>
              ldI .i64 (ad2.add 2) w26.drew fun x10 =>
              (Calls Tryd.prog 12 #[Value.agg #[Value.bool b15, s10.v, Value.int .i64 x10]] w26.drew fun e9 w27 =>
               ∃ b16 : Bool, ∃ s11 : Slc, ∃ x11 : Int, e9 = .returned (Value.agg #[Value.bool b16, s11.v, Value.int .i64 x11]) ∧
               (Bar (V1 0) w26.drew w27 ∧
                ((Calls Tryd.prog 11 #[Value.agg #[Value.bool b14, s9.v, Value.int .i64 x9], Value.agg #[Value.bool b16, s11.v, Value.int .i64 x11]] w27 fun e10 w28 =>
                  ∃ b17 : Bool, ∃ s12 : Slc, ∃ x12 : Int, ∃ x13 : Int, e10 = .returned (Value.tuple #[Value.agg #[Value.bool b17, s12.v, Value.int .i64 x12], Value.int .i64 x13]) ∧
                  (newC w28 #[Value.bool false, (⟨none, 0, 0⟩ : Slc).v, Value.int .i64 0] 39 fun ad7 w29 =>
                   Bar (V1 0) w28 w29 ∧
                   (Bar (V1 1) w28 w29 ∧
                    (stC ad7 (Value.bool b17) w29 fun w30 =>
                     stC (ad7.add 1) s12.v w30 fun w31 =>
                     stC (ad7.add 2) (Value.int .i64 x12) w31 fun w32 =>
                     K10 a2 ad1 ad2 ad3 ad4 s6 ad5 ad6 x8 ad7 x13 w32)))) ∧
                 (newC w27 #[Value.bool false, (⟨none, 0, 0⟩ : Slc).v, Value.int .i64 0] 39 fun ad21 w107 =>
                  Bar (V1 0) w27 w107 ∧
                  (Bar (V1 1) w27 w107 ∧
                   (Calls Tryd.prog 11 #[Value.agg #[Value.bool b14, s9.v, Value.int .i64 x9], Value.agg #[Value.bool b16, s11.v, Value.int .i64 x11]] w107 fun e41 w108 =>
                    ∃ b71 : Bool, ∃ s63 : Slc, ∃ x64 : Int, ∃ x65 : Int, e41 = .returned (Value.tuple #[Value.agg #[Value.bool b71, s63.v, Value.int .i64 x64], Value.int .i64 x65]) ∧
                    (stC ad21 (Value.bool b71) w108 fun w109 =>
                     stC (ad21.add 1) s63.v w109 fun w110 =>
                     stC (ad21.add 2) (Value.int .i64 x64) w110 fun w111 =>
                     K10 a2 ad1 ad2 ad3 ad4 s6 ad5 ad6 x8 ad21 x65 w111))))))) ∧
              (newC w26.drew #[Value.bool false, (⟨none, 0, 0⟩ : Slc).v, Value.int .i64 0] 39 fun ad22 w112 =>
               Bar (V1 0) w26.drew w112 ∧
               (Bar (V1 1) w26.drew w112 ∧
                (Calls Tryd.prog 12 #[Value.agg #[Value.bool b15, s10.v, Value.int .i64 x10]] w112 fun e42 w113 =>
                 ∃ b72 : Bool, ∃ s64 : Slc, ∃ x66 : Int, e42 = .returned (Value.agg #[Value.bool b72, s64.v, Value.int .i64 x66]) ∧
                 (Bar (V1 0) w112 w113 ∧
                  (Calls Tryd.prog 11 #[Value.agg #[Value.bool b14, s9.v, Value.int .i64 x9], Value.agg #[Value.bool b72, s64.v, Value.int .i64 x66]] w113 fun e43 w114 =>
                   ∃ b73 : Bool, ∃ s65 : Slc, ∃ x67 : Int, ∃ x68 : Int, e43 = .returned (Value.tuple #[Value.agg #[Value.bool b73, s65.v, Value.int .i64 x67], Value.int .i64 x68]) ∧
                   (stC ad22 (Value.bool b73) w114 fun w115 =>
                    stC (ad22.add 1) s65.v w115 fun w116 =>
                    stC (ad22.add 2) (Value.int .i64 x67) w116 fun w117 =>
                    K10 a2 ad1 ad2 ad3 ad4 s6 ad5 ad6 x8 ad22 x68 w117)))))))))))))))))
    (h0 : ∀ (t2 : Int) (t3 : Addr) (t4 : Addr) (t7 : Addr) (t9 : Addr) (t11 : Slc) (t12 : Addr) (t13 : Addr) (t14 : Int) (t15 : Addr) (t16 : Int) (t17 : Addr) (t18 : Int) (t19 : Addr) (t20 : Int) (t86 : Int) (t87 : Int) (w_ : World), J0 t2 t3 t4 t7 t9 t11 t12 t13 t14 t15 t16 t17 t18 t19 t20 t86 t87 w_ → 
    br (decide (t87 < t86))
    (semA Tryd.prog (Instr.indexAt 22 t11.v (Value.int .i64 t87)) w_ fun ad10 w43 =>
     ldI .u64 ad10 w43 fun x20 =>
     semA Tryd.prog (Instr.indexAt 22 t11.v (Value.int .i64 t87)) w43 fun ad11 w44 =>
     stC ad11 (Value.int .u64 (xorI .u64 x20 9)) w44 fun w45 =>
     J0 t2 t3 t4 t7 t9 t11 t12 t13 t14 t15 t16 t17 t18 t19 t20 t86 (IntKind.i64.wrap (t87 + 1)) w45 ∧
     m0 t2 t3 t4 t7 t9 t11 t12 t13 t14 t15 t16 t17 t18 t19 t20 t86 (IntKind.i64.wrap (t87 + 1)) w45 < m0 t2 t3 t4 t7 t9 t11 t12 t13 t14 t15 t16 t17 t18 t19 t20 t86 t87 w_)
    (ldB t3 w_.drew fun b22 =>
     ldI .i64 (t3.add 2) w_.drew fun x21 =>
     (Calls Tryd.prog 15 #[Value.bool b22, t11.v] w_.drew fun e13 w46 =>
      ∃ b23 : Bool, ∃ s17 : Slc, e13 = .returned (Value.agg #[Value.bool b23, s17.v]) ∧
      (Ahead w_.drew w46 ∧
       ((Calls Tryd.prog 14 #[Value.agg #[Value.bool b23, s17.v], Value.int .i64 x21] w46 fun e14 w47 =>
         ∃ b24 : Bool, ∃ s18 : Slc, ∃ x22 : Int, e14 = .returned (Value.agg #[Value.bool b24, s18.v, Value.int .i64 x22]) ∧
         (Ahead w46 w47 ∧
          (newC w47 #[Value.bool false, (⟨none, 0, 0⟩ : Slc).v, Value.int .i64 0] 29 fun ad12 w48 =>
           Ahead w47 w48 ∧
           (stC ad12 (Value.bool b24) w48 fun w49 =>
            stC (ad12.add 1) s18.v w49 fun w50 =>
            stC (ad12.add 2) (Value.int .i64 x22) w50 fun w51 =>
            K18 t2 t4 t7 t9 t12 t13 t14 t15 t16 t17 t18 t19 t20 ad12 w51)))) ∧
        (newC w46 #[Value.bool false, (⟨none, 0, 0⟩ : Slc).v, Value.int .i64 0] 29 fun ad19 w96 =>
         Ahead w46 w96 ∧
         (Calls Tryd.prog 14 #[Value.agg #[Value.bool b23, s17.v], Value.int .i64 x21] w96 fun e38 w97 =>
          ∃ b68 : Bool, ∃ s60 : Slc, ∃ x62 : Int, e38 = .returned (Value.agg #[Value.bool b68, s60.v, Value.int .i64 x62]) ∧
          (Ahead w96 w97 ∧
           (stC ad19 (Value.bool b68) w97 fun w98 =>
            stC (ad19.add 1) s60.v w98 fun w99 =>
            stC (ad19.add 2) (Value.int .i64 x62) w99 fun w100 =>
            K18 t2 t4 t7 t9 t12 t13 t14 t15 t16 t17 t18 t19 t20 ad19 w100))))))) ∧
     (newC w_.drew #[Value.bool false, (⟨none, 0, 0⟩ : Slc).v, Value.int .i64 0] 29 fun ad20 w101 =>
      Ahead w_.drew w101 ∧
      (Calls Tryd.prog 15 #[Value.bool b22, t11.v] w101 fun e39 w102 =>
       ∃ b69 : Bool, ∃ s61 : Slc, e39 = .returned (Value.agg #[Value.bool b69, s61.v]) ∧
       (Ahead w101 w102 ∧
        (Calls Tryd.prog 14 #[Value.agg #[Value.bool b69, s61.v], Value.int .i64 x21] w102 fun e40 w103 =>
         ∃ b70 : Bool, ∃ s62 : Slc, ∃ x63 : Int, e40 = .returned (Value.agg #[Value.bool b70, s62.v, Value.int .i64 x63]) ∧
         (Ahead w102 w103 ∧
          (stC ad20 (Value.bool b70) w103 fun w104 =>
           stC (ad20.add 1) s62.v w104 fun w105 =>
           stC (ad20.add 2) (Value.int .i64 x63) w105 fun w106 =>
           K18 t2 t4 t7 t9 t12 t13 t14 t15 t16 t17 t18 t19 t20 ad20 w106))))))))
    (h3000010 : ∀ (t2 : Int) (t3 : Addr) (t4 : Addr) (t7 : Addr) (t9 : Addr) (t11 : Slc) (t12 : Addr) (t13 : Addr) (t14 : Int) (t15 : Addr) (t16 : Int) (w_ : World), K10 t2 t3 t4 t7 t9 t11 t12 t13 t14 t15 t16 w_ → 
    ldB t12 w_ fun b18 =>
    ldS (t12.add 1) w_ fun s13 =>
    ldI .i64 (t12.add 2) w_ fun x14 =>
    Calls Tryd.prog 10 #[Value.agg #[Value.bool b18, s13.v, Value.int .i64 x14], Value.int .i64 t2, Value.int .i64 0] w_ fun e11 w33 =>
    ∃ b19 : Bool, ∃ s14 : Slc, ∃ x15 : Int, ∃ x16 : Int, e11 = .returned (Value.tuple #[Value.agg #[Value.bool b19, s14.v, Value.int .i64 x15], Value.int .i64 x16]) ∧
    (newC w33 #[Value.bool false, (⟨none, 0, 0⟩ : Slc).v, Value.int .i64 0] 39 fun ad8 w34 =>
     stC ad8 (Value.bool b19) w34 fun w35 =>
     stC (ad8.add 1) s14.v w35 fun w36 =>
     stC (ad8.add 2) (Value.int .i64 x15) w36 fun w37 =>
     ldB t12 w37 fun b20 =>
     ldS (t12.add 1) w37 fun s15 =>
     ldI .i64 (t12.add 2) w37 fun x17 =>
     Calls Tryd.prog 13 #[Value.agg #[Value.bool b20, s15.v, Value.int .i64 x17]] w37 fun e12 w38 =>
     ∃ b21 : Bool, ∃ s16 : Slc, ∃ x18 : Int, ∃ x19 : Int, e12 = .returned (Value.tuple #[Value.agg #[Value.bool b21, s16.v, Value.int .i64 x18], Value.int .i64 x19]) ∧
     (newC w38 #[Value.bool false, (⟨none, 0, 0⟩ : Slc).v, Value.int .i64 0] 39 fun ad9 w39 =>
      stC ad9 (Value.bool b21) w39 fun w40 =>
      stC (ad9.add 1) s16.v w40 fun w41 =>
      stC (ad9.add 2) (Value.int .i64 x18) w41 fun w42 =>
      J0 t2 t3 t4 t7 t9 t11 t12 t13 t14 t15 t16 ad8 x16 ad9 x19 (t11.n : Int) 0 w42)))
    (h3000018 : ∀ (t2 : Int) (t4 : Addr) (t7 : Addr) (t9 : Addr) (t12 : Addr) (t13 : Addr) (t14 : Int) (t15 : Addr) (t16 : Int) (t17 : Addr) (t18 : Int) (t19 : Addr) (t20 : Int) (t22 : Addr) (w_ : World), K18 t2 t4 t7 t9 t12 t13 t14 t15 t16 t17 t18 t19 t20 t22 w_ → 
    ldB t12 w_ fun b25 =>
    ldS (t12.add 1) w_ fun s19 =>
    ldI .i64 (t12.add 2) w_ fun x23 =>
    Calls Tryd.prog 10 #[Value.agg #[Value.bool b25, s19.v, Value.int .i64 x23], Value.int .i64 t2, Value.int .i64 0] w_ fun e15 w52 =>
    ∃ b26 : Bool, ∃ s20 : Slc, ∃ x24 : Int, ∃ x25 : Int, e15 = .returned (Value.tuple #[Value.agg #[Value.bool b26, s20.v, Value.int .i64 x24], Value.int .i64 x25]) ∧
    (newC w52 #[Value.bool false, (⟨none, 0, 0⟩ : Slc).v, Value.int .i64 0] 39 fun ad13 w53 =>
     stC ad13 (Value.bool b26) w53 fun w54 =>
     stC (ad13.add 1) s20.v w54 fun w55 =>
     stC (ad13.add 2) (Value.int .i64 x24) w55 fun w56 =>
     ∃ V2 : Nat → Nat → Prop, Out (V2 0) t12 (ldB t12 w56.drew fun b27 =>
      ldS (t12.add 1) w56.drew fun s21 =>
      ldI .i64 (t12.add 2) w56.drew fun x26 =>
      Out (V2 1) t4 (ldB t4 w56.drew fun b28 =>
       ldS (t4.add 1) w56.drew fun s22 =>
       ldI .i64 (t4.add 2) w56.drew fun x27 =>
       (Calls Tryd.prog 12 #[Value.agg #[Value.bool b28, s22.v, Value.int .i64 x27]] w56.drew fun e16 w57 =>
        ∃ b29 : Bool, ∃ s23 : Slc, ∃ x28 : Int, e16 = .returned (Value.agg #[Value.bool b29, s23.v, Value.int .i64 x28]) ∧
        (Bar (V2 0) w56.drew w57 ∧
         ((Calls Tryd.prog 11 #[Value.agg #[Value.bool b27, s21.v, Value.int .i64 x26], Value.agg #[Value.bool b29, s23.v, Value.int .i64 x28]] w57 fun e17 w58 =>
           ∃ b30 : Bool, ∃ s24 : Slc, ∃ x29 : Int, ∃ x30 : Int, e17 = .returned (Value.tuple #[Value.agg #[Value.bool b30, s24.v, Value.int .i64 x29], Value.int .i64 x30]) ∧
           (newC w58 #[Value.bool false, (⟨none, 0, 0⟩ : Slc).v, Value.int .i64 0] 39 fun ad14 w59 =>
            Bar (V2 0) w58 w59 ∧
            (Bar (V2 1) w58 w59 ∧
             (stC ad14 (Value.bool b30) w59 fun w60 =>
              stC (ad14.add 1) s24.v w60 fun w61 =>
              stC (ad14.add 2) (Value.int .i64 x29) w61 fun w62 =>
              K20 t2 t7 t9 t12 t13 t14 t15 t16 t17 t18 t19 t20 t22 ad13 x25 ad14 x30 w62)))) ∧
          (newC w57 #[Value.bool false, (⟨none, 0, 0⟩ : Slc).v, Value.int .i64 0] 39 fun ad17 w85 =>
           Bar (V2 0) w57 w85 ∧
           (Bar (V2 1) w57 w85 ∧
            (Calls Tryd.prog 11 #[Value.agg #[Value.bool b27, s21.v, Value.int .i64 x26], Value.agg #[Value.bool b29, s23.v, Value.int .i64 x28]] w85 fun e35 w86 =>
             ∃ b65 : Bool, ∃ s57 : Slc, ∃ x57 : Int, ∃ x58 : Int, e35 = .returned (Value.tuple #[Value.agg #[Value.bool b65, s57.v, Value.int .i64 x57], Value.int .i64 x58]) ∧
             (stC ad17 (Value.bool b65) w86 fun w87 =>
              stC (ad17.add 1) s57.v w87 fun w88 =>
              stC (ad17.add 2) (Value.int .i64 x57) w88 fun w89 =>
              K20 t2 t7 t9 t12 t13 t14 t15 t16 t17 t18 t19 t20 t22 ad13 x25 ad17 x58 w89))))))) ∧
       (newC w56.drew #[Value.bool false, (⟨none, 0, 0⟩ : Slc).v, Value.int .i64 0] 39 fun ad18 w90 =>
        Bar (V2 0) w56.drew w90 ∧
        (Bar (V2 1) w56.drew w90 ∧
         (Calls Tryd.prog 12 #[Value.agg #[Value.bool b28, s22.v, Value.int .i64 x27]] w90 fun e36 w91 =>
          ∃ b66 : Bool, ∃ s58 : Slc, ∃ x59 : Int, e36 = .returned (Value.agg #[Value.bool b66, s58.v, Value.int .i64 x59]) ∧
          (Bar (V2 0) w90 w91 ∧
           (Calls Tryd.prog 11 #[Value.agg #[Value.bool b27, s21.v, Value.int .i64 x26], Value.agg #[Value.bool b66, s58.v, Value.int .i64 x59]] w91 fun e37 w92 =>
            ∃ b67 : Bool, ∃ s59 : Slc, ∃ x60 : Int, ∃ x61 : Int, e37 = .returned (Value.tuple #[Value.agg #[Value.bool b67, s59.v, Value.int .i64 x60], Value.int .i64 x61]) ∧
            (stC ad18 (Value.bool b67) w92 fun w93 =>
             stC (ad18.add 1) s59.v w93 fun w94 =>
             stC (ad18.add 2) (Value.int .i64 x60) w94 fun w95 =>
             K20 t2 t7 t9 t12 t13 t14 t15 t16 t17 t18 t19 t20 t22 ad13 x25 ad18 x61 w95))))))))))
    (h3000020 : ∀ (t2 : Int) (t7 : Addr) (t9 : Addr) (t12 : Addr) (t13 : Addr) (t14 : Int) (t15 : Addr) (t16 : Int) (t17 : Addr) (t18 : Int) (t19 : Addr) (t20 : Int) (t22 : Addr) (t23 : Addr) (t24 : Int) (t25 : Addr) (t26 : Int) (w_ : World), K20 t2 t7 t9 t12 t13 t14 t15 t16 t17 t18 t19 t20 t22 t23 t24 t25 t26 w_ → 
    ldB t12 w_ fun b31 =>
    ldS (t12.add 1) w_ fun s25 =>
    ldI .i64 (t12.add 2) w_ fun x31 =>
    Calls Tryd.prog 13 #[Value.agg #[Value.bool b31, s25.v, Value.int .i64 x31]] w_ fun e18 w63 =>
    ∃ b32 : Bool, ∃ s26 : Slc, ∃ x32 : Int, ∃ x33 : Int, e18 = .returned (Value.tuple #[Value.agg #[Value.bool b32, s26.v, Value.int .i64 x32], Value.int .i64 x33]) ∧
    (newC w63 #[Value.bool false, (⟨none, 0, 0⟩ : Slc).v, Value.int .i64 0] 39 fun ad15 w64 =>
     stC ad15 (Value.bool b32) w64 fun w65 =>
     stC (ad15.add 1) s26.v w65 fun w66 =>
     stC (ad15.add 2) (Value.int .i64 x32) w66 fun w67 =>
     ldB t13 w67.drew fun b33 =>
     ldS (t13.add 1) w67.drew fun s27 =>
     ldI .i64 (t13.add 2) w67.drew fun x34 =>
     ldB t7 w67.drew fun b34 =>
     ldS (t7.add 1) w67.drew fun s28 =>
     ldI .i64 (t7.add 2) w67.drew fun x35 =>
     Calls Tryd.prog 17 #[Value.agg #[Value.bool b34, s28.v, Value.int .i64 x35], Value.int .i64 t2, Value.int .i64 0] w67.drew fun e19 w68 =>
     ∃ b35 : Bool, ∃ s29 : Slc, ∃ x36 : Int, e19 = .returned (Value.agg #[Value.bool b35, s29.v, Value.int .i64 x36]) ∧
     (Ahead w67.drew w68 ∧
      (Calls Tryd.prog 16 #[Value.agg #[Value.bool b33, s27.v, Value.int .i64 x34], Value.int .i64 t14, Value.agg #[Value.bool b35, s29.v, Value.int .i64 x36], Value.int .i64 0] w68 fun e20 w69 =>
       ∃ b36 : Bool, e20 = .returned (Value.bool b36) ∧
       (Ahead w68 w69 ∧
        (br (!b36)
         (R (.returned (Value.bool false)) w69)
         (ldB t17 w69 fun b37 =>
          ldS (t17.add 1) w69 fun s30 =>
          ldI .i64 (t17.add 2) w69 fun x37 =>
          ldB t7 w69 fun b38 =>
          ldS (t7.add 1) w69 fun s31 =>
          ldI .i64 (t7.add 2) w69 fun x38 =>
          Calls Tryd.prog 17 #[Value.agg #[Value.bool b38, s31.v, Value.int .i64 x38], Value.int .i64 t2, Value.int .i64 0] w69 fun e21 w70 =>
          ∃ b39 : Bool, ∃ s32 : Slc, ∃ x39 : Int, e21 = .returned (Value.agg #[Value.bool b39, s32.v, Value.int .i64 x39]) ∧
          (Ahead w69 w70 ∧
           (Calls Tryd.prog 16 #[Value.agg #[Value.bool b37, s30.v, Value.int .i64 x37], Value.int .i64 t18, Value.agg #[Value.bool b39, s32.v, Value.int .i64 x39], Value.int .i64 0] w70 fun e22 w71 =>
            ∃ b40 : Bool, e22 = .returned (Value.bool b40) ∧
            (Ahead w70 w71 ∧
             (br (!b40)
              (R (.returned (Value.bool false)) w71)
              (ldB t15 w71 fun b41 =>
               ldS (t15.add 1) w71 fun s33 =>
               ldI .i64 (t15.add 2) w71 fun x40 =>
               ldB t7 w71 fun b42 =>
               ldS (t7.add 1) w71 fun s34 =>
               ldI .i64 (t7.add 2) w71 fun x41 =>
               ldB t9 w71 fun b43 =>
               ldS (t9.add 1) w71 fun s35 =>
               ldI .i64 (t9.add 2) w71 fun x42 =>
               Calls Tryd.prog 18 #[Value.agg #[Value.bool b42, s34.v, Value.int .i64 x41], Value.agg #[Value.bool b43, s35.v, Value.int .i64 x42]] w71 fun e23 w72 =>
               ∃ b44 : Bool, ∃ s36 : Slc, ∃ x43 : Int, e23 = .returned (Value.agg #[Value.bool b44, s36.v, Value.int .i64 x43]) ∧
               (Ahead w71 w72 ∧
                (Calls Tryd.prog 16 #[Value.agg #[Value.bool b41, s33.v, Value.int .i64 x40], Value.int .i64 t16, Value.agg #[Value.bool b44, s36.v, Value.int .i64 x43], Value.int .i64 0] w72 fun e24 w73 =>
                 ∃ b45 : Bool, e24 = .returned (Value.bool b45) ∧
                 (Ahead w72 w73 ∧
                  (br (!b45)
                   (R (.returned (Value.bool false)) w73)
                   (ldB t19 w73 fun b46 =>
                    ldS (t19.add 1) w73 fun s37 =>
                    ldI .i64 (t19.add 2) w73 fun x44 =>
                    ldB t7 w73 fun b47 =>
                    ldS (t7.add 1) w73 fun s38 =>
                    ldI .i64 (t7.add 2) w73 fun x45 =>
                    Calls Tryd.prog 19 #[Value.agg #[Value.bool b47, s38.v, Value.int .i64 x45]] w73 fun e25 w74 =>
                    ∃ b48 : Bool, ∃ s39 : Slc, ∃ x46 : Int, e25 = .returned (Value.agg #[Value.bool b48, s39.v, Value.int .i64 x46]) ∧
                    (Ahead w73 w74 ∧
                     (Calls Tryd.prog 16 #[Value.agg #[Value.bool b46, s37.v, Value.int .i64 x44], Value.int .i64 t20, Value.agg #[Value.bool b48, s39.v, Value.int .i64 x46], Value.int .i64 0] w74 fun e26 w75 =>
                      ∃ b49 : Bool, e26 = .returned (Value.bool b49) ∧
                      (Ahead w74 w75 ∧
                       (br (!b49)
                        (R (.returned (Value.bool false)) w75)
                        (ldB t23 w75.drew fun b50 =>
                         ldS (t23.add 1) w75.drew fun s40 =>
                         ldI .i64 (t23.add 2) w75.drew fun x47 =>
                         ldB t22 w75.drew fun b51 =>
                         ldS (t22.add 1) w75.drew fun s41 =>
                         ldI .i64 (t22.add 2) w75.drew fun x48 =>
                         Calls Tryd.prog 17 #[Value.agg #[Value.bool b51, s41.v, Value.int .i64 x48], Value.int .i64 t2, Value.int .i64 0] w75.drew fun e27 w76 =>
                         ∃ b52 : Bool, ∃ s42 : Slc, ∃ x49 : Int, e27 = .returned (Value.agg #[Value.bool b52, s42.v, Value.int .i64 x49]) ∧
                         (Ahead w75.drew w76 ∧
                          (Calls Tryd.prog 16 #[Value.agg #[Value.bool b50, s40.v, Value.int .i64 x47], Value.int .i64 t24, Value.agg #[Value.bool b52, s42.v, Value.int .i64 x49], Value.int .i64 0] w76 fun e28 w77 =>
                           ∃ b53 : Bool, e28 = .returned (Value.bool b53) ∧
                           (Ahead w76 w77 ∧
                            (br (!b53)
                             (R (.returned (Value.bool false)) w77)
                             (ldB t25 w77 fun b54 =>
                              ldS (t25.add 1) w77 fun s43 =>
                              ldI .i64 (t25.add 2) w77 fun x50 =>
                              ldB t22 w77 fun b55 =>
                              ldS (t22.add 1) w77 fun s44 =>
                              ldI .i64 (t22.add 2) w77 fun x51 =>
                              ldB t9 w77 fun b56 =>
                              ldS (t9.add 1) w77 fun s45 =>
                              ldI .i64 (t9.add 2) w77 fun x52 =>
                              Calls Tryd.prog 18 #[Value.agg #[Value.bool b55, s44.v, Value.int .i64 x51], Value.agg #[Value.bool b56, s45.v, Value.int .i64 x52]] w77 fun e29 w78 =>
                              ∃ b57 : Bool, ∃ s46 : Slc, ∃ x53 : Int, e29 = .returned (Value.agg #[Value.bool b57, s46.v, Value.int .i64 x53]) ∧
                              (Ahead w77 w78 ∧
                               (Calls Tryd.prog 16 #[Value.agg #[Value.bool b54, s43.v, Value.int .i64 x50], Value.int .i64 t26, Value.agg #[Value.bool b57, s46.v, Value.int .i64 x53], Value.int .i64 0] w78 fun e30 w79 =>
                                ∃ b58 : Bool, e30 = .returned (Value.bool b58) ∧
                                (Ahead w78 w79 ∧
                                 (br (!b58)
                                  (R (.returned (Value.bool false)) w79)
                                  (ldB ad15 w79 fun b59 =>
                                   ldS (ad15.add 1) w79 fun s47 =>
                                   ldI .i64 (ad15.add 2) w79 fun x54 =>
                                   ldB t22 w79 fun b60 =>
                                   ldS (t22.add 1) w79 fun s48 =>
                                   ldI .i64 (t22.add 2) w79 fun x55 =>
                                   Calls Tryd.prog 19 #[Value.agg #[Value.bool b60, s48.v, Value.int .i64 x55]] w79 fun e31 w80 =>
                                   ∃ b61 : Bool, ∃ s49 : Slc, ∃ x56 : Int, e31 = .returned (Value.agg #[Value.bool b61, s49.v, Value.int .i64 x56]) ∧
                                   (Ahead w79 w80 ∧
                                    (Calls Tryd.prog 16 #[Value.agg #[Value.bool b59, s47.v, Value.int .i64 x54], Value.int .i64 x33, Value.agg #[Value.bool b61, s49.v, Value.int .i64 x56], Value.int .i64 0] w80 fun e32 w81 =>
                                     ∃ b62 : Bool, e32 = .returned (Value.bool b62) ∧
                                     (Ahead w80 w81 ∧
                                      (br (!b62)
                                       (R (.returned (Value.bool false)) w81)
                                       (ldS (t13.add 1) w81 fun s50 =>
                                        ldS (t15.add 1) w81 fun s51 =>
                                        ldS (t17.add 1) w81 fun s52 =>
                                        ldS (t19.add 1) w81 fun s53 =>
                                        ldS (t23.add 1) w81 fun s54 =>
                                        ldS (t25.add 1) w81 fun s55 =>
                                        ldS (ad15.add 1) w81 fun s56 =>
                                        newC w81 #[s50.v, s51.v, s52.v, s53.v, s54.v, s55.v, s56.v] 22 fun ad16 w82 =>
                                        Calls Tryd.prog 20 #[(⟨some ad16, 7, 7⟩ : Slc).v] w82 fun e33 w83 =>
                                        ∃ b63 : Bool, e33 = .returned (Value.bool b63) ∧
                                        (br b63
                                         (Calls Tryd.prog 8 #[] w83 fun e34 w84 =>
                                          ∃ b64 : Bool, e34 = .returned (Value.bool b64) ∧
                                          (R (.returned (Value.bool b64)) w84))
                                         (R (.returned (Value.bool false)) w83))))))))))))))))))))))))))))))))))))))) :
    Calls Tryd.prog 3 #[Value.agg #[Value.bool a0_0, a0_1.v, Value.int .i64 a0_2], Value.agg #[Value.bool a1_0, a1_1.v, Value.int .i64 a1_2], Value.int .i64 a2] w R := by
  refine calls_of_vc (marks [2000008, 2000018] (surdlaw08_DyadicOwn_cut J0 m0 K10 K18 K20)) (by kernel_rfl) Tryd.func3 rfl ?_ ?_
  · refine kcast h ?_; kernel_rfl
  · exact (obl_seq rfl (obl_reg (obl_seq rfl (obl_reg (obl_seq rfl (obl_reg (obl_seq rfl (obl_seq rfl (obl_reg (obl_cond (obl_seq rfl (obl_reg (obl_ret (obl_skip (obl_seq rfl (obl_reg (obl_seq rfl (obl_reg (obl_seq rfl (obl_reg (obl_join _ rfl (obl_store _ rfl (by kernel_rfl) trivial) (fun a_ w_ hL_ => (by
    obtain ⟨hz_, hd_, hL_⟩ := atSz_out hL_
    obtain ⟨t2, h2_, hL_⟩ := atI_out hL_
    obtain ⟨t3, h3_, hL_⟩ := atA_out hL_
    obtain ⟨t4, h4_, hL_⟩ := atA_out hL_
    obtain ⟨t7, h7_, hL_⟩ := atA_out hL_
    obtain ⟨t9, h9_, hL_⟩ := atA_out hL_
    obtain ⟨t11, h11_, hL_⟩ := atS_out hL_
    obtain ⟨t12, h12_, hL_⟩ := atA_out hL_
    obtain ⟨t13, h13_, hL_⟩ := atA_out hL_
    obtain ⟨t14, h14_, hL_⟩ := atI_out hL_
    obtain ⟨t15, h15_, hL_⟩ := atA_out hL_
    obtain ⟨t16, h16_, hL_⟩ := atI_out hL_
    obtain ⟨g3000010, rfl⟩ : ∃ g, a_ = Fr 207 [(2, Value.int .i64 t2), (3, Value.pointer (some t3)), (4, Value.pointer (some t4)), (7, Value.pointer (some t7)), (9, Value.pointer (some t9)), (11, t11.v), (12, Value.pointer (some t12)), (13, Value.pointer (some t13)), (14, Value.int .i64 t14), (15, Value.pointer (some t15)), (16, Value.int .i64 t16)] g := ⟨_, fr_of hz_ hd_ [(2, Value.int .i64 t2), (3, Value.pointer (some t3)), (4, Value.pointer (some t4)), (7, Value.pointer (some t7)), (9, Value.pointer (some t9)), (11, t11.v), (12, Value.pointer (some t12)), (13, Value.pointer (some t13)), (14, Value.int .i64 t14), (15, Value.pointer (some t15)), (16, Value.int .i64 t16)] (sel_cons h2_ (sel_cons h3_ (sel_cons h4_ (sel_cons h7_ (sel_cons h9_ (sel_cons h11_ (sel_cons h12_ (sel_cons h13_ (sel_cons h14_ (sel_cons h15_ (sel_cons h16_ sel_nil)))))))))))⟩
    clear hz_ hd_ h2_ h3_ h4_ h7_ h9_ h11_ h12_ h13_ h14_ h15_ h16_
    have hJ3000010_ := hL_
    refine ⟨(marks [2000008, 2000018] (surdlaw08_DyadicOwn_cut J0 m0 K10 K18 K20)), kcast (h3000010 t2 t3 t4 t7 t9 t11 t12 t13 t14 t15 t16 w_ hJ3000010_) ?_, ?_⟩
    · kernel_rfl
    · exact (obl_seq rfl (obl_reg (obl_seq rfl (obl_reg (obl_seq rfl (obl_seq rfl (obl_reg (obl_loop _ rfl (fun a_ w_ hL_ => (by
      obtain ⟨hz_, hd_, hL_⟩ := atSz_out hL_
      obtain ⟨t2, h2_, hL_⟩ := atI_out hL_
      obtain ⟨t3, h3_, hL_⟩ := atA_out hL_
      obtain ⟨t4, h4_, hL_⟩ := atA_out hL_
      obtain ⟨t7, h7_, hL_⟩ := atA_out hL_
      obtain ⟨t9, h9_, hL_⟩ := atA_out hL_
      obtain ⟨t11, h11_, hL_⟩ := atS_out hL_
      obtain ⟨t12, h12_, hL_⟩ := atA_out hL_
      obtain ⟨t13, h13_, hL_⟩ := atA_out hL_
      obtain ⟨t14, h14_, hL_⟩ := atI_out hL_
      obtain ⟨t15, h15_, hL_⟩ := atA_out hL_
      obtain ⟨t16, h16_, hL_⟩ := atI_out hL_
      obtain ⟨t17, h17_, hL_⟩ := atA_out hL_
      obtain ⟨t18, h18_, hL_⟩ := atI_out hL_
      obtain ⟨t19, h19_, hL_⟩ := atA_out hL_
      obtain ⟨t20, h20_, hL_⟩ := atI_out hL_
      obtain ⟨t86, h86_, hL_⟩ := atI_out hL_
      obtain ⟨t87, h87_, hL_⟩ := atI_out hL_
      obtain ⟨g0, rfl⟩ : ∃ g, a_ = Fr 207 [(2, Value.int .i64 t2), (3, Value.pointer (some t3)), (4, Value.pointer (some t4)), (7, Value.pointer (some t7)), (9, Value.pointer (some t9)), (11, t11.v), (12, Value.pointer (some t12)), (13, Value.pointer (some t13)), (14, Value.int .i64 t14), (15, Value.pointer (some t15)), (16, Value.int .i64 t16), (17, Value.pointer (some t17)), (18, Value.int .i64 t18), (19, Value.pointer (some t19)), (20, Value.int .i64 t20), (86, Value.int .i64 t86), (87, Value.int .i64 t87)] g := ⟨_, fr_of hz_ hd_ [(2, Value.int .i64 t2), (3, Value.pointer (some t3)), (4, Value.pointer (some t4)), (7, Value.pointer (some t7)), (9, Value.pointer (some t9)), (11, t11.v), (12, Value.pointer (some t12)), (13, Value.pointer (some t13)), (14, Value.int .i64 t14), (15, Value.pointer (some t15)), (16, Value.int .i64 t16), (17, Value.pointer (some t17)), (18, Value.int .i64 t18), (19, Value.pointer (some t19)), (20, Value.int .i64 t20), (86, Value.int .i64 t86), (87, Value.int .i64 t87)] (sel_cons h2_ (sel_cons h3_ (sel_cons h4_ (sel_cons h7_ (sel_cons h9_ (sel_cons h11_ (sel_cons h12_ (sel_cons h13_ (sel_cons h14_ (sel_cons h15_ (sel_cons h16_ (sel_cons h17_ (sel_cons h18_ (sel_cons h19_ (sel_cons h20_ (sel_cons h86_ (sel_cons h87_ sel_nil)))))))))))))))))⟩
      clear hz_ hd_ h2_ h3_ h4_ h7_ h9_ h11_ h12_ h13_ h14_ h15_ h16_ h17_ h18_ h19_ h20_ h86_ h87_
      have hJ0_ := hL_
      refine ⟨(marks [2000008, 2000018] (fun _ => none)), kcast (h0 t2 t3 t4 t7 t9 t11 t12 t13 t14 t15 t16 t17 t18 t19 t20 t86 t87 w_ hJ0_) ?_, ?_⟩
      · kernel_rfl
      · exact (obl_seq rfl (obl_reg (obl_seq rfl (obl_cond (obl_skip (obl_exit (obl_seq rfl (obl_blk rfl (obl_seq rfl (obl_reg (obl_reg (obl_reg trivial)))))))))))))) (obl_join _ rfl (obl_held (by kernel_rfl) (by kernel_rfl) (by kernel_rfl) trivial) (fun a_ w_ hL_ => (by
      obtain ⟨hz_, hd_, hL_⟩ := atSz_out hL_
      obtain ⟨t2, h2_, hL_⟩ := atI_out hL_
      obtain ⟨t4, h4_, hL_⟩ := atA_out hL_
      obtain ⟨t7, h7_, hL_⟩ := atA_out hL_
      obtain ⟨t9, h9_, hL_⟩ := atA_out hL_
      obtain ⟨t12, h12_, hL_⟩ := atA_out hL_
      obtain ⟨t13, h13_, hL_⟩ := atA_out hL_
      obtain ⟨t14, h14_, hL_⟩ := atI_out hL_
      obtain ⟨t15, h15_, hL_⟩ := atA_out hL_
      obtain ⟨t16, h16_, hL_⟩ := atI_out hL_
      obtain ⟨t17, h17_, hL_⟩ := atA_out hL_
      obtain ⟨t18, h18_, hL_⟩ := atI_out hL_
      obtain ⟨t19, h19_, hL_⟩ := atA_out hL_
      obtain ⟨t20, h20_, hL_⟩ := atI_out hL_
      obtain ⟨t22, h22_, hL_⟩ := atA_out hL_
      obtain ⟨g3000018, rfl⟩ : ∃ g, a_ = Fr 207 [(2, Value.int .i64 t2), (4, Value.pointer (some t4)), (7, Value.pointer (some t7)), (9, Value.pointer (some t9)), (12, Value.pointer (some t12)), (13, Value.pointer (some t13)), (14, Value.int .i64 t14), (15, Value.pointer (some t15)), (16, Value.int .i64 t16), (17, Value.pointer (some t17)), (18, Value.int .i64 t18), (19, Value.pointer (some t19)), (20, Value.int .i64 t20), (22, Value.pointer (some t22))] g := ⟨_, fr_of hz_ hd_ [(2, Value.int .i64 t2), (4, Value.pointer (some t4)), (7, Value.pointer (some t7)), (9, Value.pointer (some t9)), (12, Value.pointer (some t12)), (13, Value.pointer (some t13)), (14, Value.int .i64 t14), (15, Value.pointer (some t15)), (16, Value.int .i64 t16), (17, Value.pointer (some t17)), (18, Value.int .i64 t18), (19, Value.pointer (some t19)), (20, Value.int .i64 t20), (22, Value.pointer (some t22))] (sel_cons h2_ (sel_cons h4_ (sel_cons h7_ (sel_cons h9_ (sel_cons h12_ (sel_cons h13_ (sel_cons h14_ (sel_cons h15_ (sel_cons h16_ (sel_cons h17_ (sel_cons h18_ (sel_cons h19_ (sel_cons h20_ (sel_cons h22_ sel_nil))))))))))))))⟩
      clear hz_ hd_ h2_ h4_ h7_ h9_ h12_ h13_ h14_ h15_ h16_ h17_ h18_ h19_ h20_ h22_
      have hJ3000018_ := hL_
      refine ⟨(marks [2000008, 2000018] (surdlaw08_DyadicOwn_cut J0 m0 K10 K18 K20)), kcast (h3000018 t2 t4 t7 t9 t12 t13 t14 t15 t16 t17 t18 t19 t20 t22 w_ hJ3000018_) ?_, ?_⟩
      · kernel_rfl
      · exact (obl_seq rfl (obl_reg (obl_join _ rfl (obl_store _ rfl (by kernel_rfl) trivial) (fun a_ w_ hL_ => (by
        obtain ⟨hz_, hd_, hL_⟩ := atSz_out hL_
        obtain ⟨t2, h2_, hL_⟩ := atI_out hL_
        obtain ⟨t7, h7_, hL_⟩ := atA_out hL_
        obtain ⟨t9, h9_, hL_⟩ := atA_out hL_
        obtain ⟨t12, h12_, hL_⟩ := atA_out hL_
        obtain ⟨t13, h13_, hL_⟩ := atA_out hL_
        obtain ⟨t14, h14_, hL_⟩ := atI_out hL_
        obtain ⟨t15, h15_, hL_⟩ := atA_out hL_
        obtain ⟨t16, h16_, hL_⟩ := atI_out hL_
        obtain ⟨t17, h17_, hL_⟩ := atA_out hL_
        obtain ⟨t18, h18_, hL_⟩ := atI_out hL_
        obtain ⟨t19, h19_, hL_⟩ := atA_out hL_
        obtain ⟨t20, h20_, hL_⟩ := atI_out hL_
        obtain ⟨t22, h22_, hL_⟩ := atA_out hL_
        obtain ⟨t23, h23_, hL_⟩ := atA_out hL_
        obtain ⟨t24, h24_, hL_⟩ := atI_out hL_
        obtain ⟨t25, h25_, hL_⟩ := atA_out hL_
        obtain ⟨t26, h26_, hL_⟩ := atI_out hL_
        obtain ⟨g3000020, rfl⟩ : ∃ g, a_ = Fr 207 [(2, Value.int .i64 t2), (7, Value.pointer (some t7)), (9, Value.pointer (some t9)), (12, Value.pointer (some t12)), (13, Value.pointer (some t13)), (14, Value.int .i64 t14), (15, Value.pointer (some t15)), (16, Value.int .i64 t16), (17, Value.pointer (some t17)), (18, Value.int .i64 t18), (19, Value.pointer (some t19)), (20, Value.int .i64 t20), (22, Value.pointer (some t22)), (23, Value.pointer (some t23)), (24, Value.int .i64 t24), (25, Value.pointer (some t25)), (26, Value.int .i64 t26)] g := ⟨_, fr_of hz_ hd_ [(2, Value.int .i64 t2), (7, Value.pointer (some t7)), (9, Value.pointer (some t9)), (12, Value.pointer (some t12)), (13, Value.pointer (some t13)), (14, Value.int .i64 t14), (15, Value.pointer (some t15)), (16, Value.int .i64 t16), (17, Value.pointer (some t17)), (18, Value.int .i64 t18), (19, Value.pointer (some t19)), (20, Value.int .i64 t20), (22, Value.pointer (some t22)), (23, Value.pointer (some t23)), (24, Value.int .i64 t24), (25, Value.pointer (some t25)), (26, Value.int .i64 t26)] (sel_cons h2_ (sel_cons h7_ (sel_cons h9_ (sel_cons h12_ (sel_cons h13_ (sel_cons h14_ (sel_cons h15_ (sel_cons h16_ (sel_cons h17_ (sel_cons h18_ (sel_cons h19_ (sel_cons h20_ (sel_cons h22_ (sel_cons h23_ (sel_cons h24_ (sel_cons h25_ (sel_cons h26_ sel_nil)))))))))))))))))⟩
        clear hz_ hd_ h2_ h7_ h9_ h12_ h13_ h14_ h15_ h16_ h17_ h18_ h19_ h20_ h22_ h23_ h24_ h25_ h26_
        have hJ3000020_ := hL_
        refine ⟨(marks [2000008, 2000018] (surdlaw08_DyadicOwn_cut J0 m0 K10 K18 K20)), kcast (h3000020 t2 t7 t9 t12 t13 t14 t15 t16 t17 t18 t19 t20 t22 t23 t24 t25 t26 w_ hJ3000020_) ?_, ?_⟩
        · kernel_rfl
        · exact (obl_seq rfl (obl_reg (obl_seq rfl (obl_seq rfl (obl_held (by kernel_rfl) (by kernel_rfl) (by kernel_rfl) (obl_cond (obl_seq rfl (obl_reg (obl_ret (obl_skip (obl_seq rfl (obl_seq rfl (obl_held (by kernel_rfl) (by kernel_rfl) (by kernel_rfl) (obl_cond (obl_seq rfl (obl_reg (obl_ret (obl_skip (obl_seq rfl (obl_reg (obl_ret trivial))))))))))))))))))))))))))))))))))))))))))))))))))))))))))))

set_option maxRecDepth 100000 in
/-- surd/dyadic.Abs: function 13. -/
theorem dyadic_Abs_vc (a0_a_0 : Bool) (a0_a_1 : Slc) (a0_a_2 : Int) (w : World) (R : Ending → World → Prop)
    
    (h : newC w #[Value.bool a0_a_0, a0_a_1.v, Value.int .i64 a0_a_2] 39 fun ad1 w1 =>
    newC w1 #[Value.bool false, (⟨none, 0, 0⟩ : Slc).v, Value.int .i64 0] 39 fun ad2 w2 =>
    ldB ad1 w2 fun b1 =>
    ldS (ad1.add 1) w2 fun s1 =>
    ldI .i64 (ad1.add 2) w2 fun x1 =>
    Calls Tryd.prog 36 #[Value.agg #[Value.bool b1, s1.v, Value.int .i64 x1]] w2 fun e1 w3 =>
    ∃ b2 : Bool, ∃ s2 : Slc, ∃ x2 : Int, ∃ x3 : Int, e1 = .returned (Value.tuple #[Value.agg #[Value.bool b2, s2.v, Value.int .i64 x2], Value.int .i64 x3]) ∧
    (newC w3 #[Value.bool false, (⟨none, 0, 0⟩ : Slc).v, Value.int .i64 0] 76 fun ad3 w4 =>
     stC ad3 (Value.bool b2) w4 fun w5 =>
     stC (ad3.add 1) s2.v w5 fun w6 =>
     stC (ad3.add 2) (Value.int .i64 x2) w6 fun w7 =>
     br (x3 != 0)
     (stC ad2 (Value.bool false) w7 fun w8 =>
      stC (ad2.add 1) ((⟨none, 0, 0⟩ : Slc).v) w8 fun w9 =>
      stC (ad2.add 2) (Value.int .i64 0) w9 fun w10 =>
      ldB ad2 w10 fun b3 =>
      ldS (ad2.add 1) w10 fun s3 =>
      ldI .i64 (ad2.add 2) w10 fun x4 =>
      R (.returned (Value.tuple #[Value.agg #[Value.bool b3, s3.v, Value.int .i64 x4], Value.int .i64 x3])) w10)
     (stC ad3 (Value.bool false) w7 fun w11 =>
      ldB ad3 w11 fun b4 =>
      ldS (ad3.add 1) w11 fun s4 =>
      ldI .i64 (ad3.add 2) w11 fun x5 =>
      Calls Tryd.prog 42 #[Value.agg #[Value.bool b4, s4.v], Value.int .i64 x5] w11 fun e2 w12 =>
      ∃ b5 : Bool, ∃ s5 : Slc, ∃ x6 : Int, ∃ x7 : Int, e2 = .returned (Value.tuple #[Value.agg #[Value.bool b5, s5.v, Value.int .i64 x6], Value.int .i64 x7]) ∧
      (stC ad2 (Value.bool b5) w12 fun w13 =>
       stC (ad2.add 1) s5.v w13 fun w14 =>
       stC (ad2.add 2) (Value.int .i64 x6) w14 fun w15 =>
       ldB ad2 w15 fun b6 =>
       ldS (ad2.add 1) w15 fun s6 =>
       ldI .i64 (ad2.add 2) w15 fun x8 =>
       R (.returned (Value.tuple #[Value.agg #[Value.bool b6, s6.v, Value.int .i64 x8], Value.int .i64 x7])) w15)))) :
    Calls Tryd.prog 13 #[Value.agg #[Value.bool a0_a_0, a0_a_1.v, Value.int .i64 a0_a_2]] w R := by
  refine calls_of_vc (fun _ => none) (by kernel_rfl) Tryd.func13 rfl ?_ ?_
  · refine kcast h ?_; kernel_rfl
  · exact (obl_seq rfl (obl_reg (obl_seq rfl (obl_reg (obl_seq rfl (obl_seq rfl (obl_reg (obl_cond (obl_seq rfl (obl_reg (obl_ret (obl_skip (obl_seq rfl (obl_reg (obl_seq rfl (obl_reg (obl_ret trivial)))))))))))))))))

set_option maxRecDepth 100000 in
/-- surd/surdref08.Mul: function 18. -/
theorem surdref08_Mul_vc (a0_a_0 : Bool) (a0_a_1 : Slc) (a0_a_2 : Int) (a1_b_0 : Bool) (a1_b_1 : Slc) (a1_b_2 : Int) (w : World) (R : Ending → World → Prop)
    
    (h : newC w #[Value.bool a0_a_0, a0_a_1.v, Value.int .i64 a0_a_2] 29 fun ad1 w1 =>
    newC w1 #[Value.bool a1_b_0, a1_b_1.v, Value.int .i64 a1_b_2] 29 fun ad2 w2 =>
    newC w2 #[Value.bool false, (⟨none, 0, 0⟩ : Slc).v, Value.int .i64 0] 29 fun ad3 w3 =>
    ldB ad1 w3.drew fun b1 =>
    ldS (ad1.add 1) w3.drew fun s1 =>
    ldB ad2 w3.drew fun b2 =>
    ldS (ad2.add 1) w3.drew fun s2 =>
    ldI .i64 (ad1.add 2) w3.drew fun x1 =>
    ldI .i64 (ad2.add 2) w3.drew fun x2 =>
    Calls Tryd.prog 55 #[Value.agg #[Value.bool b1, s1.v], Value.agg #[Value.bool b2, s2.v]] w3.drew fun e1 w4 =>
    ∃ b3 : Bool, ∃ s3 : Slc, e1 = .returned (Value.agg #[Value.bool b3, s3.v]) ∧
    (Ahead w3.drew w4 ∧
     (Calls Tryd.prog 14 #[Value.agg #[Value.bool b3, s3.v], Value.int .i64 (IntKind.i64.wrap (x1 + x2))] w4 fun e2 w5 =>
      ∃ b4 : Bool, ∃ s4 : Slc, ∃ x3 : Int, e2 = .returned (Value.agg #[Value.bool b4, s4.v, Value.int .i64 x3]) ∧
      (Ahead w4 w5 ∧
       (stC ad3 (Value.bool b4) w5 fun w6 =>
        stC (ad3.add 1) s4.v w6 fun w7 =>
        stC (ad3.add 2) (Value.int .i64 x3) w7 fun w8 =>
        ldB ad3 w8 fun b5 =>
        ldS (ad3.add 1) w8 fun s5 =>
        ldI .i64 (ad3.add 2) w8 fun x4 =>
        R (.returned (Value.agg #[Value.bool b5, s5.v, Value.int .i64 x4])) w8))))) :
    Calls Tryd.prog 18 #[Value.agg #[Value.bool a0_a_0, a0_a_1.v, Value.int .i64 a0_a_2], Value.agg #[Value.bool a1_b_0, a1_b_1.v, Value.int .i64 a1_b_2]] w R := by
  refine calls_of_vc (fun _ => none) (by kernel_rfl) Tryd.func18 rfl ?_ ?_
  · refine kcast h ?_; kernel_rfl
  · exact (obl_seq rfl (obl_reg (obl_seq rfl (obl_held (by kernel_rfl) (by kernel_rfl) (by kernel_rfl) (obl_ret trivial)))))

end Go.Proofs.YtahbekmnphkiiaaDoor
