/- What the law leans on, part 4. No condition. -/
import Derived.Test.YtahbekmnphkiiaaDoorZDyadicOwn3
namespace Go.Proofs.YtahbekmnphkiiaaDoor
open Go Go.RowKit Eng L2
set_option linter.unusedVariables false
set_option maxHeartbeats 2000000
set_option maxRecDepth 100000

/-- surd/dyadic.steps: function 65, its local variables as values. -/
theorem dyadic_steps_v2 (a0_0 : Bool) (a0_1 : Slc) (a0_2 : Int) (a1 : Int) (a2 : Int) (w : World) (R : Ending → World → Prop)
    (K3 : Int → Int → Bool → Bool → Slc → Int → Bool → Slc → World → Prop) (K8 : Int → Int → Slc → Bool → Slc → Int → Bool → Slc → World → Prop) (K16 : Slc → Bool → Bool → Slc → Int → Bool → Slc → World → Prop)
    (h : ∀ w1, Ext w w1 → Ahead w w1 →
    (Calls Tryd.prog 64 #[Value.agg #[Value.bool a0_0, a0_1.v]] w1 fun e1 w2 =>
     ∃ x1 : Int, e1 = .returned (Value.int .i64 x1) ∧ Ahead w1 w2 ∧
     (br (x1 == 0)
      (K3 a1 a2 true a0_0 a0_1 a0_2 false (⟨none, 0, 0⟩ : Slc) w2)
      (K3 a1 a2 (decide (a0_2 ≥ a1)) a0_0 a0_1 a0_2 false (⟨none, 0, 0⟩ : Slc) w2))))
    (h3000003 : ∀ (t1 : Int) (t2 : Int) (t19 : Bool) (t3_0 : Bool) (t3_1 : Slc) (t3_2 : Int) (t6_0 : Bool) (t6_1 : Slc) (w_ : World), Ahead w w_ → K3 t1 t2 t19 t3_0 t3_1 t3_2 t6_0 t6_1 w_ → 
    br t19
    (∀ w3, Ext w_ w3 → Ahead w w3 →
     (Calls Tryd.prog 80 #[t3_1.v, Value.int .i64 (maxI (IntKind.i64.wrap (t3_2 - t1)) 0)] w3 fun e2 w4 =>
      ∃ s1 : Slc, e2 = .returned s1.v ∧ Ahead w3 w4 ∧
      (∀ w5, Ext w4 w5 → Ahead w w5 →
       (R (.returned (Value.agg #[Value.bool t3_0, s1.v])) w5))))
    (Calls Tryd.prog 68 #[Value.agg #[Value.bool t3_0, t3_1.v]] w_ fun e3 w6 =>
     ∃ x2 : Int, e3 = .returned (Value.int .i64 x2) ∧ Ahead w_ w6 ∧
     (br (decide ((IntKind.i64.wrap (t1 - t3_2)) < x2))
      (Calls Tryd.prog 88 #[t3_1.v, Value.int .i64 (IntKind.i64.wrap (t1 - t3_2))] w6 fun e4 w7 =>
       ∃ s2 : Slc, e4 = .returned s2.v ∧ Ahead w6 w7 ∧
       (K8 t2 (IntKind.i64.wrap (t1 - t3_2)) s2 t3_0 t3_1 t3_2 t6_0 t6_1 w7))
      (K8 t2 (IntKind.i64.wrap (t1 - t3_2)) (⟨none, 0, 0⟩ : Slc) t3_0 t3_1 t3_2 t6_0 t6_1 w6))))
    (h3000008 : ∀ (t2 : Int) (t7 : Int) (t8 : Slc) (t3_0 : Bool) (t3_1 : Slc) (t3_2 : Int) (t6_0 : Bool) (t6_1 : Slc) (w_ : World), Ahead w w_ → K8 t2 t7 t8 t3_0 t3_1 t3_2 t6_0 t6_1 w_ → 
    br (t2 == 2)
    (Calls Tryd.prog 89 #[t3_1.v, Value.int .i64 (IntKind.i64.wrap (t7 - 1))] w_ fun e5 w8 =>
     ∃ x3 : Int, e5 = .returned (Value.int .i64 x3) ∧ Ahead w_ w8 ∧
     (br (x3 == 1)
      (Calls Tryd.prog 87 #[t3_1.v] w8 fun e6 w9 =>
       ∃ x4 : Int, e6 = .returned (Value.int .i64 x4) ∧ Ahead w8 w9 ∧
       (br (decide (x4 < (IntKind.i64.wrap (t7 - 1))))
        (K16 t8 true t3_0 t3_1 t3_2 t6_0 t6_1 w9)
        (Calls Tryd.prog 89 #[t8.v, Value.int .i64 0] w9 fun e9 w14 =>
         ∃ x5 : Int, e9 = .returned (Value.int .i64 x5) ∧ Ahead w9 w14 ∧
         (br (!(x5 == 1))
          (K16 t8 false t3_0 t3_1 t3_2 t6_0 t6_1 w14)
          (K16 t8 true t3_0 t3_1 t3_2 t6_0 t6_1 w14)))))
      (K16 t8 false t3_0 t3_1 t3_2 t6_0 t6_1 w8)))
    (br (t2 == 0)
     (K16 t8 t3_0 t3_0 t3_1 t3_2 t6_0 t6_1 w_)
     (K16 t8 (!t3_0) t3_0 t3_1 t3_2 t6_0 t6_1 w_)))
    (h3000016 : ∀ (t8 : Slc) (t9 : Bool) (t3_0 : Bool) (t3_1 : Slc) (t3_2 : Int) (t6_0 : Bool) (t6_1 : Slc) (w_ : World), Ahead w w_ → K16 t8 t9 t3_0 t3_1 t3_2 t6_0 t6_1 w_ → 
    br t9
    (Calls Tryd.prog 91 #[Value.int .u64 1] w_ fun e7 w10 =>
     ∃ s3 : Slc, e7 = .returned s3.v ∧ Ahead w_ w10 ∧
     (Calls Tryd.prog 90 #[t8.v, s3.v] w10 fun e8 w11 =>
      ∃ s4 : Slc, e8 = .returned s4.v ∧ Ahead w10 w11 ∧
      (∀ w12, Ext w11 w12 → Ahead w w12 →
       (R (.returned (Value.agg #[Value.bool t3_0, s4.v])) w12))))
    (∀ w13, Ext w_ w13 → Ahead w w13 →
     (R (.returned (Value.agg #[Value.bool t3_0, t8.v])) w13))) :
    Calls Tryd.prog 65 #[Value.agg #[Value.bool a0_0, a0_1.v, Value.int .i64 a0_2], Value.int .i64 a1, Value.int .i64 a2] w (fun e_ w_ => Ahead w w_ ∧ R e_ w_) := by
  refine dyadic_steps_vc a0_0 a0_1 a0_2 a1 a2 w _ (fun t1 t2 t3 t6 t19 w_ => ∃ c3_ : Nat, ∃ c6_ : Nat, ∃ t3_0 : Bool, ∃ t3_1 : Slc, ∃ t3_2 : Int, ∃ t6_0 : Bool, ∃ t6_1 : Slc, t3 = ⟨c3_, 0, none⟩ ∧ Blt w_ c3_ 76 #[Value.bool t3_0, t3_1.v, Value.int .i64 t3_2] ∧ w.heap.size ≤ c3_ ∧ t6 = ⟨c6_, 0, none⟩ ∧ Blt w_ c6_ 37 #[Value.bool t6_0, t6_1.v] ∧ w.heap.size ≤ c6_ ∧ c3_ ≠ c6_ ∧ Ahead w w_ ∧ K3 t1 t2 t19 t3_0 t3_1 t3_2 t6_0 t6_1 w_) (fun t2 t3 t6 t7 t8 w_ => ∃ c3_ : Nat, ∃ c6_ : Nat, ∃ t3_0 : Bool, ∃ t3_1 : Slc, ∃ t3_2 : Int, ∃ t6_0 : Bool, ∃ t6_1 : Slc, t3 = ⟨c3_, 0, none⟩ ∧ Blt w_ c3_ 76 #[Value.bool t3_0, t3_1.v, Value.int .i64 t3_2] ∧ w.heap.size ≤ c3_ ∧ t6 = ⟨c6_, 0, none⟩ ∧ Blt w_ c6_ 37 #[Value.bool t6_0, t6_1.v] ∧ w.heap.size ≤ c6_ ∧ c3_ ≠ c6_ ∧ Ahead w w_ ∧ K8 t2 t7 t8 t3_0 t3_1 t3_2 t6_0 t6_1 w_) (fun t3 t6 t8 t9 w_ => ∃ c3_ : Nat, ∃ c6_ : Nat, ∃ t3_0 : Bool, ∃ t3_1 : Slc, ∃ t3_2 : Int, ∃ t6_0 : Bool, ∃ t6_1 : Slc, t3 = ⟨c3_, 0, none⟩ ∧ Blt w_ c3_ 76 #[Value.bool t3_0, t3_1.v, Value.int .i64 t3_2] ∧ w.heap.size ≤ c3_ ∧ t6 = ⟨c6_, 0, none⟩ ∧ Blt w_ c6_ 37 #[Value.bool t6_0, t6_1.v] ∧ w.heap.size ≤ c6_ ∧ c3_ ≠ c6_ ∧ Ahead w w_ ∧ K16 t8 t9 t3_0 t3_1 t3_2 t6_0 t6_1 w_) ?_ ?_ ?_ ?_
  · have A : Ahead w w := Ahead.refl w
    have X : Ext w w := Ext.refl w
    refine newC_t fun bk1 u1 hb1 ha_u1 _ B1 => ?_
    have g1 := le_eq A.size hb1
    obtain ⟨A, X⟩ := axa2 ha_u1 A X
    refine newC_t fun bk2 u2 hb2 ha_u2 _ B2 => ?_
    have g2 := le_eq A.size hb2
    have l1_2 := lt1 hb2 B1
    replace B1 := B1.ahead ha_u2
    obtain ⟨A, X⟩ := axa2 ha_u2 A X
    refine ldB_t 0 B1 rfl ?_
    refine ldS_t 1 B1 rfl ?_
    replace h := h _ X A
    refine Calls.mono h ?_
    clear h
    rintro e1 w2 ⟨x1, he_, ha_w2, h⟩
    refine ⟨x1, he_, ?_⟩
    clear he_
    obtain ⟨B1, B2⟩ := ah2 ha_w2 B1 B2
    obtain ⟨A, X⟩ := axa2 ha_w2 A X
    replace X : Ext w2 w2 := Ext.refl _
    refine br_map h (fun h_ => ?_) (fun h_ => ?_)
    ·clear h
     have h := h_
     clear h_
     exact ⟨bk1, bk2, a0_0, a0_1, a0_2, false, (⟨none, 0, 0⟩ : Slc), rfl, B1, g1, rfl, B2, g2, (by omega), A, h⟩
    ·clear h
     have h := h_
     clear h_
     refine ldI_t 2 B1 rfl ?_
     exact ⟨bk1, bk2, a0_0, a0_1, a0_2, false, (⟨none, 0, 0⟩ : Slc), rfl, B1, g1, rfl, B2, g2, (by omega), A, h⟩
  · clear h
    rintro t1 t2 t3 t6 t19 w_ ⟨bk1, bk2, t3_0, t3_1, t3_2, t6_0, t6_1, rfl, B1, g1, rfl, B2, g2, n1_2, A, hJ3000003⟩
    have h := h3000003  t1 t2 t19 t3_0 t3_1 t3_2 t6_0 t6_1 w_ A hJ3000003
    have X : Ext w_ w_ := Ext.refl _
    refine br_map h (fun h_ => ?_) (fun h_ => ?_)
    ·clear h
     have h := h_
     clear h_
     have hd_ := Sp.Ahead.drew w_
     obtain ⟨B1, B2⟩ := ah2 hd_ B1 B2
     obtain ⟨A, X⟩ := axa2 hd_ A X
     clear hd_
     refine ldB_t 0 B1 rfl ?_
     refine ldS_t 1 B1 rfl ?_
     refine ldI_t 2 B1 rfl ?_
     replace h := h _ X A
     refine Calls.mono h ?_
     clear h
     rintro e2 w4 ⟨s1, he_, ha_w4, h⟩
     refine ⟨s1, he_, ?_⟩
     clear he_
     obtain ⟨B1, B2⟩ := ah2 ha_w4 B1 B2
     obtain ⟨A, X⟩ := axa2 ha_w4 A X
     replace X : Ext w4 w4 := Ext.refl _
     refine ⟨ha_w4, ?_⟩
     refine st2_t B2 rfl rfl rfl fun u3 k_u3 B2 => ?_
     replace B1 := up1 k_u3 B1
     obtain ⟨A, X⟩ := axu2 k_u3 g2 A X
     refine ldB_t 0 B2 rfl ?_
     refine ldS_t 1 B2 rfl ?_
     replace h := h _ X A
     exact ⟨A, h⟩
    ·clear h
     have h := h_
     clear h_
     refine ldI_t 2 B1 rfl ?_
     refine ldB_t 0 B1 rfl ?_
     refine ldS_t 1 B1 rfl ?_
     refine Calls.mono h ?_
     clear h
     rintro e3 w6 ⟨x2, he_, ha_w6, h⟩
     refine ⟨x2, he_, ?_⟩
     clear he_
     obtain ⟨B1, B2⟩ := ah2 ha_w6 B1 B2
     obtain ⟨A, X⟩ := axa2 ha_w6 A X
     replace X : Ext w6 w6 := Ext.refl _
     refine br_map h (fun h_ => ?_) (fun h_ => ?_)
     ·clear h
      have h := h_
      clear h_
      refine ldS_t 1 B1 rfl ?_
      refine Calls.mono h ?_
      clear h
      rintro e4 w7 ⟨s2, he_, ha_w7, h⟩
      refine ⟨s2, he_, ?_⟩
      clear he_
      obtain ⟨B1, B2⟩ := ah2 ha_w7 B1 B2
      obtain ⟨A, X⟩ := axa2 ha_w7 A X
      replace X : Ext w7 w7 := Ext.refl _
      exact ⟨bk1, bk2, t3_0, t3_1, t3_2, t6_0, t6_1, rfl, B1, g1, rfl, B2, g2, (by omega), A, h⟩
     ·clear h
      have h := h_
      clear h_
      exact ⟨bk1, bk2, t3_0, t3_1, t3_2, t6_0, t6_1, rfl, B1, g1, rfl, B2, g2, (by omega), A, h⟩
  · clear h
    rintro t2 t3 t6 t7 t8 w_ ⟨bk1, bk2, t3_0, t3_1, t3_2, t6_0, t6_1, rfl, B1, g1, rfl, B2, g2, n1_2, A, hJ3000008⟩
    have h := h3000008  t2 t7 t8 t3_0 t3_1 t3_2 t6_0 t6_1 w_ A hJ3000008
    have X : Ext w_ w_ := Ext.refl _
    refine br_map h (fun h_ => ?_) (fun h_ => ?_)
    ·clear h
     have h := h_
     clear h_
     refine ldS_t 1 B1 rfl ?_
     refine Calls.mono h ?_
     clear h
     rintro e5 w8 ⟨x3, he_, ha_w8, h⟩
     refine ⟨x3, he_, ?_⟩
     clear he_
     obtain ⟨B1, B2⟩ := ah2 ha_w8 B1 B2
     obtain ⟨A, X⟩ := axa2 ha_w8 A X
     replace X : Ext w8 w8 := Ext.refl _
     refine br_map h (fun h_ => ?_) (fun h_ => ?_)
     ·clear h
      have h := h_
      clear h_
      refine ldS_t 1 B1 rfl ?_
      refine Calls.mono h ?_
      clear h
      rintro e6 w9 ⟨x4, he_, ha_w9, h⟩
      refine ⟨x4, he_, ?_⟩
      clear he_
      obtain ⟨B1, B2⟩ := ah2 ha_w9 B1 B2
      obtain ⟨A, X⟩ := axa2 ha_w9 A X
      replace X : Ext w9 w9 := Ext.refl _
      refine br_map h (fun h_ => ?_) (fun h_ => ?_)
      ·clear h
       have h := h_
       clear h_
       exact ⟨bk1, bk2, t3_0, t3_1, t3_2, t6_0, t6_1, rfl, B1, g1, rfl, B2, g2, (by omega), A, h⟩
      ·clear h
       have h := h_
       clear h_
       refine Calls.mono h ?_
       clear h
       rintro e9 w14 ⟨x5, he_, ha_w14, h⟩
       refine ⟨x5, he_, ?_⟩
       clear he_
       obtain ⟨B1, B2⟩ := ah2 ha_w14 B1 B2
       obtain ⟨A, X⟩ := axa2 ha_w14 A X
       replace X : Ext w14 w14 := Ext.refl _
       refine br_map h (fun h_ => ?_) (fun h_ => ?_)
       ·clear h
        have h := h_
        clear h_
        exact ⟨bk1, bk2, t3_0, t3_1, t3_2, t6_0, t6_1, rfl, B1, g1, rfl, B2, g2, (by omega), A, h⟩
       ·clear h
        have h := h_
        clear h_
        exact ⟨bk1, bk2, t3_0, t3_1, t3_2, t6_0, t6_1, rfl, B1, g1, rfl, B2, g2, (by omega), A, h⟩
     ·clear h
      have h := h_
      clear h_
      exact ⟨bk1, bk2, t3_0, t3_1, t3_2, t6_0, t6_1, rfl, B1, g1, rfl, B2, g2, (by omega), A, h⟩
    ·clear h
     have h := h_
     clear h_
     refine br_map h (fun h_ => ?_) (fun h_ => ?_)
     ·clear h
      have h := h_
      clear h_
      refine ldB_t 0 B1 rfl ?_
      exact ⟨bk1, bk2, t3_0, t3_1, t3_2, t6_0, t6_1, rfl, B1, g1, rfl, B2, g2, (by omega), A, h⟩
     ·clear h
      have h := h_
      clear h_
      refine ldB_t 0 B1 rfl ?_
      exact ⟨bk1, bk2, t3_0, t3_1, t3_2, t6_0, t6_1, rfl, B1, g1, rfl, B2, g2, (by omega), A, h⟩
  · clear h
    rintro t3 t6 t8 t9 w_ ⟨bk1, bk2, t3_0, t3_1, t3_2, t6_0, t6_1, rfl, B1, g1, rfl, B2, g2, n1_2, A, hJ3000016⟩
    have h := h3000016  t8 t9 t3_0 t3_1 t3_2 t6_0 t6_1 w_ A hJ3000016
    have X : Ext w_ w_ := Ext.refl _
    refine br_map h (fun h_ => ?_) (fun h_ => ?_)
    ·clear h
     have h := h_
     clear h_
     refine Calls.mono h ?_
     clear h
     rintro e7 w10 ⟨s3, he_, ha_w10, h⟩
     refine ⟨s3, he_, ?_⟩
     clear he_
     obtain ⟨B1, B2⟩ := ah2 ha_w10 B1 B2
     obtain ⟨A, X⟩ := axa2 ha_w10 A X
     replace X : Ext w10 w10 := Ext.refl _
     refine Calls.mono h ?_
     clear h
     rintro e8 w11 ⟨s4, he_, ha_w11, h⟩
     refine ⟨s4, he_, ?_⟩
     clear he_
     obtain ⟨B1, B2⟩ := ah2 ha_w11 B1 B2
     obtain ⟨A, X⟩ := axa2 ha_w11 A X
     replace X : Ext w11 w11 := Ext.refl _
     refine ldB_t 0 B1 rfl ?_
     refine st2_t B2 rfl rfl rfl fun u4 k_u4 B2 => ?_
     replace B1 := up1 k_u4 B1
     obtain ⟨A, X⟩ := axu2 k_u4 g2 A X
     refine ldB_t 0 B2 rfl ?_
     refine ldS_t 1 B2 rfl ?_
     replace h := h _ X A
     exact ⟨A, h⟩
    ·clear h
     have h := h_
     clear h_
     refine ldB_t 0 B1 rfl ?_
     refine st2_t B2 rfl rfl rfl fun u5 k_u5 B2 => ?_
     replace B1 := up1 k_u5 B1
     obtain ⟨A, X⟩ := axu2 k_u5 g2 A X
     refine ldB_t 0 B2 rfl ?_
     refine ldS_t 1 B2 rfl ?_
     replace h := h _ X A
     exact ⟨A, h⟩

/-- surd/dyadic.rounded: function 39, its local variables as values. -/
theorem dyadic_rounded_v2 (a0_x_0 : Bool) (a0_x_1 : Slc) (a0_x_2 : Int) (a1_pos : Int) (a2_m : Int) (w : World) (R : Ending → World → Prop)
    
    (h : ∀ w1, Ext w w1 → Ahead w w1 →
    (Calls Tryd.prog 64 #[Value.agg #[Value.bool a0_x_0, a0_x_1.v]] w1 fun e1 w2 =>
     ∃ x1 : Int, e1 = .returned (Value.int .i64 x1) ∧ Ahead w1 w2 ∧
     (br (x1 == 0)
      (Calls Tryd.prog 42 #[Value.agg #[Value.bool a0_x_0, a0_x_1.v], Value.int .i64 a0_x_2] w2 fun e2 w3 =>
       ∃ b1 : Bool, ∃ s1 : Slc, ∃ x2 : Int, ∃ x3 : Int, e2 = .returned (Value.tuple #[Value.agg #[Value.bool b1, s1.v, Value.int .i64 x2], Value.int .i64 x3]) ∧ Ahead w2 w3 ∧
       (∀ w4, Ext w3 w4 → Ahead w w4 →
        (R (.returned (Value.tuple #[Value.agg #[Value.bool b1, s1.v, Value.int .i64 x2], Value.int .i64 x3])) w4)))
      (br (decide (a0_x_2 ≥ a1_pos))
       (Calls Tryd.prog 42 #[Value.agg #[Value.bool a0_x_0, a0_x_1.v], Value.int .i64 a0_x_2] w2 fun e3 w5 =>
        ∃ b2 : Bool, ∃ s2 : Slc, ∃ x4 : Int, ∃ x5 : Int, e3 = .returned (Value.tuple #[Value.agg #[Value.bool b2, s2.v, Value.int .i64 x4], Value.int .i64 x5]) ∧ Ahead w2 w5 ∧
        (∀ w6, Ext w5 w6 → Ahead w w6 →
         (R (.returned (Value.tuple #[Value.agg #[Value.bool b2, s2.v, Value.int .i64 x4], Value.int .i64 x5])) w6)))
       (Calls Tryd.prog 65 #[Value.agg #[Value.bool a0_x_0, a0_x_1.v, Value.int .i64 a0_x_2], Value.int .i64 a1_pos, Value.int .i64 a2_m] w2 fun e4 w7 =>
        ∃ b3 : Bool, ∃ s3 : Slc, e4 = .returned (Value.agg #[Value.bool b3, s3.v]) ∧ Ahead w2 w7 ∧
        (Calls Tryd.prog 42 #[Value.agg #[Value.bool b3, s3.v], Value.int .i64 a1_pos] w7 fun e5 w8 =>
         ∃ b4 : Bool, ∃ s4 : Slc, ∃ x6 : Int, ∃ x7 : Int, e5 = .returned (Value.tuple #[Value.agg #[Value.bool b4, s4.v, Value.int .i64 x6], Value.int .i64 x7]) ∧ Ahead w7 w8 ∧
         (∀ w9, Ext w8 w9 → Ahead w w9 →
          (R (.returned (Value.tuple #[Value.agg #[Value.bool b4, s4.v, Value.int .i64 x6], Value.int .i64 x7])) w9))))))))
     :
    Calls Tryd.prog 39 #[Value.agg #[Value.bool a0_x_0, a0_x_1.v, Value.int .i64 a0_x_2], Value.int .i64 a1_pos, Value.int .i64 a2_m] w (fun e_ w_ => Ahead w w_ ∧ R e_ w_) := by
  refine dyadic_rounded_vc a0_x_0 a0_x_1 a0_x_2 a1_pos a2_m w _  ?_
  · have A : Ahead w w := Ahead.refl w
    have X : Ext w w := Ext.refl w
    refine newC_t fun bk1 u1 hb1 ha_u1 _ B1 => ?_
    have g1 := le_eq A.size hb1
    obtain ⟨A, X⟩ := axa2 ha_u1 A X
    refine newC_t fun bk2 u2 hb2 ha_u2 _ B2 => ?_
    have g2 := le_eq A.size hb2
    have l1_2 := lt1 hb2 B1
    replace B1 := B1.ahead ha_u2
    obtain ⟨A, X⟩ := axa2 ha_u2 A X
    refine ldB_t 0 B1 rfl ?_
    refine ldS_t 1 B1 rfl ?_
    replace h := h _ X A
    refine Calls.mono h ?_
    clear h
    rintro e1 w2 ⟨x1, he_, ha_w2, h⟩
    refine ⟨x1, he_, ?_⟩
    clear he_
    obtain ⟨B1, B2⟩ := ah2 ha_w2 B1 B2
    obtain ⟨A, X⟩ := axa2 ha_w2 A X
    replace X : Ext w2 w2 := Ext.refl _
    refine br_map h (fun h_ => ?_) (fun h_ => ?_)
    ·clear h
     have h := h_
     clear h_
     refine ldB_t 0 B1 rfl ?_
     refine ldS_t 1 B1 rfl ?_
     refine ldI_t 2 B1 rfl ?_
     refine Calls.mono h ?_
     clear h
     rintro e2 w3 ⟨b1, s1, x2, x3, he_, ha_w3, h⟩
     refine ⟨b1, s1, x2, x3, he_, ?_⟩
     clear he_
     obtain ⟨B1, B2⟩ := ah2 ha_w3 B1 B2
     obtain ⟨A, X⟩ := axa2 ha_w3 A X
     replace X : Ext w3 w3 := Ext.refl _
     refine st3_t B2 rfl rfl rfl rfl fun u3 k_u3 B2 => ?_
     replace B1 := up1 k_u3 B1
     obtain ⟨A, X⟩ := axu2 k_u3 g2 A X
     refine ldB_t 0 B2 rfl ?_
     refine ldS_t 1 B2 rfl ?_
     refine ldI_t 2 B2 rfl ?_
     replace h := h _ X A
     exact ⟨A, h⟩
    ·clear h
     have h := h_
     clear h_
     refine ldI_t 2 B1 rfl ?_
     refine br_map h (fun h_ => ?_) (fun h_ => ?_)
     ·clear h
      have h := h_
      clear h_
      refine ldB_t 0 B1 rfl ?_
      refine ldS_t 1 B1 rfl ?_
      refine ldI_t 2 B1 rfl ?_
      refine Calls.mono h ?_
      clear h
      rintro e3 w5 ⟨b2, s2, x4, x5, he_, ha_w5, h⟩
      refine ⟨b2, s2, x4, x5, he_, ?_⟩
      clear he_
      obtain ⟨B1, B2⟩ := ah2 ha_w5 B1 B2
      obtain ⟨A, X⟩ := axa2 ha_w5 A X
      replace X : Ext w5 w5 := Ext.refl _
      refine st3_t B2 rfl rfl rfl rfl fun u4 k_u4 B2 => ?_
      replace B1 := up1 k_u4 B1
      obtain ⟨A, X⟩ := axu2 k_u4 g2 A X
      refine ldB_t 0 B2 rfl ?_
      refine ldS_t 1 B2 rfl ?_
      refine ldI_t 2 B2 rfl ?_
      replace h := h _ X A
      exact ⟨A, h⟩
     ·clear h
      have h := h_
      clear h_
      refine ldB_t 0 B1 rfl ?_
      refine ldS_t 1 B1 rfl ?_
      refine ldI_t 2 B1 rfl ?_
      refine Calls.mono h ?_
      clear h
      rintro e4 w7 ⟨b3, s3, he_, ha_w7, h⟩
      refine ⟨b3, s3, he_, ?_⟩
      clear he_
      obtain ⟨B1, B2⟩ := ah2 ha_w7 B1 B2
      obtain ⟨A, X⟩ := axa2 ha_w7 A X
      replace X : Ext w7 w7 := Ext.refl _
      refine Calls.mono h ?_
      clear h
      rintro e5 w8 ⟨b4, s4, x6, x7, he_, ha_w8, h⟩
      refine ⟨b4, s4, x6, x7, he_, ?_⟩
      clear he_
      obtain ⟨B1, B2⟩ := ah2 ha_w8 B1 B2
      obtain ⟨A, X⟩ := axa2 ha_w8 A X
      replace X : Ext w8 w8 := Ext.refl _
      refine st3_t B2 rfl rfl rfl rfl fun u5 k_u5 B2 => ?_
      replace B1 := up1 k_u5 B1
      obtain ⟨A, X⟩ := axu2 k_u5 g2 A X
      refine ldB_t 0 B2 rfl ?_
      refine ldS_t 1 B2 rfl ?_
      refine ldI_t 2 B2 rfl ?_
      replace h := h _ X A
      exact ⟨A, h⟩

/-- surd/dyadic.Round: function 10, its local variables as values. -/
theorem dyadic_Round_v2 (a0_a_0 : Bool) (a0_a_1 : Slc) (a0_a_2 : Int) (a1_pos : Int) (a2_m : Int) (w : World) (R : Ending → World → Prop)
    
    (h : ∀ w1, Ext w w1 → Ahead w w1 →
    (Calls Tryd.prog 36 #[Value.agg #[Value.bool a0_a_0, a0_a_1.v, Value.int .i64 a0_a_2]] w1 fun e1 w2 =>
     ∃ b1 : Bool, ∃ s1 : Slc, ∃ x1 : Int, ∃ x2 : Int, e1 = .returned (Value.tuple #[Value.agg #[Value.bool b1, s1.v, Value.int .i64 x1], Value.int .i64 x2]) ∧ Ahead w1 w2 ∧
     (br (x2 != 0)
      (∀ w3, Ext w2 w3 → Ahead w w3 →
       (R (.returned (Value.tuple #[Value.agg #[Value.bool (false), ((⟨none, 0, 0⟩ : Slc)).v, Value.int .i64 (0 : Int)], Value.int .i64 x2])) w3))
      (∀ w4, Ext w2 w4 → Ahead w w4 →
       (Calls Tryd.prog 37 #[Value.int .i64 a1_pos] w4 fun e2 w5 =>
        ∃ b2 : Bool, e2 = .returned (Value.bool b2) ∧ Ahead w4 w5 ∧
        (br (!b2)
         (∀ w6, Ext w5 w6 → Ahead w w6 →
          (R (.returned (Value.tuple #[Value.agg #[Value.bool (false), ((⟨none, 0, 0⟩ : Slc)).v, Value.int .i64 (0 : Int)], Value.int .i64 1])) w6))
         (Calls Tryd.prog 38 #[Value.int .i64 a2_m] w5 fun e3 w7 =>
          ∃ b3 : Bool, e3 = .returned (Value.bool b3) ∧ Ahead w5 w7 ∧
          (br (!b3)
           (∀ w8, Ext w7 w8 → Ahead w w8 →
            (R (.returned (Value.tuple #[Value.agg #[Value.bool (false), ((⟨none, 0, 0⟩ : Slc)).v, Value.int .i64 (0 : Int)], Value.int .i64 81])) w8))
           (Calls Tryd.prog 39 #[Value.agg #[Value.bool b1, s1.v, Value.int .i64 x1], Value.int .i64 a1_pos, Value.int .i64 a2_m] w7 fun e4 w9 =>
            ∃ b4 : Bool, ∃ s2 : Slc, ∃ x3 : Int, ∃ x4 : Int, e4 = .returned (Value.tuple #[Value.agg #[Value.bool b4, s2.v, Value.int .i64 x3], Value.int .i64 x4]) ∧ Ahead w7 w9 ∧
            (∀ w10, Ext w9 w10 → Ahead w w10 →
             (R (.returned (Value.tuple #[Value.agg #[Value.bool b4, s2.v, Value.int .i64 x3], Value.int .i64 x4])) w10)))))))))))
     :
    Calls Tryd.prog 10 #[Value.agg #[Value.bool a0_a_0, a0_a_1.v, Value.int .i64 a0_a_2], Value.int .i64 a1_pos, Value.int .i64 a2_m] w (fun e_ w_ => Ahead w w_ ∧ R e_ w_) := by
  refine dyadic_Round_vc a0_a_0 a0_a_1 a0_a_2 a1_pos a2_m w _  ?_
  · have A : Ahead w w := Ahead.refl w
    have X : Ext w w := Ext.refl w
    refine newC_t fun bk1 u1 hb1 ha_u1 _ B1 => ?_
    have g1 := le_eq A.size hb1
    obtain ⟨A, X⟩ := axa2 ha_u1 A X
    refine newC_t fun bk2 u2 hb2 ha_u2 _ B2 => ?_
    have g2 := le_eq A.size hb2
    have l1_2 := lt1 hb2 B1
    replace B1 := B1.ahead ha_u2
    obtain ⟨A, X⟩ := axa2 ha_u2 A X
    refine ldB_t 0 B1 rfl ?_
    refine ldS_t 1 B1 rfl ?_
    refine ldI_t 2 B1 rfl ?_
    replace h := h _ X A
    refine Calls.mono h ?_
    clear h
    rintro e1 w2 ⟨b1, s1, x1, x2, he_, ha_w2, h⟩
    refine ⟨b1, s1, x1, x2, he_, ?_⟩
    clear he_
    obtain ⟨B1, B2⟩ := ah2 ha_w2 B1 B2
    obtain ⟨A, X⟩ := axa2 ha_w2 A X
    replace X : Ext w2 w2 := Ext.refl _
    refine newC_t fun bk3 u3 hb3 ha_u3 _ B3 => ?_
    have g3 := le_eq A.size hb3
    obtain ⟨_, _⟩ := lt2 hb3 B1 B2
    obtain ⟨B1, B2⟩ := ah2 ha_u3 B1 B2
    obtain ⟨A, X⟩ := axa2 ha_u3 A X
    refine st3_t B3 rfl rfl rfl rfl fun u4 k_u4 B3 => ?_
    obtain ⟨B1, B2⟩ := up2 k_u4 B1 B2
    obtain ⟨A, X⟩ := axu2 k_u4 g3 A X
    refine br_map h (fun h_ => ?_) (fun h_ => ?_)
    ·clear h
     have h := h_
     clear h_
     refine st3_t B2 rfl rfl rfl rfl fun u5 k_u5 B2 => ?_
     obtain ⟨B1, B3⟩ := up2 k_u5 B1 B3
     obtain ⟨A, X⟩ := axu2 k_u5 g2 A X
     refine ldB_t 0 B2 rfl ?_
     refine ldS_t 1 B2 rfl ?_
     refine ldI_t 2 B2 rfl ?_
     replace h := h _ X A
     exact ⟨A, h⟩
    ·clear h
     have h := h_
     clear h_
     replace h := h _ X A
     refine Calls.mono h ?_
     clear h
     rintro e2 w5 ⟨b2, he_, ha_w5, h⟩
     refine ⟨b2, he_, ?_⟩
     clear he_
     obtain ⟨B1, B2, B3⟩ := ah3 ha_w5 B1 B2 B3
     obtain ⟨A, X⟩ := axa2 ha_w5 A X
     replace X : Ext w5 w5 := Ext.refl _
     refine br_map h (fun h_ => ?_) (fun h_ => ?_)
     ·clear h
      have h := h_
      clear h_
      refine st3_t B2 rfl rfl rfl rfl fun u6 k_u6 B2 => ?_
      obtain ⟨B1, B3⟩ := up2 k_u6 B1 B3
      obtain ⟨A, X⟩ := axu2 k_u6 g2 A X
      refine ldB_t 0 B2 rfl ?_
      refine ldS_t 1 B2 rfl ?_
      refine ldI_t 2 B2 rfl ?_
      replace h := h _ X A
      exact ⟨A, h⟩
     ·clear h
      have h := h_
      clear h_
      refine Calls.mono h ?_
      clear h
      rintro e3 w7 ⟨b3, he_, ha_w7, h⟩
      refine ⟨b3, he_, ?_⟩
      clear he_
      obtain ⟨B1, B2, B3⟩ := ah3 ha_w7 B1 B2 B3
      obtain ⟨A, X⟩ := axa2 ha_w7 A X
      replace X : Ext w7 w7 := Ext.refl _
      refine br_map h (fun h_ => ?_) (fun h_ => ?_)
      ·clear h
       have h := h_
       clear h_
       refine st3_t B2 rfl rfl rfl rfl fun u7 k_u7 B2 => ?_
       obtain ⟨B1, B3⟩ := up2 k_u7 B1 B3
       obtain ⟨A, X⟩ := axu2 k_u7 g2 A X
       refine ldB_t 0 B2 rfl ?_
       refine ldS_t 1 B2 rfl ?_
       refine ldI_t 2 B2 rfl ?_
       replace h := h _ X A
       exact ⟨A, h⟩
      ·clear h
       have h := h_
       clear h_
       refine ldB_t 0 B3 rfl ?_
       refine ldS_t 1 B3 rfl ?_
       refine ldI_t 2 B3 rfl ?_
       refine Calls.mono h ?_
       clear h
       rintro e4 w9 ⟨b4, s2, x3, x4, he_, ha_w9, h⟩
       refine ⟨b4, s2, x3, x4, he_, ?_⟩
       clear he_
       obtain ⟨B1, B2, B3⟩ := ah3 ha_w9 B1 B2 B3
       obtain ⟨A, X⟩ := axa2 ha_w9 A X
       replace X : Ext w9 w9 := Ext.refl _
       refine st3_t B2 rfl rfl rfl rfl fun u8 k_u8 B2 => ?_
       obtain ⟨B1, B3⟩ := up2 k_u8 B1 B3
       obtain ⟨A, X⟩ := axu2 k_u8 g2 A X
       refine ldB_t 0 B2 rfl ?_
       refine ldS_t 1 B2 rfl ?_
       refine ldI_t 2 B2 rfl ?_
       replace h := h _ X A
       exact ⟨A, h⟩

/-- surd/surdref06.Neg: function 98, its local variables as values. -/
theorem surdref06_Neg_v2 (a0_a_0 : Bool) (a0_a_1 : Slc) (w : World) (R : Ending → World → Prop)
    
    (h : ∀ w1, Ext w w1 → Ahead w w1 →
    (Calls Tryd.prog 46 #[Value.bool (!a0_a_0), a0_a_1.v] w1 fun e1 w2 =>
     ∃ b1 : Bool, ∃ s1 : Slc, e1 = .returned (Value.agg #[Value.bool b1, s1.v]) ∧ Ahead w1 w2 ∧
     (∀ w3, Ext w2 w3 → Ahead w w3 →
      (R (.returned (Value.agg #[Value.bool b1, s1.v])) w3))))
     :
    Calls Tryd.prog 98 #[Value.agg #[Value.bool a0_a_0, a0_a_1.v]] w (fun e_ w_ => Ahead w w_ ∧ R e_ w_) := by
  refine surdref06_Neg_vc a0_a_0 a0_a_1 w _  ?_
  · have A : Ahead w w := Ahead.refl w
    have X : Ext w w := Ext.refl w
    refine newC_t fun bk1 u1 hb1 ha_u1 _ B1 => ?_
    have g1 := le_eq A.size hb1
    obtain ⟨A, X⟩ := axa2 ha_u1 A X
    refine newC_t fun bk2 u2 hb2 ha_u2 _ B2 => ?_
    have g2 := le_eq A.size hb2
    have l1_2 := lt1 hb2 B1
    replace B1 := B1.ahead ha_u2
    obtain ⟨A, X⟩ := axa2 ha_u2 A X
    refine ldB_t 0 B1 rfl ?_
    refine ldS_t 1 B1 rfl ?_
    replace h := h _ X A
    refine Calls.mono h ?_
    clear h
    rintro e1 w2 ⟨b1, s1, he_, ha_w2, h⟩
    refine ⟨b1, s1, he_, ?_⟩
    clear he_
    obtain ⟨B1, B2⟩ := ah2 ha_w2 B1 B2
    obtain ⟨A, X⟩ := axa2 ha_w2 A X
    replace X : Ext w2 w2 := Ext.refl _
    refine st2_t B2 rfl rfl rfl fun u3 k_u3 B2 => ?_
    replace B1 := up1 k_u3 B1
    obtain ⟨A, X⟩ := axu2 k_u3 g2 A X
    refine ldB_t 0 B2 rfl ?_
    refine ldS_t 1 B2 rfl ?_
    replace h := h _ X A
    exact ⟨A, h⟩

/-- surd/surdref06.Add: function 75, its local variables as values. -/
theorem surdref06_Add_v2 (a0_a_0 : Bool) (a0_a_1 : Slc) (a1_b_0 : Bool) (a1_b_1 : Slc) (w : World) (R : Ending → World → Prop)
    
    (h : br (a0_a_0 == a1_b_0)
    (∀ w1, Ext w w1 → Ahead w w1 →
     (Calls Tryd.prog 96 #[a0_a_1.v, a1_b_1.v] w1 fun e1 w2 =>
      ∃ s1 : Slc, e1 = .returned s1.v ∧ Ahead w1 w2 ∧
      (Calls Tryd.prog 46 #[Value.bool a0_a_0, s1.v] w2 fun e2 w3 =>
       ∃ b1 : Bool, ∃ s2 : Slc, e2 = .returned (Value.agg #[Value.bool b1, s2.v]) ∧ Ahead w2 w3 ∧
       (∀ w4, Ext w3 w4 → Ahead w w4 →
        (R (.returned (Value.agg #[Value.bool b1, s2.v])) w4)))))
    (∀ w5, Ext w w5 → Ahead w w5 →
     (Calls Tryd.prog 76 #[a0_a_1.v, a1_b_1.v] w5 fun e3 w6 =>
      ∃ x1 : Int, e3 = .returned (Value.int .i64 x1) ∧ Ahead w5 w6 ∧
      (br (decide (x1 ≥ 0))
       (∀ w7, Ext w6 w7 → Ahead w w7 →
        (Calls Tryd.prog 97 #[a0_a_1.v, a1_b_1.v] w7 fun e4 w8 =>
         ∃ s3 : Slc, e4 = .returned s3.v ∧ Ahead w7 w8 ∧
         (Calls Tryd.prog 46 #[Value.bool a0_a_0, s3.v] w8 fun e5 w9 =>
          ∃ b2 : Bool, ∃ s4 : Slc, e5 = .returned (Value.agg #[Value.bool b2, s4.v]) ∧ Ahead w8 w9 ∧
          (∀ w10, Ext w9 w10 → Ahead w w10 →
           (R (.returned (Value.agg #[Value.bool b2, s4.v])) w10)))))
       (∀ w11, Ext w6 w11 → Ahead w w11 →
        (Calls Tryd.prog 97 #[a1_b_1.v, a0_a_1.v] w11 fun e6 w12 =>
         ∃ s5 : Slc, e6 = .returned s5.v ∧ Ahead w11 w12 ∧
         (Calls Tryd.prog 46 #[Value.bool a1_b_0, s5.v] w12 fun e7 w13 =>
          ∃ b3 : Bool, ∃ s6 : Slc, e7 = .returned (Value.agg #[Value.bool b3, s6.v]) ∧ Ahead w12 w13 ∧
          (∀ w14, Ext w13 w14 → Ahead w w14 →
           (R (.returned (Value.agg #[Value.bool b3, s6.v])) w14)))))))))
     :
    Calls Tryd.prog 75 #[Value.agg #[Value.bool a0_a_0, a0_a_1.v], Value.agg #[Value.bool a1_b_0, a1_b_1.v]] w (fun e_ w_ => Ahead w w_ ∧ R e_ w_) := by
  refine surdref06_Add_vc a0_a_0 a0_a_1 a1_b_0 a1_b_1 w _  ?_
  · have A : Ahead w w := Ahead.refl w
    have X : Ext w w := Ext.refl w
    refine newC_t fun bk1 u1 hb1 ha_u1 _ B1 => ?_
    have g1 := le_eq A.size hb1
    obtain ⟨A, X⟩ := axa2 ha_u1 A X
    refine newC_t fun bk2 u2 hb2 ha_u2 _ B2 => ?_
    have g2 := le_eq A.size hb2
    have l1_2 := lt1 hb2 B1
    replace B1 := B1.ahead ha_u2
    obtain ⟨A, X⟩ := axa2 ha_u2 A X
    refine newC_t fun bk3 u3 hb3 ha_u3 _ B3 => ?_
    have g3 := le_eq A.size hb3
    obtain ⟨_, _⟩ := lt2 hb3 B1 B2
    obtain ⟨B1, B2⟩ := ah2 ha_u3 B1 B2
    obtain ⟨A, X⟩ := axa2 ha_u3 A X
    refine ldB_t 0 B1 rfl ?_
    refine ldB_t 0 B2 rfl ?_
    refine br_map h (fun h_ => ?_) (fun h_ => ?_)
    ·clear h
     have h := h_
     clear h_
     have hd_ := Sp.Ahead.drew u3
     obtain ⟨B1, B2, B3⟩ := ah3 hd_ B1 B2 B3
     obtain ⟨A, X⟩ := axa2 hd_ A X
     clear hd_
     refine ldB_t 0 B1 rfl ?_
     refine ldS_t 1 B1 rfl ?_
     refine ldS_t 1 B2 rfl ?_
     replace h := h _ X A
     refine Calls.mono h ?_
     clear h
     rintro e1 w2 ⟨s1, he_, ha_w2, h⟩
     refine ⟨s1, he_, ?_⟩
     clear he_
     obtain ⟨B1, B2, B3⟩ := ah3 ha_w2 B1 B2 B3
     obtain ⟨A, X⟩ := axa2 ha_w2 A X
     replace X : Ext w2 w2 := Ext.refl _
     refine ⟨ha_w2, ?_⟩
     refine Calls.mono h ?_
     clear h
     rintro e2 w3 ⟨b1, s2, he_, ha_w3, h⟩
     refine ⟨b1, s2, he_, ?_⟩
     clear he_
     obtain ⟨B1, B2, B3⟩ := ah3 ha_w3 B1 B2 B3
     obtain ⟨A, X⟩ := axa2 ha_w3 A X
     replace X : Ext w3 w3 := Ext.refl _
     refine ⟨ha_w3, ?_⟩
     refine st2_t B3 rfl rfl rfl fun u4 k_u4 B3 => ?_
     obtain ⟨B1, B2⟩ := up2 k_u4 B1 B2
     obtain ⟨A, X⟩ := axu2 k_u4 g3 A X
     refine ldB_t 0 B3 rfl ?_
     refine ldS_t 1 B3 rfl ?_
     replace h := h _ X A
     exact ⟨A, h⟩
    ·clear h
     have h := h_
     clear h_
     refine ldS_t 1 B1 rfl ?_
     refine ldS_t 1 B2 rfl ?_
     replace h := h _ X A
     refine Calls.mono h ?_
     clear h
     rintro e3 w6 ⟨x1, he_, ha_w6, h⟩
     refine ⟨x1, he_, ?_⟩
     clear he_
     obtain ⟨B1, B2, B3⟩ := ah3 ha_w6 B1 B2 B3
     obtain ⟨A, X⟩ := axa2 ha_w6 A X
     replace X : Ext w6 w6 := Ext.refl _
     refine br_map h (fun h_ => ?_) (fun h_ => ?_)
     ·clear h
      have h := h_
      clear h_
      have hd_ := Sp.Ahead.drew w6
      obtain ⟨B1, B2, B3⟩ := ah3 hd_ B1 B2 B3
      obtain ⟨A, X⟩ := axa2 hd_ A X
      clear hd_
      refine ldB_t 0 B1 rfl ?_
      refine ldS_t 1 B1 rfl ?_
      refine ldS_t 1 B2 rfl ?_
      replace h := h _ X A
      refine Calls.mono h ?_
      clear h
      rintro e4 w8 ⟨s3, he_, ha_w8, h⟩
      refine ⟨s3, he_, ?_⟩
      clear he_
      obtain ⟨B1, B2, B3⟩ := ah3 ha_w8 B1 B2 B3
      obtain ⟨A, X⟩ := axa2 ha_w8 A X
      replace X : Ext w8 w8 := Ext.refl _
      refine ⟨ha_w8, ?_⟩
      refine Calls.mono h ?_
      clear h
      rintro e5 w9 ⟨b2, s4, he_, ha_w9, h⟩
      refine ⟨b2, s4, he_, ?_⟩
      clear he_
      obtain ⟨B1, B2, B3⟩ := ah3 ha_w9 B1 B2 B3
      obtain ⟨A, X⟩ := axa2 ha_w9 A X
      replace X : Ext w9 w9 := Ext.refl _
      refine ⟨ha_w9, ?_⟩
      refine st2_t B3 rfl rfl rfl fun u5 k_u5 B3 => ?_
      obtain ⟨B1, B2⟩ := up2 k_u5 B1 B2
      obtain ⟨A, X⟩ := axu2 k_u5 g3 A X
      refine ldB_t 0 B3 rfl ?_
      refine ldS_t 1 B3 rfl ?_
      replace h := h _ X A
      exact ⟨A, h⟩
     ·clear h
      have h := h_
      clear h_
      have hd_ := Sp.Ahead.drew w6
      obtain ⟨B1, B2, B3⟩ := ah3 hd_ B1 B2 B3
      obtain ⟨A, X⟩ := axa2 hd_ A X
      clear hd_
      refine ldB_t 0 B2 rfl ?_
      refine ldS_t 1 B2 rfl ?_
      refine ldS_t 1 B1 rfl ?_
      replace h := h _ X A
      refine Calls.mono h ?_
      clear h
      rintro e6 w12 ⟨s5, he_, ha_w12, h⟩
      refine ⟨s5, he_, ?_⟩
      clear he_
      obtain ⟨B1, B2, B3⟩ := ah3 ha_w12 B1 B2 B3
      obtain ⟨A, X⟩ := axa2 ha_w12 A X
      replace X : Ext w12 w12 := Ext.refl _
      refine ⟨ha_w12, ?_⟩
      refine Calls.mono h ?_
      clear h
      rintro e7 w13 ⟨b3, s6, he_, ha_w13, h⟩
      refine ⟨b3, s6, he_, ?_⟩
      clear he_
      obtain ⟨B1, B2, B3⟩ := ah3 ha_w13 B1 B2 B3
      obtain ⟨A, X⟩ := axa2 ha_w13 A X
      replace X : Ext w13 w13 := Ext.refl _
      refine ⟨ha_w13, ?_⟩
      refine st2_t B3 rfl rfl rfl fun u6 k_u6 B3 => ?_
      obtain ⟨B1, B2⟩ := up2 k_u6 B1 B2
      obtain ⟨A, X⟩ := axu2 k_u6 g3 A X
      refine ldB_t 0 B3 rfl ?_
      refine ldS_t 1 B3 rfl ?_
      replace h := h _ X A
      exact ⟨A, h⟩

/-- surd/surdref06.Sub: function 74, its local variables as values. -/
theorem surdref06_Sub_v2 (a0_a_0 : Bool) (a0_a_1 : Slc) (a1_b_0 : Bool) (a1_b_1 : Slc) (w : World) (R : Ending → World → Prop)
    
    (h : ∀ w1, Ext w w1 → Ahead w w1 →
    (Calls Tryd.prog 98 #[Value.agg #[Value.bool a1_b_0, a1_b_1.v]] w1 fun e1 w2 =>
     ∃ b1 : Bool, ∃ s1 : Slc, e1 = .returned (Value.agg #[Value.bool b1, s1.v]) ∧ Ahead w1 w2 ∧
     (Calls Tryd.prog 75 #[Value.agg #[Value.bool a0_a_0, a0_a_1.v], Value.agg #[Value.bool b1, s1.v]] w2 fun e2 w3 =>
      ∃ b2 : Bool, ∃ s2 : Slc, e2 = .returned (Value.agg #[Value.bool b2, s2.v]) ∧ Ahead w2 w3 ∧
      (∀ w4, Ext w3 w4 → Ahead w w4 →
       (R (.returned (Value.agg #[Value.bool b2, s2.v])) w4)))))
     :
    Calls Tryd.prog 74 #[Value.agg #[Value.bool a0_a_0, a0_a_1.v], Value.agg #[Value.bool a1_b_0, a1_b_1.v]] w (fun e_ w_ => Ahead w w_ ∧ R e_ w_) := by
  refine surdref06_Sub_vc a0_a_0 a0_a_1 a1_b_0 a1_b_1 w _  ?_
  · have A : Ahead w w := Ahead.refl w
    have X : Ext w w := Ext.refl w
    refine newC_t fun bk1 u1 hb1 ha_u1 _ B1 => ?_
    have g1 := le_eq A.size hb1
    obtain ⟨A, X⟩ := axa2 ha_u1 A X
    refine newC_t fun bk2 u2 hb2 ha_u2 _ B2 => ?_
    have g2 := le_eq A.size hb2
    have l1_2 := lt1 hb2 B1
    replace B1 := B1.ahead ha_u2
    obtain ⟨A, X⟩ := axa2 ha_u2 A X
    refine newC_t fun bk3 u3 hb3 ha_u3 _ B3 => ?_
    have g3 := le_eq A.size hb3
    obtain ⟨_, _⟩ := lt2 hb3 B1 B2
    obtain ⟨B1, B2⟩ := ah2 ha_u3 B1 B2
    obtain ⟨A, X⟩ := axa2 ha_u3 A X
    have hd_ := Sp.Ahead.drew u3
    obtain ⟨B1, B2, B3⟩ := ah3 hd_ B1 B2 B3
    obtain ⟨A, X⟩ := axa2 hd_ A X
    clear hd_
    refine ldB_t 0 B1 rfl ?_
    refine ldS_t 1 B1 rfl ?_
    refine ldB_t 0 B2 rfl ?_
    refine ldS_t 1 B2 rfl ?_
    replace h := h _ X A
    refine Calls.mono h ?_
    clear h
    rintro e1 w2 ⟨b1, s1, he_, ha_w2, h⟩
    refine ⟨b1, s1, he_, ?_⟩
    clear he_
    obtain ⟨B1, B2, B3⟩ := ah3 ha_w2 B1 B2 B3
    obtain ⟨A, X⟩ := axa2 ha_w2 A X
    replace X : Ext w2 w2 := Ext.refl _
    refine ⟨ha_w2, ?_⟩
    refine Calls.mono h ?_
    clear h
    rintro e2 w3 ⟨b2, s2, he_, ha_w3, h⟩
    refine ⟨b2, s2, he_, ?_⟩
    clear he_
    obtain ⟨B1, B2, B3⟩ := ah3 ha_w3 B1 B2 B3
    obtain ⟨A, X⟩ := axa2 ha_w3 A X
    replace X : Ext w3 w3 := Ext.refl _
    refine ⟨ha_w3, ?_⟩
    refine st2_t B3 rfl rfl rfl fun u4 k_u4 B3 => ?_
    obtain ⟨B1, B2⟩ := up2 k_u4 B1 B2
    obtain ⟨A, X⟩ := axu2 k_u4 g3 A X
    refine ldB_t 0 B3 rfl ?_
    refine ldS_t 1 B3 rfl ?_
    replace h := h _ X A
    exact ⟨A, h⟩

/-- surd/surdref06.Mul: function 55, its local variables as values. -/
theorem surdref06_Mul_v2 (a0_a_0 : Bool) (a0_a_1 : Slc) (a1_b_0 : Bool) (a1_b_1 : Slc) (w : World) (R : Ending → World → Prop)
    
    (h : ∀ w1, Ext w w1 → Ahead w w1 →
    (Calls Tryd.prog 77 #[a0_a_1.v, a1_b_1.v] w1 fun e1 w2 =>
     ∃ s1 : Slc, e1 = .returned s1.v ∧ Ahead w1 w2 ∧
     (Calls Tryd.prog 46 #[Value.bool (!(a0_a_0 == a1_b_0)), s1.v] w2 fun e2 w3 =>
      ∃ b1 : Bool, ∃ s2 : Slc, e2 = .returned (Value.agg #[Value.bool b1, s2.v]) ∧ Ahead w2 w3 ∧
      (∀ w4, Ext w3 w4 → Ahead w w4 →
       (R (.returned (Value.agg #[Value.bool b1, s2.v])) w4)))))
     :
    Calls Tryd.prog 55 #[Value.agg #[Value.bool a0_a_0, a0_a_1.v], Value.agg #[Value.bool a1_b_0, a1_b_1.v]] w (fun e_ w_ => Ahead w w_ ∧ R e_ w_) := by
  refine surdref06_Mul_vc a0_a_0 a0_a_1 a1_b_0 a1_b_1 w _  ?_
  · have A : Ahead w w := Ahead.refl w
    have X : Ext w w := Ext.refl w
    refine newC_t fun bk1 u1 hb1 ha_u1 _ B1 => ?_
    have g1 := le_eq A.size hb1
    obtain ⟨A, X⟩ := axa2 ha_u1 A X
    refine newC_t fun bk2 u2 hb2 ha_u2 _ B2 => ?_
    have g2 := le_eq A.size hb2
    have l1_2 := lt1 hb2 B1
    replace B1 := B1.ahead ha_u2
    obtain ⟨A, X⟩ := axa2 ha_u2 A X
    refine newC_t fun bk3 u3 hb3 ha_u3 _ B3 => ?_
    have g3 := le_eq A.size hb3
    obtain ⟨_, _⟩ := lt2 hb3 B1 B2
    obtain ⟨B1, B2⟩ := ah2 ha_u3 B1 B2
    obtain ⟨A, X⟩ := axa2 ha_u3 A X
    have hd_ := Sp.Ahead.drew u3
    obtain ⟨B1, B2, B3⟩ := ah3 hd_ B1 B2 B3
    obtain ⟨A, X⟩ := axa2 hd_ A X
    clear hd_
    refine ldB_t 0 B1 rfl ?_
    refine ldB_t 0 B2 rfl ?_
    refine ldS_t 1 B1 rfl ?_
    refine ldS_t 1 B2 rfl ?_
    replace h := h _ X A
    refine Calls.mono h ?_
    clear h
    rintro e1 w2 ⟨s1, he_, ha_w2, h⟩
    refine ⟨s1, he_, ?_⟩
    clear he_
    obtain ⟨B1, B2, B3⟩ := ah3 ha_w2 B1 B2 B3
    obtain ⟨A, X⟩ := axa2 ha_w2 A X
    replace X : Ext w2 w2 := Ext.refl _
    refine ⟨ha_w2, ?_⟩
    refine Calls.mono h ?_
    clear h
    rintro e2 w3 ⟨b1, s2, he_, ha_w3, h⟩
    refine ⟨b1, s2, he_, ?_⟩
    clear he_
    obtain ⟨B1, B2, B3⟩ := ah3 ha_w3 B1 B2 B3
    obtain ⟨A, X⟩ := axa2 ha_w3 A X
    replace X : Ext w3 w3 := Ext.refl _
    refine ⟨ha_w3, ?_⟩
    refine st2_t B3 rfl rfl rfl fun u4 k_u4 B3 => ?_
    obtain ⟨B1, B2⟩ := up2 k_u4 B1 B2
    obtain ⟨A, X⟩ := axu2 k_u4 g3 A X
    refine ldB_t 0 B3 rfl ?_
    refine ldS_t 1 B3 rfl ?_
    replace h := h _ X A
    exact ⟨A, h⟩

/-- surd/surdref06.Floor: function 52, its local variables as values. -/
theorem surdref06_Floor_v2 (a0_a_0 : Bool) (a0_a_1 : Slc) (a1_b_0 : Bool) (a1_b_1 : Slc) (w : World) (R : Ending → World → Prop)
    (K5 : Bool → Bool → Slc → Bool → Slc → Bool → Slc → Bool → Slc → Bool → Slc → World → Prop) (K6 : Bool → Slc → Bool → Slc → Bool → Slc → Bool → Slc → Bool → Slc → World → Prop)
    (h : ∀ w1, Ext w w1 → Ahead w w1 →
    (Calls Tryd.prog 73 #[a0_a_1.v, a1_b_1.v] w1 fun e1 w2 =>
     ∃ s1 : Slc, ∃ s2 : Slc, e1 = .returned (Value.tuple #[s1.v, s2.v]) ∧ Ahead w1 w2 ∧
     (Calls Tryd.prog 46 #[Value.bool (!(a0_a_0 == a1_b_0)), s1.v] w2 fun e2 w3 =>
      ∃ b1 : Bool, ∃ s3 : Slc, e2 = .returned (Value.agg #[Value.bool b1, s3.v]) ∧ Ahead w2 w3 ∧
      (∀ w4, Ext w3 w4 → Ahead w w4 →
       (Calls Tryd.prog 69 #[s2.v] w4 fun e3 w5 =>
        ∃ b2 : Bool, e3 = .returned (Value.bool b2) ∧ Ahead w4 w5 ∧
        (br (!b2)
         (K5 (!(a0_a_0 == a1_b_0)) a0_a_0 a0_a_1 a1_b_0 a1_b_1 false (⟨none, 0, 0⟩ : Slc) false (⟨none, 0, 0⟩ : Slc) b1 s3 w5)
         (K5 false a0_a_0 a0_a_1 a1_b_0 a1_b_1 false (⟨none, 0, 0⟩ : Slc) false (⟨none, 0, 0⟩ : Slc) b1 s3 w5)))))))
    (h3000005 : ∀ (t33 : Bool) (t2_a_0 : Bool) (t2_a_1 : Slc) (t3_b_0 : Bool) (t3_b_1 : Slc) (t4_0 : Bool) (t4_1 : Slc) (t5_0 : Bool) (t5_1 : Slc) (t8_x_0 : Bool) (t8_x_1 : Slc) (w_ : World), Ahead w w_ → K5 t33 t2_a_0 t2_a_1 t3_b_0 t3_b_1 t4_0 t4_1 t5_0 t5_1 t8_x_0 t8_x_1 w_ → 
    br t33
    (∀ w6, Ext w_ w6 → Ahead w w6 →
     (Calls Tryd.prog 62 #[Value.int .i64 1] w6 fun e4 w7 =>
      ∃ b3 : Bool, ∃ s4 : Slc, e4 = .returned (Value.agg #[Value.bool b3, s4.v]) ∧ Ahead w6 w7 ∧
      (Calls Tryd.prog 74 #[Value.agg #[Value.bool t8_x_0, t8_x_1.v], Value.agg #[Value.bool b3, s4.v]] w7 fun e5 w8 =>
       ∃ b4 : Bool, ∃ s5 : Slc, e5 = .returned (Value.agg #[Value.bool b4, s5.v]) ∧ Ahead w7 w8 ∧
       (∀ w13, Ext w8 w13 → Ahead w w13 →
        (K6 t2_a_0 t2_a_1 t3_b_0 t3_b_1 t4_0 t4_1 t5_0 t5_1 b4 s5 w13)))))
    (K6 t2_a_0 t2_a_1 t3_b_0 t3_b_1 t4_0 t4_1 t5_0 t5_1 t8_x_0 t8_x_1 w_))
    (h3000006 : ∀ (t2_a_0 : Bool) (t2_a_1 : Slc) (t3_b_0 : Bool) (t3_b_1 : Slc) (t4_0 : Bool) (t4_1 : Slc) (t5_0 : Bool) (t5_1 : Slc) (t8_x_0 : Bool) (t8_x_1 : Slc) (w_ : World), Ahead w w_ → K6 t2_a_0 t2_a_1 t3_b_0 t3_b_1 t4_0 t4_1 t5_0 t5_1 t8_x_0 t8_x_1 w_ → 
    ∀ w9, Ext w_ w9 → Ahead w w9 →
    (Calls Tryd.prog 55 #[Value.agg #[Value.bool t8_x_0, t8_x_1.v], Value.agg #[Value.bool t3_b_0, t3_b_1.v]] w9 fun e6 w10 =>
     ∃ b5 : Bool, ∃ s6 : Slc, e6 = .returned (Value.agg #[Value.bool b5, s6.v]) ∧ Ahead w9 w10 ∧
     (Calls Tryd.prog 74 #[Value.agg #[Value.bool t2_a_0, t2_a_1.v], Value.agg #[Value.bool b5, s6.v]] w10 fun e7 w11 =>
      ∃ b6 : Bool, ∃ s7 : Slc, e7 = .returned (Value.agg #[Value.bool b6, s7.v]) ∧ Ahead w10 w11 ∧
      (∀ w12, Ext w11 w12 → Ahead w w12 →
       (R (.returned (Value.tuple #[Value.agg #[Value.bool t8_x_0, t8_x_1.v], Value.agg #[Value.bool b6, s7.v]])) w12))))) :
    Calls Tryd.prog 52 #[Value.agg #[Value.bool a0_a_0, a0_a_1.v], Value.agg #[Value.bool a1_b_0, a1_b_1.v]] w (fun e_ w_ => Ahead w w_ ∧ R e_ w_) := by
  refine surdref06_Floor_vc a0_a_0 a0_a_1 a1_b_0 a1_b_1 w _ (fun t2_a t3_b t4 t5 t8_x t33 w_ => ∃ c2_ : Nat, ∃ c3_ : Nat, ∃ c4_ : Nat, ∃ c5_ : Nat, ∃ c8_ : Nat, ∃ t2_a_0 : Bool, ∃ t2_a_1 : Slc, ∃ t3_b_0 : Bool, ∃ t3_b_1 : Slc, ∃ t4_0 : Bool, ∃ t4_1 : Slc, ∃ t5_0 : Bool, ∃ t5_1 : Slc, ∃ t8_x_0 : Bool, ∃ t8_x_1 : Slc, t2_a = ⟨c2_, 0, none⟩ ∧ Blt w_ c2_ 27 #[Value.bool t2_a_0, t2_a_1.v] ∧ w.heap.size ≤ c2_ ∧ t3_b = ⟨c3_, 0, none⟩ ∧ Blt w_ c3_ 27 #[Value.bool t3_b_0, t3_b_1.v] ∧ w.heap.size ≤ c3_ ∧ t4 = ⟨c4_, 0, none⟩ ∧ Blt w_ c4_ 27 #[Value.bool t4_0, t4_1.v] ∧ w.heap.size ≤ c4_ ∧ t5 = ⟨c5_, 0, none⟩ ∧ Blt w_ c5_ 27 #[Value.bool t5_0, t5_1.v] ∧ w.heap.size ≤ c5_ ∧ t8_x = ⟨c8_, 0, none⟩ ∧ Blt w_ c8_ 27 #[Value.bool t8_x_0, t8_x_1.v] ∧ w.heap.size ≤ c8_ ∧ c2_ ≠ c3_ ∧ c2_ ≠ c4_ ∧ c2_ ≠ c5_ ∧ c2_ ≠ c8_ ∧ c3_ ≠ c4_ ∧ c3_ ≠ c5_ ∧ c3_ ≠ c8_ ∧ c4_ ≠ c5_ ∧ c4_ ≠ c8_ ∧ c5_ ≠ c8_ ∧ Ahead w w_ ∧ K5 t33 t2_a_0 t2_a_1 t3_b_0 t3_b_1 t4_0 t4_1 t5_0 t5_1 t8_x_0 t8_x_1 w_) (fun t2_a t3_b t4 t5 t8_x w_ => ∃ c2_ : Nat, ∃ c3_ : Nat, ∃ c4_ : Nat, ∃ c5_ : Nat, ∃ c8_ : Nat, ∃ t2_a_0 : Bool, ∃ t2_a_1 : Slc, ∃ t3_b_0 : Bool, ∃ t3_b_1 : Slc, ∃ t4_0 : Bool, ∃ t4_1 : Slc, ∃ t5_0 : Bool, ∃ t5_1 : Slc, ∃ t8_x_0 : Bool, ∃ t8_x_1 : Slc, t2_a = ⟨c2_, 0, none⟩ ∧ Blt w_ c2_ 27 #[Value.bool t2_a_0, t2_a_1.v] ∧ w.heap.size ≤ c2_ ∧ t3_b = ⟨c3_, 0, none⟩ ∧ Blt w_ c3_ 27 #[Value.bool t3_b_0, t3_b_1.v] ∧ w.heap.size ≤ c3_ ∧ t4 = ⟨c4_, 0, none⟩ ∧ Blt w_ c4_ 27 #[Value.bool t4_0, t4_1.v] ∧ w.heap.size ≤ c4_ ∧ t5 = ⟨c5_, 0, none⟩ ∧ Blt w_ c5_ 27 #[Value.bool t5_0, t5_1.v] ∧ w.heap.size ≤ c5_ ∧ t8_x = ⟨c8_, 0, none⟩ ∧ Blt w_ c8_ 27 #[Value.bool t8_x_0, t8_x_1.v] ∧ w.heap.size ≤ c8_ ∧ c2_ ≠ c3_ ∧ c2_ ≠ c4_ ∧ c2_ ≠ c5_ ∧ c2_ ≠ c8_ ∧ c3_ ≠ c4_ ∧ c3_ ≠ c5_ ∧ c3_ ≠ c8_ ∧ c4_ ≠ c5_ ∧ c4_ ≠ c8_ ∧ c5_ ≠ c8_ ∧ Ahead w w_ ∧ K6 t2_a_0 t2_a_1 t3_b_0 t3_b_1 t4_0 t4_1 t5_0 t5_1 t8_x_0 t8_x_1 w_) ?_ ?_ ?_
  · have A : Ahead w w := Ahead.refl w
    have X : Ext w w := Ext.refl w
    refine newC_t fun bk1 u1 hb1 ha_u1 _ B1 => ?_
    have g1 := le_eq A.size hb1
    obtain ⟨A, X⟩ := axa2 ha_u1 A X
    refine newC_t fun bk2 u2 hb2 ha_u2 _ B2 => ?_
    have g2 := le_eq A.size hb2
    have l1_2 := lt1 hb2 B1
    replace B1 := B1.ahead ha_u2
    obtain ⟨A, X⟩ := axa2 ha_u2 A X
    refine newC_t fun bk3 u3 hb3 ha_u3 _ B3 => ?_
    have g3 := le_eq A.size hb3
    obtain ⟨_, _⟩ := lt2 hb3 B1 B2
    obtain ⟨B1, B2⟩ := ah2 ha_u3 B1 B2
    obtain ⟨A, X⟩ := axa2 ha_u3 A X
    refine newC_t fun bk4 u4 hb4 ha_u4 _ B4 => ?_
    have g4 := le_eq A.size hb4
    obtain ⟨_, _, _⟩ := lt3 hb4 B1 B2 B3
    obtain ⟨B1, B2, B3⟩ := ah3 ha_u4 B1 B2 B3
    obtain ⟨A, X⟩ := axa2 ha_u4 A X
    refine ldS_t 1 B1 rfl ?_
    refine ldS_t 1 B2 rfl ?_
    replace h := h _ X A
    refine Calls.mono h ?_
    clear h
    rintro e1 w2 ⟨s1, s2, he_, ha_w2, h⟩
    refine ⟨s1, s2, he_, ?_⟩
    clear he_
    obtain ⟨B1, B2, B3, B4⟩ := ah4 ha_w2 B1 B2 B3 B4
    obtain ⟨A, X⟩ := axa2 ha_w2 A X
    replace X : Ext w2 w2 := Ext.refl _
    refine ldB_t 0 B1 rfl ?_
    refine ldB_t 0 B2 rfl ?_
    refine Calls.mono h ?_
    clear h
    rintro e2 w3 ⟨b1, s3, he_, ha_w3, h⟩
    refine ⟨b1, s3, he_, ?_⟩
    clear he_
    obtain ⟨B1, B2, B3, B4⟩ := ah4 ha_w3 B1 B2 B3 B4
    obtain ⟨A, X⟩ := axa2 ha_w3 A X
    replace X : Ext w3 w3 := Ext.refl _
    refine newC_t fun bk5 u5 hb5 ha_u5 _ B5 => ?_
    have g5 := le_eq A.size hb5
    obtain ⟨_, _, _, _⟩ := lt4 hb5 B1 B2 B3 B4
    obtain ⟨B1, B2, B3, B4⟩ := ah4 ha_u5 B1 B2 B3 B4
    obtain ⟨A, X⟩ := axa2 ha_u5 A X
    refine st2_t B5 rfl rfl rfl fun u6 k_u6 B5 => ?_
    obtain ⟨B1, B2, B3, B4⟩ := up4 k_u6 B1 B2 B3 B4
    obtain ⟨A, X⟩ := axu2 k_u6 g5 A X
    replace h := h _ X A
    refine Calls.mono h ?_
    clear h
    rintro e3 w5 ⟨b2, he_, ha_w5, h⟩
    refine ⟨b2, he_, ?_⟩
    clear he_
    obtain ⟨B1, B2, B3, B4, B5⟩ := ah5 ha_w5 B1 B2 B3 B4 B5
    obtain ⟨A, X⟩ := axa2 ha_w5 A X
    replace X : Ext w5 w5 := Ext.refl _
    refine br_map h (fun h_ => ?_) (fun h_ => ?_)
    ·clear h
     have h := h_
     clear h_
     refine ldB_t 0 B1 rfl ?_
     refine ldB_t 0 B2 rfl ?_
     refine ⟨bk1, bk2, bk3, bk4, bk5, a0_a_0, a0_a_1, a1_b_0, a1_b_1, false, (⟨none, 0, 0⟩ : Slc), false, (⟨none, 0, 0⟩ : Slc), b1, s3, rfl, B1, g1, rfl, B2, g2, rfl, B3, g3, rfl, B4, g4, rfl, B5, g5, ?_⟩
     iterate 10 refine nd ?_
     exact ⟨A, h⟩
    ·clear h
     have h := h_
     clear h_
     refine ⟨bk1, bk2, bk3, bk4, bk5, a0_a_0, a0_a_1, a1_b_0, a1_b_1, false, (⟨none, 0, 0⟩ : Slc), false, (⟨none, 0, 0⟩ : Slc), b1, s3, rfl, B1, g1, rfl, B2, g2, rfl, B3, g3, rfl, B4, g4, rfl, B5, g5, ?_⟩
     iterate 10 refine nd ?_
     exact ⟨A, h⟩
  · clear h
    intro t2_a t3_b t4 t5 t8_x t33 w_
    refine exE fun bk1 => exE fun bk2 => exE fun bk3 => exE fun bk4 => exE fun bk5 => exE fun t2_a_0 => exE fun t2_a_1 => exE fun t3_b_0 => exE fun t3_b_1 => exE fun t4_0 => exE fun t4_1 => exE fun t5_0 => exE fun t5_1 => exE fun t8_x_0 => exE fun t8_x_1 => anE fun e_0 => anE fun B1 => anE fun g1 => anE fun e_1 => anE fun B2 => anE fun g2 => anE fun e_2 => anE fun B3 => anE fun g3 => anE fun e_3 => anE fun B4 => anE fun g4 => anE fun e_4 => anE fun B5 => anE fun g5 => anE fun n1_2 => anE fun n1_3 => anE fun n1_4 => anE fun n1_5 => anE fun n2_3 => anE fun n2_4 => anE fun n2_5 => anE fun n3_4 => anE fun n3_5 => anE fun n4_5 => anE fun A => fun hJ3000005 => ?_
    subst e_0
    subst e_1
    subst e_2
    subst e_3
    subst e_4
    have h := h3000005  t33 t2_a_0 t2_a_1 t3_b_0 t3_b_1 t4_0 t4_1 t5_0 t5_1 t8_x_0 t8_x_1 w_ A hJ3000005
    have X : Ext w_ w_ := Ext.refl _
    refine br_map h (fun h_ => ?_) (fun h_ => ?_)
    ·clear h
     have h := h_
     clear h_
     have hd_ := Sp.Ahead.drew w_
     obtain ⟨B1, B2, B3, B4, B5⟩ := ah5 hd_ B1 B2 B3 B4 B5
     obtain ⟨A, X⟩ := axa2 hd_ A X
     clear hd_
     refine ldB_t 0 B5 rfl ?_
     refine ldS_t 1 B5 rfl ?_
     replace h := h _ X A
     refine Calls.mono h ?_
     clear h
     rintro e4 w7 ⟨b3, s4, he_, ha_w7, h⟩
     refine ⟨b3, s4, he_, ?_⟩
     clear he_
     obtain ⟨B1, B2, B3, B4, B5⟩ := ah5 ha_w7 B1 B2 B3 B4 B5
     obtain ⟨A, X⟩ := axa2 ha_w7 A X
     replace X : Ext w7 w7 := Ext.refl _
     refine ⟨ha_w7, ?_⟩
     refine Calls.mono h ?_
     clear h
     rintro e5 w8 ⟨b4, s5, he_, ha_w8, h⟩
     refine ⟨b4, s5, he_, ?_⟩
     clear he_
     obtain ⟨B1, B2, B3, B4, B5⟩ := ah5 ha_w8 B1 B2 B3 B4 B5
     obtain ⟨A, X⟩ := axa2 ha_w8 A X
     replace X : Ext w8 w8 := Ext.refl _
     refine ⟨ha_w8, ?_⟩
     refine st2_t B5 rfl rfl rfl fun u7 k_u7 B5 => ?_
     obtain ⟨B1, B2, B3, B4⟩ := up4 k_u7 B1 B2 B3 B4
     obtain ⟨A, X⟩ := axu2 k_u7 g5 A X
     replace h := h _ X A
     refine ⟨bk1, bk2, bk3, bk4, bk5, t2_a_0, t2_a_1, t3_b_0, t3_b_1, t4_0, t4_1, t5_0, t5_1, b4, s5, rfl, B1, g1, rfl, B2, g2, rfl, B3, g3, rfl, B4, g4, rfl, B5, g5, ?_⟩
     iterate 10 refine nd ?_
     exact ⟨A, h⟩
    ·clear h
     have h := h_
     clear h_
     refine ⟨bk1, bk2, bk3, bk4, bk5, t2_a_0, t2_a_1, t3_b_0, t3_b_1, t4_0, t4_1, t5_0, t5_1, t8_x_0, t8_x_1, rfl, B1, g1, rfl, B2, g2, rfl, B3, g3, rfl, B4, g4, rfl, B5, g5, ?_⟩
     iterate 10 refine nd ?_
     exact ⟨A, h⟩
  · clear h
    intro t2_a t3_b t4 t5 t8_x w_
    refine exE fun bk1 => exE fun bk2 => exE fun bk3 => exE fun bk4 => exE fun bk5 => exE fun t2_a_0 => exE fun t2_a_1 => exE fun t3_b_0 => exE fun t3_b_1 => exE fun t4_0 => exE fun t4_1 => exE fun t5_0 => exE fun t5_1 => exE fun t8_x_0 => exE fun t8_x_1 => anE fun e_0 => anE fun B1 => anE fun g1 => anE fun e_1 => anE fun B2 => anE fun g2 => anE fun e_2 => anE fun B3 => anE fun g3 => anE fun e_3 => anE fun B4 => anE fun g4 => anE fun e_4 => anE fun B5 => anE fun g5 => anE fun n1_2 => anE fun n1_3 => anE fun n1_4 => anE fun n1_5 => anE fun n2_3 => anE fun n2_4 => anE fun n2_5 => anE fun n3_4 => anE fun n3_5 => anE fun n4_5 => anE fun A => fun hJ3000006 => ?_
    subst e_0
    subst e_1
    subst e_2
    subst e_3
    subst e_4
    have h := h3000006  t2_a_0 t2_a_1 t3_b_0 t3_b_1 t4_0 t4_1 t5_0 t5_1 t8_x_0 t8_x_1 w_ A hJ3000006
    have X : Ext w_ w_ := Ext.refl _
    have hd_ := Sp.Ahead.drew w_
    obtain ⟨B1, B2, B3, B4, B5⟩ := ah5 hd_ B1 B2 B3 B4 B5
    obtain ⟨A, X⟩ := axa2 hd_ A X
    clear hd_
    have z1 := B1.lt
    have z2 := B2.lt
    have z3 := B3.lt
    have z4 := B4.lt
    have z5 := B5.lt
    let V_ : Nat → Nat → Prop := fun (q_ k : Nat) => (k = bk3 ∨ k = bk4 ∨ w_.drew.heap.size ≤ k) ∧ 0 ≤ k
    refine ⟨V_, ?_⟩
    have Y_ : w_.drew.heap.size ≤ w_.drew.heap.size := Nat.le_refl _
    refine out_t (b := bk5) (i := 0) (by first | rfl | exact Sp.add_off) (fun hv_ => (by replace hv_ : _ ∧ _ := hv_; omega)) ?_
    refine ldB_t 0 B5 rfl ?_
    refine ldS_t 1 B5 rfl ?_
    refine out_t (b := bk1) (i := 0) (by first | rfl | exact Sp.add_off) (fun hv_ => (by replace hv_ : _ ∧ _ := hv_; omega)) ?_
    refine ldB_t 0 B1 rfl ?_
    refine ldS_t 1 B1 rfl ?_
    refine out_t (b := bk5) (i := 0) (by first | rfl | exact Sp.add_off) (fun hv_ => (by replace hv_ : _ ∧ _ := hv_; omega)) ?_
    refine ldB_t 0 B5 rfl ?_
    refine ldS_t 1 B5 rfl ?_
    refine out_t (b := bk2) (i := 0) (by first | rfl | exact Sp.add_off) (fun hv_ => (by replace hv_ : _ ∧ _ := hv_; omega)) ?_
    refine ldB_t 0 B2 rfl ?_
    refine ldS_t 1 B2 rfl ?_
    replace h := h _ X A
    refine Calls.mono h ?_
    clear h
    rintro e6 w10 ⟨b5, s6, he_, ha_w10, h⟩
    refine ⟨b5, s6, he_, ?_⟩
    clear he_
    obtain ⟨B1, B2, B3, B4, B5⟩ := ah5 ha_w10 B1 B2 B3 B4 B5
    obtain ⟨A, X, Y_⟩ := axa3 ha_w10 A X Y_
    replace X : Ext w10 w10 := Ext.refl _
    refine bb2 ha_w10 ?_
    refine Calls.mono h ?_
    clear h
    rintro e7 w11 ⟨b6, s7, he_, ha_w11, h⟩
    refine ⟨b6, s7, he_, ?_⟩
    clear he_
    obtain ⟨B1, B2, B3, B4, B5⟩ := ah5 ha_w11 B1 B2 B3 B4 B5
    obtain ⟨A, X, Y_⟩ := axa3 ha_w11 A X Y_
    replace X : Ext w11 w11 := Ext.refl _
    refine ⟨(Bar.of_ahead ha_w11), ?_⟩
    refine st2_t B3 rfl rfl rfl fun u8 k_u8 B3 => ?_
    obtain ⟨B1, B2, B4, B5⟩ := up4 k_u8 B1 B2 B4 B5
    obtain ⟨A, X, Y_⟩ := axu3 k_u8 g3 A X Y_
    refine st2_t B4 rfl rfl rfl fun u9 k_u9 B4 => ?_
    obtain ⟨B1, B2, B3, B5⟩ := up4 k_u9 B1 B2 B3 B5
    obtain ⟨A, X, Y_⟩ := axu3 k_u9 g4 A X Y_
    refine ldB_t 0 B3 rfl ?_
    refine ldS_t 1 B3 rfl ?_
    refine ldB_t 0 B4 rfl ?_
    refine ldS_t 1 B4 rfl ?_
    replace h := h _ X A
    exact ⟨A, h⟩

/-- surd/surdref06.Ceil: function 53, its local variables as values. -/
theorem surdref06_Ceil_v2 (a0_a_0 : Bool) (a0_a_1 : Slc) (a1_b_0 : Bool) (a1_b_1 : Slc) (w : World) (R : Ending → World → Prop)
    
    (h : ∀ w1, Ext w w1 → Ahead w w1 →
    (Calls Tryd.prog 52 #[Value.agg #[Value.bool a0_a_0, a0_a_1.v], Value.agg #[Value.bool a1_b_0, a1_b_1.v]] w1 fun e1 w2 =>
     ∃ b1 : Bool, ∃ s1 : Slc, ∃ b2 : Bool, ∃ s2 : Slc, e1 = .returned (Value.tuple #[Value.agg #[Value.bool b1, s1.v], Value.agg #[Value.bool b2, s2.v]]) ∧ Ahead w1 w2 ∧
     (∀ w3, Ext w2 w3 → Ahead w w3 →
      (Calls Tryd.prog 43 #[Value.agg #[Value.bool b2, s2.v]] w3 fun e2 w4 =>
       ∃ x1 : Int, e2 = .returned (Value.int .i64 x1) ∧ Ahead w3 w4 ∧
       (br (x1 == 0)
        (∀ w5, Ext w4 w5 → Ahead w w5 →
         (R (.returned (Value.tuple #[Value.agg #[Value.bool b1, s1.v], Value.agg #[Value.bool b2, s2.v]])) w5))
        (∀ w6, Ext w4 w6 → Ahead w w6 →
         (Calls Tryd.prog 62 #[Value.int .i64 1] w6 fun e3 w7 =>
          ∃ b3 : Bool, ∃ s3 : Slc, e3 = .returned (Value.agg #[Value.bool b3, s3.v]) ∧ Ahead w6 w7 ∧
          (Calls Tryd.prog 75 #[Value.agg #[Value.bool b1, s1.v], Value.agg #[Value.bool b3, s3.v]] w7 fun e4 w8 =>
           ∃ b4 : Bool, ∃ s4 : Slc, e4 = .returned (Value.agg #[Value.bool b4, s4.v]) ∧ Ahead w7 w8 ∧
           (∀ w9, Ext w8 w9 → Ahead w w9 →
            (Calls Tryd.prog 55 #[Value.agg #[Value.bool b4, s4.v], Value.agg #[Value.bool a1_b_0, a1_b_1.v]] w9 fun e5 w10 =>
             ∃ b5 : Bool, ∃ s5 : Slc, e5 = .returned (Value.agg #[Value.bool b5, s5.v]) ∧ Ahead w9 w10 ∧
             (Calls Tryd.prog 74 #[Value.agg #[Value.bool a0_a_0, a0_a_1.v], Value.agg #[Value.bool b5, s5.v]] w10 fun e6 w11 =>
              ∃ b6 : Bool, ∃ s6 : Slc, e6 = .returned (Value.agg #[Value.bool b6, s6.v]) ∧ Ahead w10 w11 ∧
              (∀ w12, Ext w11 w12 → Ahead w w12 →
               (R (.returned (Value.tuple #[Value.agg #[Value.bool b4, s4.v], Value.agg #[Value.bool b6, s6.v]])) w12)))))))))))))
     :
    Calls Tryd.prog 53 #[Value.agg #[Value.bool a0_a_0, a0_a_1.v], Value.agg #[Value.bool a1_b_0, a1_b_1.v]] w (fun e_ w_ => Ahead w w_ ∧ R e_ w_) := by
  refine surdref06_Ceil_vc a0_a_0 a0_a_1 a1_b_0 a1_b_1 w _  ?_
  · have A : Ahead w w := Ahead.refl w
    have X : Ext w w := Ext.refl w
    refine newC_t fun bk1 u1 hb1 ha_u1 _ B1 => ?_
    have g1 := le_eq A.size hb1
    obtain ⟨A, X⟩ := axa2 ha_u1 A X
    refine newC_t fun bk2 u2 hb2 ha_u2 _ B2 => ?_
    have g2 := le_eq A.size hb2
    have l1_2 := lt1 hb2 B1
    replace B1 := B1.ahead ha_u2
    obtain ⟨A, X⟩ := axa2 ha_u2 A X
    refine newC_t fun bk3 u3 hb3 ha_u3 _ B3 => ?_
    have g3 := le_eq A.size hb3
    obtain ⟨_, _⟩ := lt2 hb3 B1 B2
    obtain ⟨B1, B2⟩ := ah2 ha_u3 B1 B2
    obtain ⟨A, X⟩ := axa2 ha_u3 A X
    refine newC_t fun bk4 u4 hb4 ha_u4 _ B4 => ?_
    have g4 := le_eq A.size hb4
    obtain ⟨_, _, _⟩ := lt3 hb4 B1 B2 B3
    obtain ⟨B1, B2, B3⟩ := ah3 ha_u4 B1 B2 B3
    obtain ⟨A, X⟩ := axa2 ha_u4 A X
    refine ldB_t 0 B1 rfl ?_
    refine ldS_t 1 B1 rfl ?_
    refine ldB_t 0 B2 rfl ?_
    refine ldS_t 1 B2 rfl ?_
    replace h := h _ X A
    refine Calls.mono h ?_
    clear h
    rintro e1 w2 ⟨b1, s1, b2, s2, he_, ha_w2, h⟩
    refine ⟨b1, s1, b2, s2, he_, ?_⟩
    clear he_
    obtain ⟨B1, B2, B3, B4⟩ := ah4 ha_w2 B1 B2 B3 B4
    obtain ⟨A, X⟩ := axa2 ha_w2 A X
    replace X : Ext w2 w2 := Ext.refl _
    refine newC_t fun bk5 u5 hb5 ha_u5 _ B5 => ?_
    have g5 := le_eq A.size hb5
    obtain ⟨_, _, _, _⟩ := lt4 hb5 B1 B2 B3 B4
    obtain ⟨B1, B2, B3, B4⟩ := ah4 ha_u5 B1 B2 B3 B4
    obtain ⟨A, X⟩ := axa2 ha_u5 A X
    refine newC_t fun bk6 u6 hb6 ha_u6 _ B6 => ?_
    have g6 := le_eq A.size hb6
    obtain ⟨_, _, _, _, _⟩ := lt5 hb6 B1 B2 B3 B4 B5
    obtain ⟨B1, B2, B3, B4, B5⟩ := ah5 ha_u6 B1 B2 B3 B4 B5
    obtain ⟨A, X⟩ := axa2 ha_u6 A X
    refine st2_t B5 rfl rfl rfl fun u7 k_u7 B5 => ?_
    obtain ⟨B1, B2, B3, B4, B6⟩ := up5 k_u7 B1 B2 B3 B4 B6
    obtain ⟨A, X⟩ := axu2 k_u7 g5 A X
    refine st2_t B6 rfl rfl rfl fun u8 k_u8 B6 => ?_
    obtain ⟨B1, B2, B3, B4, B5⟩ := up5 k_u8 B1 B2 B3 B4 B5
    obtain ⟨A, X⟩ := axu2 k_u8 g6 A X
    refine ldB_t 0 B6 rfl ?_
    refine ldS_t 1 B6 rfl ?_
    replace h := h _ X A
    refine Calls.mono h ?_
    clear h
    rintro e2 w4 ⟨x1, he_, ha_w4, h⟩
    refine ⟨x1, he_, ?_⟩
    clear he_
    obtain ⟨B1, B2, B3, B4, B5, B6⟩ := ah6 ha_w4 B1 B2 B3 B4 B5 B6
    obtain ⟨A, X⟩ := axa2 ha_w4 A X
    replace X : Ext w4 w4 := Ext.refl _
    refine br_map h (fun h_ => ?_) (fun h_ => ?_)
    ·clear h
     have h := h_
     clear h_
     have hd_ := Sp.Ahead.drew w4
     obtain ⟨B1, B2, B3, B4, B5, B6⟩ := ah6 hd_ B1 B2 B3 B4 B5 B6
     obtain ⟨A, X⟩ := axa2 hd_ A X
     clear hd_
     have z1 := B1.lt
     have z2 := B2.lt
     have z3 := B3.lt
     have z4 := B4.lt
     have z5 := B5.lt
     have z6 := B6.lt
     let V_ : Nat → Nat → Prop := fun (q_ k : Nat) => (k = bk3 ∨ k = bk4 ∨ w4.drew.heap.size ≤ k) ∧ 0 ≤ k
     refine ⟨V_, ?_⟩
     have Y_ : w4.drew.heap.size ≤ w4.drew.heap.size := Nat.le_refl _
     refine out_t (b := bk5) (i := 0) (by first | rfl | exact Sp.add_off) (fun hv_ => (by replace hv_ : _ ∧ _ := hv_; omega)) ?_
     refine ldB_t 0 B5 rfl ?_
     refine ldS_t 1 B5 rfl ?_
     refine out_t (b := bk6) (i := 0) (by first | rfl | exact Sp.add_off) (fun hv_ => (by replace hv_ : _ ∧ _ := hv_; omega)) ?_
     refine ldB_t 0 B6 rfl ?_
     refine ldS_t 1 B6 rfl ?_
     refine st2_t B3 rfl rfl rfl fun u9 k_u9 B3 => ?_
     obtain ⟨B1, B2, B4, B5, B6⟩ := up5 k_u9 B1 B2 B4 B5 B6
     obtain ⟨A, X, Y_⟩ := axu3 k_u9 g3 A X Y_
     refine ⟨(k_u9.bar (V := V_ 1) (by show _ ∧ _; omega)), ?_⟩
     refine st2_t B4 rfl rfl rfl fun u10 k_u10 B4 => ?_
     obtain ⟨B1, B2, B3, B5, B6⟩ := up5 k_u10 B1 B2 B3 B5 B6
     obtain ⟨A, X, Y_⟩ := axu3 k_u10 g4 A X Y_
     refine ldB_t 0 B3 rfl ?_
     refine ldS_t 1 B3 rfl ?_
     refine ldB_t 0 B4 rfl ?_
     refine ldS_t 1 B4 rfl ?_
     replace h := h _ X A
     exact ⟨A, h⟩
    ·clear h
     have h := h_
     clear h_
     have hd_ := Sp.Ahead.drew w4
     obtain ⟨B1, B2, B3, B4, B5, B6⟩ := ah6 hd_ B1 B2 B3 B4 B5 B6
     obtain ⟨A, X⟩ := axa2 hd_ A X
     clear hd_
     refine ldB_t 0 B5 rfl ?_
     refine ldS_t 1 B5 rfl ?_
     replace h := h _ X A
     refine Calls.mono h ?_
     clear h
     rintro e3 w7 ⟨b3, s3, he_, ha_w7, h⟩
     refine ⟨b3, s3, he_, ?_⟩
     clear he_
     obtain ⟨B1, B2, B3, B4, B5, B6⟩ := ah6 ha_w7 B1 B2 B3 B4 B5 B6
     obtain ⟨A, X⟩ := axa2 ha_w7 A X
     replace X : Ext w7 w7 := Ext.refl _
     refine ⟨ha_w7, ?_⟩
     refine Calls.mono h ?_
     clear h
     rintro e4 w8 ⟨b4, s4, he_, ha_w8, h⟩
     refine ⟨b4, s4, he_, ?_⟩
     clear he_
     obtain ⟨B1, B2, B3, B4, B5, B6⟩ := ah6 ha_w8 B1 B2 B3 B4 B5 B6
     obtain ⟨A, X⟩ := axa2 ha_w8 A X
     replace X : Ext w8 w8 := Ext.refl _
     refine ⟨ha_w8, ?_⟩
     refine st2_t B5 rfl rfl rfl fun u11 k_u11 B5 => ?_
     obtain ⟨B1, B2, B3, B4, B6⟩ := up5 k_u11 B1 B2 B3 B4 B6
     obtain ⟨A, X⟩ := axu2 k_u11 g5 A X
     have hd_ := Sp.Ahead.drew u11
     obtain ⟨B1, B2, B3, B4, B5, B6⟩ := ah6 hd_ B1 B2 B3 B4 B5 B6
     obtain ⟨A, X⟩ := axa2 hd_ A X
     clear hd_
     have z1 := B1.lt
     have z2 := B2.lt
     have z3 := B3.lt
     have z4 := B4.lt
     have z5 := B5.lt
     have z6 := B6.lt
     let V_ : Nat → Nat → Prop := fun (q_ k : Nat) => (k = bk3 ∨ k = bk4 ∨ u11.drew.heap.size ≤ k) ∧ 0 ≤ k
     refine ⟨V_, ?_⟩
     have Y_ : u11.drew.heap.size ≤ u11.drew.heap.size := Nat.le_refl _
     refine out_t (b := bk5) (i := 0) (by first | rfl | exact Sp.add_off) (fun hv_ => (by replace hv_ : _ ∧ _ := hv_; omega)) ?_
     refine ldB_t 0 B5 rfl ?_
     refine ldS_t 1 B5 rfl ?_
     refine out_t (b := bk1) (i := 0) (by first | rfl | exact Sp.add_off) (fun hv_ => (by replace hv_ : _ ∧ _ := hv_; omega)) ?_
     refine ldB_t 0 B1 rfl ?_
     refine ldS_t 1 B1 rfl ?_
     refine out_t (b := bk5) (i := 0) (by first | rfl | exact Sp.add_off) (fun hv_ => (by replace hv_ : _ ∧ _ := hv_; omega)) ?_
     refine ldB_t 0 B5 rfl ?_
     refine ldS_t 1 B5 rfl ?_
     refine out_t (b := bk2) (i := 0) (by first | rfl | exact Sp.add_off) (fun hv_ => (by replace hv_ : _ ∧ _ := hv_; omega)) ?_
     refine ldB_t 0 B2 rfl ?_
     refine ldS_t 1 B2 rfl ?_
     replace h := h _ X A
     refine Calls.mono h ?_
     clear h
     rintro e5 w10 ⟨b5, s5, he_, ha_w10, h⟩
     refine ⟨b5, s5, he_, ?_⟩
     clear he_
     obtain ⟨B1, B2, B3, B4, B5, B6⟩ := ah6 ha_w10 B1 B2 B3 B4 B5 B6
     obtain ⟨A, X, Y_⟩ := axa3 ha_w10 A X Y_
     replace X : Ext w10 w10 := Ext.refl _
     refine bb2 ha_w10 ?_
     refine Calls.mono h ?_
     clear h
     rintro e6 w11 ⟨b6, s6, he_, ha_w11, h⟩
     refine ⟨b6, s6, he_, ?_⟩
     clear he_
     obtain ⟨B1, B2, B3, B4, B5, B6⟩ := ah6 ha_w11 B1 B2 B3 B4 B5 B6
     obtain ⟨A, X, Y_⟩ := axa3 ha_w11 A X Y_
     replace X : Ext w11 w11 := Ext.refl _
     refine ⟨(Bar.of_ahead ha_w11), ?_⟩
     refine st2_t B3 rfl rfl rfl fun u12 k_u12 B3 => ?_
     obtain ⟨B1, B2, B4, B5, B6⟩ := up5 k_u12 B1 B2 B4 B5 B6
     obtain ⟨A, X, Y_⟩ := axu3 k_u12 g3 A X Y_
     refine st2_t B4 rfl rfl rfl fun u13 k_u13 B4 => ?_
     obtain ⟨B1, B2, B3, B5, B6⟩ := up5 k_u13 B1 B2 B3 B5 B6
     obtain ⟨A, X, Y_⟩ := axu3 k_u13 g4 A X Y_
     refine ldB_t 0 B3 rfl ?_
     refine ldS_t 1 B3 rfl ?_
     refine ldB_t 0 B4 rfl ?_
     refine ldS_t 1 B4 rfl ?_
     replace h := h _ X A
     exact ⟨A, h⟩

/-- surd/surdref06.Near: function 54, its local variables as values. -/
theorem surdref06_Near_v2 (a0_a_0 : Bool) (a0_a_1 : Slc) (a1_b_0 : Bool) (a1_b_1 : Slc) (w : World) (R : Ending → World → Prop)
    (K5 : Bool → Bool → Slc → Bool → Slc → Bool → Slc → Bool → Slc → Bool → Slc → World → Prop) (K6 : Bool → Slc → Bool → Slc → Bool → Slc → Bool → Slc → Bool → Slc → World → Prop)
    (h : ∀ w1, Ext w w1 → Ahead w w1 →
    (Calls Tryd.prog 52 #[Value.agg #[Value.bool a0_a_0, a0_a_1.v], Value.agg #[Value.bool a1_b_0, a1_b_1.v]] w1 fun e1 w2 =>
     ∃ b1 : Bool, ∃ s1 : Slc, ∃ b2 : Bool, ∃ s2 : Slc, e1 = .returned (Value.tuple #[Value.agg #[Value.bool b1, s1.v], Value.agg #[Value.bool b2, s2.v]]) ∧ Ahead w1 w2 ∧
     (∀ w3, Ext w2 w3 → Ahead w w3 →
      (Calls Tryd.prog 50 #[s2.v, Value.int .i64 1] w3 fun e2 w4 =>
       ∃ s3 : Slc, e2 = .returned s3.v ∧ Ahead w3 w4 ∧
       (Calls Tryd.prog 76 #[s3.v, a1_b_1.v] w4 fun e3 w5 =>
        ∃ x1 : Int, e3 = .returned (Value.int .i64 x1) ∧ Ahead w4 w5 ∧
        (br (decide (x1 > 0))
         (K5 true a0_a_0 a0_a_1 a1_b_0 a1_b_1 false (⟨none, 0, 0⟩ : Slc) false (⟨none, 0, 0⟩ : Slc) b1 s1 w5)
         (br (x1 == 0)
          (Calls Tryd.prog 70 #[s1.v, Value.int .i64 0] w5 fun e8 w14 =>
           ∃ x2 : Int, e8 = .returned (Value.int .i64 x2) ∧ Ahead w5 w14 ∧
           (K5 (x2 == 1) a0_a_0 a0_a_1 a1_b_0 a1_b_1 false (⟨none, 0, 0⟩ : Slc) false (⟨none, 0, 0⟩ : Slc) b1 s1 w14))
          (K5 false a0_a_0 a0_a_1 a1_b_0 a1_b_1 false (⟨none, 0, 0⟩ : Slc) false (⟨none, 0, 0⟩ : Slc) b1 s1 w5))))))))
    (h3000005 : ∀ (t32 : Bool) (t2_a_0 : Bool) (t2_a_1 : Slc) (t3_b_0 : Bool) (t3_b_1 : Slc) (t4_0 : Bool) (t4_1 : Slc) (t5_0 : Bool) (t5_1 : Slc) (t6_q_0 : Bool) (t6_q_1 : Slc) (w_ : World), Ahead w w_ → K5 t32 t2_a_0 t2_a_1 t3_b_0 t3_b_1 t4_0 t4_1 t5_0 t5_1 t6_q_0 t6_q_1 w_ → 
    br t32
    (∀ w6, Ext w_ w6 → Ahead w w6 →
     (Calls Tryd.prog 62 #[Value.int .i64 1] w6 fun e4 w7 =>
      ∃ b3 : Bool, ∃ s4 : Slc, e4 = .returned (Value.agg #[Value.bool b3, s4.v]) ∧ Ahead w6 w7 ∧
      (Calls Tryd.prog 75 #[Value.agg #[Value.bool t6_q_0, t6_q_1.v], Value.agg #[Value.bool b3, s4.v]] w7 fun e5 w8 =>
       ∃ b4 : Bool, ∃ s5 : Slc, e5 = .returned (Value.agg #[Value.bool b4, s5.v]) ∧ Ahead w7 w8 ∧
       (∀ w13, Ext w8 w13 → Ahead w w13 →
        (K6 t2_a_0 t2_a_1 t3_b_0 t3_b_1 t4_0 t4_1 t5_0 t5_1 b4 s5 w13)))))
    (K6 t2_a_0 t2_a_1 t3_b_0 t3_b_1 t4_0 t4_1 t5_0 t5_1 t6_q_0 t6_q_1 w_))
    (h3000006 : ∀ (t2_a_0 : Bool) (t2_a_1 : Slc) (t3_b_0 : Bool) (t3_b_1 : Slc) (t4_0 : Bool) (t4_1 : Slc) (t5_0 : Bool) (t5_1 : Slc) (t6_q_0 : Bool) (t6_q_1 : Slc) (w_ : World), Ahead w w_ → K6 t2_a_0 t2_a_1 t3_b_0 t3_b_1 t4_0 t4_1 t5_0 t5_1 t6_q_0 t6_q_1 w_ → 
    ∀ w9, Ext w_ w9 → Ahead w w9 →
    (Calls Tryd.prog 55 #[Value.agg #[Value.bool t6_q_0, t6_q_1.v], Value.agg #[Value.bool t3_b_0, t3_b_1.v]] w9 fun e6 w10 =>
     ∃ b5 : Bool, ∃ s6 : Slc, e6 = .returned (Value.agg #[Value.bool b5, s6.v]) ∧ Ahead w9 w10 ∧
     (Calls Tryd.prog 74 #[Value.agg #[Value.bool t2_a_0, t2_a_1.v], Value.agg #[Value.bool b5, s6.v]] w10 fun e7 w11 =>
      ∃ b6 : Bool, ∃ s7 : Slc, e7 = .returned (Value.agg #[Value.bool b6, s7.v]) ∧ Ahead w10 w11 ∧
      (∀ w12, Ext w11 w12 → Ahead w w12 →
       (R (.returned (Value.tuple #[Value.agg #[Value.bool t6_q_0, t6_q_1.v], Value.agg #[Value.bool b6, s7.v]])) w12))))) :
    Calls Tryd.prog 54 #[Value.agg #[Value.bool a0_a_0, a0_a_1.v], Value.agg #[Value.bool a1_b_0, a1_b_1.v]] w (fun e_ w_ => Ahead w w_ ∧ R e_ w_) := by
  refine surdref06_Near_vc a0_a_0 a0_a_1 a1_b_0 a1_b_1 w _ (fun t2_a t3_b t4 t5 t6_q t32 w_ => ∃ c2_ : Nat, ∃ c3_ : Nat, ∃ c4_ : Nat, ∃ c5_ : Nat, ∃ c6_ : Nat, ∃ t2_a_0 : Bool, ∃ t2_a_1 : Slc, ∃ t3_b_0 : Bool, ∃ t3_b_1 : Slc, ∃ t4_0 : Bool, ∃ t4_1 : Slc, ∃ t5_0 : Bool, ∃ t5_1 : Slc, ∃ t6_q_0 : Bool, ∃ t6_q_1 : Slc, t2_a = ⟨c2_, 0, none⟩ ∧ Blt w_ c2_ 27 #[Value.bool t2_a_0, t2_a_1.v] ∧ w.heap.size ≤ c2_ ∧ t3_b = ⟨c3_, 0, none⟩ ∧ Blt w_ c3_ 27 #[Value.bool t3_b_0, t3_b_1.v] ∧ w.heap.size ≤ c3_ ∧ t4 = ⟨c4_, 0, none⟩ ∧ Blt w_ c4_ 27 #[Value.bool t4_0, t4_1.v] ∧ w.heap.size ≤ c4_ ∧ t5 = ⟨c5_, 0, none⟩ ∧ Blt w_ c5_ 27 #[Value.bool t5_0, t5_1.v] ∧ w.heap.size ≤ c5_ ∧ t6_q = ⟨c6_, 0, none⟩ ∧ Blt w_ c6_ 27 #[Value.bool t6_q_0, t6_q_1.v] ∧ w.heap.size ≤ c6_ ∧ c2_ ≠ c3_ ∧ c2_ ≠ c4_ ∧ c2_ ≠ c5_ ∧ c2_ ≠ c6_ ∧ c3_ ≠ c4_ ∧ c3_ ≠ c5_ ∧ c3_ ≠ c6_ ∧ c4_ ≠ c5_ ∧ c4_ ≠ c6_ ∧ c5_ ≠ c6_ ∧ Ahead w w_ ∧ K5 t32 t2_a_0 t2_a_1 t3_b_0 t3_b_1 t4_0 t4_1 t5_0 t5_1 t6_q_0 t6_q_1 w_) (fun t2_a t3_b t4 t5 t6_q w_ => ∃ c2_ : Nat, ∃ c3_ : Nat, ∃ c4_ : Nat, ∃ c5_ : Nat, ∃ c6_ : Nat, ∃ t2_a_0 : Bool, ∃ t2_a_1 : Slc, ∃ t3_b_0 : Bool, ∃ t3_b_1 : Slc, ∃ t4_0 : Bool, ∃ t4_1 : Slc, ∃ t5_0 : Bool, ∃ t5_1 : Slc, ∃ t6_q_0 : Bool, ∃ t6_q_1 : Slc, t2_a = ⟨c2_, 0, none⟩ ∧ Blt w_ c2_ 27 #[Value.bool t2_a_0, t2_a_1.v] ∧ w.heap.size ≤ c2_ ∧ t3_b = ⟨c3_, 0, none⟩ ∧ Blt w_ c3_ 27 #[Value.bool t3_b_0, t3_b_1.v] ∧ w.heap.size ≤ c3_ ∧ t4 = ⟨c4_, 0, none⟩ ∧ Blt w_ c4_ 27 #[Value.bool t4_0, t4_1.v] ∧ w.heap.size ≤ c4_ ∧ t5 = ⟨c5_, 0, none⟩ ∧ Blt w_ c5_ 27 #[Value.bool t5_0, t5_1.v] ∧ w.heap.size ≤ c5_ ∧ t6_q = ⟨c6_, 0, none⟩ ∧ Blt w_ c6_ 27 #[Value.bool t6_q_0, t6_q_1.v] ∧ w.heap.size ≤ c6_ ∧ c2_ ≠ c3_ ∧ c2_ ≠ c4_ ∧ c2_ ≠ c5_ ∧ c2_ ≠ c6_ ∧ c3_ ≠ c4_ ∧ c3_ ≠ c5_ ∧ c3_ ≠ c6_ ∧ c4_ ≠ c5_ ∧ c4_ ≠ c6_ ∧ c5_ ≠ c6_ ∧ Ahead w w_ ∧ K6 t2_a_0 t2_a_1 t3_b_0 t3_b_1 t4_0 t4_1 t5_0 t5_1 t6_q_0 t6_q_1 w_) ?_ ?_ ?_
  · have A : Ahead w w := Ahead.refl w
    have X : Ext w w := Ext.refl w
    refine newC_t fun bk1 u1 hb1 ha_u1 _ B1 => ?_
    have g1 := le_eq A.size hb1
    obtain ⟨A, X⟩ := axa2 ha_u1 A X
    refine newC_t fun bk2 u2 hb2 ha_u2 _ B2 => ?_
    have g2 := le_eq A.size hb2
    have l1_2 := lt1 hb2 B1
    replace B1 := B1.ahead ha_u2
    obtain ⟨A, X⟩ := axa2 ha_u2 A X
    refine newC_t fun bk3 u3 hb3 ha_u3 _ B3 => ?_
    have g3 := le_eq A.size hb3
    obtain ⟨_, _⟩ := lt2 hb3 B1 B2
    obtain ⟨B1, B2⟩ := ah2 ha_u3 B1 B2
    obtain ⟨A, X⟩ := axa2 ha_u3 A X
    refine newC_t fun bk4 u4 hb4 ha_u4 _ B4 => ?_
    have g4 := le_eq A.size hb4
    obtain ⟨_, _, _⟩ := lt3 hb4 B1 B2 B3
    obtain ⟨B1, B2, B3⟩ := ah3 ha_u4 B1 B2 B3
    obtain ⟨A, X⟩ := axa2 ha_u4 A X
    refine ldB_t 0 B1 rfl ?_
    refine ldS_t 1 B1 rfl ?_
    refine ldB_t 0 B2 rfl ?_
    refine ldS_t 1 B2 rfl ?_
    replace h := h _ X A
    refine Calls.mono h ?_
    clear h
    rintro e1 w2 ⟨b1, s1, b2, s2, he_, ha_w2, h⟩
    refine ⟨b1, s1, b2, s2, he_, ?_⟩
    clear he_
    obtain ⟨B1, B2, B3, B4⟩ := ah4 ha_w2 B1 B2 B3 B4
    obtain ⟨A, X⟩ := axa2 ha_w2 A X
    replace X : Ext w2 w2 := Ext.refl _
    refine newC_t fun bk5 u5 hb5 ha_u5 _ B5 => ?_
    have g5 := le_eq A.size hb5
    obtain ⟨_, _, _, _⟩ := lt4 hb5 B1 B2 B3 B4
    obtain ⟨B1, B2, B3, B4⟩ := ah4 ha_u5 B1 B2 B3 B4
    obtain ⟨A, X⟩ := axa2 ha_u5 A X
    refine newC_t fun bk6 u6 hb6 ha_u6 _ B6 => ?_
    have g6 := le_eq A.size hb6
    obtain ⟨_, _, _, _, _⟩ := lt5 hb6 B1 B2 B3 B4 B5
    obtain ⟨B1, B2, B3, B4, B5⟩ := ah5 ha_u6 B1 B2 B3 B4 B5
    obtain ⟨A, X⟩ := axa2 ha_u6 A X
    refine st2_t B5 rfl rfl rfl fun u7 k_u7 B5 => ?_
    obtain ⟨B1, B2, B3, B4, B6⟩ := up5 k_u7 B1 B2 B3 B4 B6
    obtain ⟨A, X⟩ := axu2 k_u7 g5 A X
    refine st2_t B6 rfl rfl rfl fun u8 k_u8 B6 => ?_
    obtain ⟨B1, B2, B3, B4, B5⟩ := up5 k_u8 B1 B2 B3 B4 B5
    obtain ⟨A, X⟩ := axu2 k_u8 g6 A X
    have hd_ := Sp.Ahead.drew u8
    obtain ⟨B1, B2, B3, B4, B5, B6⟩ := ah6 hd_ B1 B2 B3 B4 B5 B6
    obtain ⟨A, X⟩ := axa2 hd_ A X
    clear hd_
    refine ldS_t 1 B6 rfl ?_
    refine ldS_t 1 B2 rfl ?_
    replace h := h _ X A
    refine Calls.mono h ?_
    clear h
    rintro e2 w4 ⟨s3, he_, ha_w4, h⟩
    refine ⟨s3, he_, ?_⟩
    clear he_
    obtain ⟨B1, B2, B3, B4, B5, B6⟩ := ah6 ha_w4 B1 B2 B3 B4 B5 B6
    obtain ⟨A, X⟩ := axa2 ha_w4 A X
    replace X : Ext w4 w4 := Ext.refl _
    refine ⟨ha_w4, ?_⟩
    refine Calls.mono h ?_
    clear h
    rintro e3 w5 ⟨x1, he_, ha_w5, h⟩
    refine ⟨x1, he_, ?_⟩
    clear he_
    obtain ⟨B1, B2, B3, B4, B5, B6⟩ := ah6 ha_w5 B1 B2 B3 B4 B5 B6
    obtain ⟨A, X⟩ := axa2 ha_w5 A X
    replace X : Ext w5 w5 := Ext.refl _
    refine ⟨ha_w5, ?_⟩
    refine br_map h (fun h_ => ?_) (fun h_ => ?_)
    ·clear h
     have h := h_
     clear h_
     refine ⟨bk1, bk2, bk3, bk4, bk5, a0_a_0, a0_a_1, a1_b_0, a1_b_1, false, (⟨none, 0, 0⟩ : Slc), false, (⟨none, 0, 0⟩ : Slc), b1, s1, rfl, B1, g1, rfl, B2, g2, rfl, B3, g3, rfl, B4, g4, rfl, B5, g5, ?_⟩
     iterate 10 refine nd ?_
     exact ⟨A, h⟩
    ·clear h
     have h := h_
     clear h_
     refine br_map h (fun h_ => ?_) (fun h_ => ?_)
     ·clear h
      have h := h_
      clear h_
      refine ldS_t 1 B5 rfl ?_
      refine Calls.mono h ?_
      clear h
      rintro e8 w14 ⟨x2, he_, ha_w14, h⟩
      refine ⟨x2, he_, ?_⟩
      clear he_
      obtain ⟨B1, B2, B3, B4, B5, B6⟩ := ah6 ha_w14 B1 B2 B3 B4 B5 B6
      obtain ⟨A, X⟩ := axa2 ha_w14 A X
      replace X : Ext w14 w14 := Ext.refl _
      refine ⟨bk1, bk2, bk3, bk4, bk5, a0_a_0, a0_a_1, a1_b_0, a1_b_1, false, (⟨none, 0, 0⟩ : Slc), false, (⟨none, 0, 0⟩ : Slc), b1, s1, rfl, B1, g1, rfl, B2, g2, rfl, B3, g3, rfl, B4, g4, rfl, B5, g5, ?_⟩
      iterate 10 refine nd ?_
      exact ⟨A, h⟩
     ·clear h
      have h := h_
      clear h_
      refine ⟨bk1, bk2, bk3, bk4, bk5, a0_a_0, a0_a_1, a1_b_0, a1_b_1, false, (⟨none, 0, 0⟩ : Slc), false, (⟨none, 0, 0⟩ : Slc), b1, s1, rfl, B1, g1, rfl, B2, g2, rfl, B3, g3, rfl, B4, g4, rfl, B5, g5, ?_⟩
      iterate 10 refine nd ?_
      exact ⟨A, h⟩
  · clear h
    intro t2_a t3_b t4 t5 t6_q t32 w_
    refine exE fun bk1 => exE fun bk2 => exE fun bk3 => exE fun bk4 => exE fun bk5 => exE fun t2_a_0 => exE fun t2_a_1 => exE fun t3_b_0 => exE fun t3_b_1 => exE fun t4_0 => exE fun t4_1 => exE fun t5_0 => exE fun t5_1 => exE fun t6_q_0 => exE fun t6_q_1 => anE fun e_0 => anE fun B1 => anE fun g1 => anE fun e_1 => anE fun B2 => anE fun g2 => anE fun e_2 => anE fun B3 => anE fun g3 => anE fun e_3 => anE fun B4 => anE fun g4 => anE fun e_4 => anE fun B5 => anE fun g5 => anE fun n1_2 => anE fun n1_3 => anE fun n1_4 => anE fun n1_5 => anE fun n2_3 => anE fun n2_4 => anE fun n2_5 => anE fun n3_4 => anE fun n3_5 => anE fun n4_5 => anE fun A => fun hJ3000005 => ?_
    subst e_0
    subst e_1
    subst e_2
    subst e_3
    subst e_4
    have h := h3000005  t32 t2_a_0 t2_a_1 t3_b_0 t3_b_1 t4_0 t4_1 t5_0 t5_1 t6_q_0 t6_q_1 w_ A hJ3000005
    have X : Ext w_ w_ := Ext.refl _
    refine br_map h (fun h_ => ?_) (fun h_ => ?_)
    ·clear h
     have h := h_
     clear h_
     have hd_ := Sp.Ahead.drew w_
     obtain ⟨B1, B2, B3, B4, B5⟩ := ah5 hd_ B1 B2 B3 B4 B5
     obtain ⟨A, X⟩ := axa2 hd_ A X
     clear hd_
     refine ldB_t 0 B5 rfl ?_
     refine ldS_t 1 B5 rfl ?_
     replace h := h _ X A
     refine Calls.mono h ?_
     clear h
     rintro e4 w7 ⟨b3, s4, he_, ha_w7, h⟩
     refine ⟨b3, s4, he_, ?_⟩
     clear he_
     obtain ⟨B1, B2, B3, B4, B5⟩ := ah5 ha_w7 B1 B2 B3 B4 B5
     obtain ⟨A, X⟩ := axa2 ha_w7 A X
     replace X : Ext w7 w7 := Ext.refl _
     refine ⟨ha_w7, ?_⟩
     refine Calls.mono h ?_
     clear h
     rintro e5 w8 ⟨b4, s5, he_, ha_w8, h⟩
     refine ⟨b4, s5, he_, ?_⟩
     clear he_
     obtain ⟨B1, B2, B3, B4, B5⟩ := ah5 ha_w8 B1 B2 B3 B4 B5
     obtain ⟨A, X⟩ := axa2 ha_w8 A X
     replace X : Ext w8 w8 := Ext.refl _
     refine ⟨ha_w8, ?_⟩
     refine st2_t B5 rfl rfl rfl fun u9 k_u9 B5 => ?_
     obtain ⟨B1, B2, B3, B4⟩ := up4 k_u9 B1 B2 B3 B4
     obtain ⟨A, X⟩ := axu2 k_u9 g5 A X
     replace h := h _ X A
     refine ⟨bk1, bk2, bk3, bk4, bk5, t2_a_0, t2_a_1, t3_b_0, t3_b_1, t4_0, t4_1, t5_0, t5_1, b4, s5, rfl, B1, g1, rfl, B2, g2, rfl, B3, g3, rfl, B4, g4, rfl, B5, g5, ?_⟩
     iterate 10 refine nd ?_
     exact ⟨A, h⟩
    ·clear h
     have h := h_
     clear h_
     refine ⟨bk1, bk2, bk3, bk4, bk5, t2_a_0, t2_a_1, t3_b_0, t3_b_1, t4_0, t4_1, t5_0, t5_1, t6_q_0, t6_q_1, rfl, B1, g1, rfl, B2, g2, rfl, B3, g3, rfl, B4, g4, rfl, B5, g5, ?_⟩
     iterate 10 refine nd ?_
     exact ⟨A, h⟩
  · clear h
    intro t2_a t3_b t4 t5 t6_q w_
    refine exE fun bk1 => exE fun bk2 => exE fun bk3 => exE fun bk4 => exE fun bk5 => exE fun t2_a_0 => exE fun t2_a_1 => exE fun t3_b_0 => exE fun t3_b_1 => exE fun t4_0 => exE fun t4_1 => exE fun t5_0 => exE fun t5_1 => exE fun t6_q_0 => exE fun t6_q_1 => anE fun e_0 => anE fun B1 => anE fun g1 => anE fun e_1 => anE fun B2 => anE fun g2 => anE fun e_2 => anE fun B3 => anE fun g3 => anE fun e_3 => anE fun B4 => anE fun g4 => anE fun e_4 => anE fun B5 => anE fun g5 => anE fun n1_2 => anE fun n1_3 => anE fun n1_4 => anE fun n1_5 => anE fun n2_3 => anE fun n2_4 => anE fun n2_5 => anE fun n3_4 => anE fun n3_5 => anE fun n4_5 => anE fun A => fun hJ3000006 => ?_
    subst e_0
    subst e_1
    subst e_2
    subst e_3
    subst e_4
    have h := h3000006  t2_a_0 t2_a_1 t3_b_0 t3_b_1 t4_0 t4_1 t5_0 t5_1 t6_q_0 t6_q_1 w_ A hJ3000006
    have X : Ext w_ w_ := Ext.refl _
    have hd_ := Sp.Ahead.drew w_
    obtain ⟨B1, B2, B3, B4, B5⟩ := ah5 hd_ B1 B2 B3 B4 B5
    obtain ⟨A, X⟩ := axa2 hd_ A X
    clear hd_
    have z1 := B1.lt
    have z2 := B2.lt
    have z3 := B3.lt
    have z4 := B4.lt
    have z5 := B5.lt
    let V_ : Nat → Nat → Prop := fun (q_ k : Nat) => (k = bk3 ∨ k = bk4 ∨ w_.drew.heap.size ≤ k) ∧ 0 ≤ k
    refine ⟨V_, ?_⟩
    have Y_ : w_.drew.heap.size ≤ w_.drew.heap.size := Nat.le_refl _
    refine out_t (b := bk5) (i := 0) (by first | rfl | exact Sp.add_off) (fun hv_ => (by replace hv_ : _ ∧ _ := hv_; omega)) ?_
    refine ldB_t 0 B5 rfl ?_
    refine ldS_t 1 B5 rfl ?_
    refine out_t (b := bk1) (i := 0) (by first | rfl | exact Sp.add_off) (fun hv_ => (by replace hv_ : _ ∧ _ := hv_; omega)) ?_
    refine ldB_t 0 B1 rfl ?_
    refine ldS_t 1 B1 rfl ?_
    refine out_t (b := bk5) (i := 0) (by first | rfl | exact Sp.add_off) (fun hv_ => (by replace hv_ : _ ∧ _ := hv_; omega)) ?_
    refine ldB_t 0 B5 rfl ?_
    refine ldS_t 1 B5 rfl ?_
    refine out_t (b := bk2) (i := 0) (by first | rfl | exact Sp.add_off) (fun hv_ => (by replace hv_ : _ ∧ _ := hv_; omega)) ?_
    refine ldB_t 0 B2 rfl ?_
    refine ldS_t 1 B2 rfl ?_
    replace h := h _ X A
    refine Calls.mono h ?_
    clear h
    rintro e6 w10 ⟨b5, s6, he_, ha_w10, h⟩
    refine ⟨b5, s6, he_, ?_⟩
    clear he_
    obtain ⟨B1, B2, B3, B4, B5⟩ := ah5 ha_w10 B1 B2 B3 B4 B5
    obtain ⟨A, X, Y_⟩ := axa3 ha_w10 A X Y_
    replace X : Ext w10 w10 := Ext.refl _
    refine bb2 ha_w10 ?_
    refine Calls.mono h ?_
    clear h
    rintro e7 w11 ⟨b6, s7, he_, ha_w11, h⟩
    refine ⟨b6, s7, he_, ?_⟩
    clear he_
    obtain ⟨B1, B2, B3, B4, B5⟩ := ah5 ha_w11 B1 B2 B3 B4 B5
    obtain ⟨A, X, Y_⟩ := axa3 ha_w11 A X Y_
    replace X : Ext w11 w11 := Ext.refl _
    refine ⟨(Bar.of_ahead ha_w11), ?_⟩
    refine st2_t B3 rfl rfl rfl fun u10 k_u10 B3 => ?_
    obtain ⟨B1, B2, B4, B5⟩ := up4 k_u10 B1 B2 B4 B5
    obtain ⟨A, X, Y_⟩ := axu3 k_u10 g3 A X Y_
    refine st2_t B4 rfl rfl rfl fun u11 k_u11 B4 => ?_
    obtain ⟨B1, B2, B3, B5⟩ := up4 k_u11 B1 B2 B3 B5
    obtain ⟨A, X, Y_⟩ := axu3 k_u11 g4 A X Y_
    refine ldB_t 0 B3 rfl ?_
    refine ldS_t 1 B3 rfl ?_
    refine ldB_t 0 B4 rfl ?_
    refine ldS_t 1 B4 rfl ?_
    replace h := h _ X A
    exact ⟨A, h⟩

/-- surd/surdref08.Round: function 17, its local variables as values. -/
theorem surdref08_Round_v2 (a0_0 : Bool) (a0_1 : Slc) (a0_2 : Int) (a1 : Int) (a2 : Int) (w : World) (R : Ending → World → Prop)
    
    (h : ∀ w1, Ext w w1 → Ahead w w1 →
    (Calls Tryd.prog 43 #[Value.agg #[Value.bool a0_0, a0_1.v]] w1 fun e1 w2 =>
     ∃ x1 : Int, e1 = .returned (Value.int .i64 x1) ∧ Ahead w1 w2 ∧
     (br (x1 == 0)
      (∀ w3, Ext w2 w3 → Ahead w w3 →
       (R (.returned (Value.agg #[Value.bool a0_0, a0_1.v, Value.int .i64 a0_2])) w3))
      (br (decide (a1 ≤ a0_2))
       (∀ w4, Ext w2 w4 → Ahead w w4 →
        (R (.returned (Value.agg #[Value.bool a0_0, a0_1.v, Value.int .i64 a0_2])) w4))
       (Calls Tryd.prog 49 #[a0_1.v] w2 fun e2 w5 =>
        ∃ x2 : Int, e2 = .returned (Value.int .i64 x2) ∧ Ahead w2 w5 ∧
        (br (decide ((IntKind.i64.wrap (a1 - a0_2)) > (IntKind.i64.wrap (x2 + 2))))
         (br (a2 == 0)
          (br a0_0
           (Calls Tryd.prog 34 #[Value.int .i64 (-1), Value.int .i64 a1] w5 fun e3 w6 =>
            ∃ b1 : Bool, ∃ s1 : Slc, ∃ x3 : Int, e3 = .returned (Value.agg #[Value.bool b1, s1.v, Value.int .i64 x3]) ∧ Ahead w5 w6 ∧
            (∀ w7, Ext w6 w7 → Ahead w w7 →
             (R (.returned (Value.agg #[Value.bool b1, s1.v, Value.int .i64 x3])) w7)))
           (br (a2 == 1)
            (br (!a0_0)
             (Calls Tryd.prog 34 #[Value.int .i64 1, Value.int .i64 a1] w5 fun e4 w8 =>
              ∃ b2 : Bool, ∃ s2 : Slc, ∃ x4 : Int, e4 = .returned (Value.agg #[Value.bool b2, s2.v, Value.int .i64 x4]) ∧ Ahead w5 w8 ∧
              (∀ w9, Ext w8 w9 → Ahead w w9 →
               (R (.returned (Value.agg #[Value.bool b2, s2.v, Value.int .i64 x4])) w9)))
             (∀ w10, Ext w5 w10 → Ahead w w10 →
              (R (.returned (Value.agg #[Value.bool (false), ((⟨none, 0, 0⟩ : Slc)).v, Value.int .i64 (0 : Int)])) w10)))
            (∀ w11, Ext w5 w11 → Ahead w w11 →
             (R (.returned (Value.agg #[Value.bool (false), ((⟨none, 0, 0⟩ : Slc)).v, Value.int .i64 (0 : Int)])) w11))))
          (br (a2 == 1)
           (br (!a0_0)
            (Calls Tryd.prog 34 #[Value.int .i64 1, Value.int .i64 a1] w5 fun e5 w12 =>
             ∃ b3 : Bool, ∃ s3 : Slc, ∃ x5 : Int, e5 = .returned (Value.agg #[Value.bool b3, s3.v, Value.int .i64 x5]) ∧ Ahead w5 w12 ∧
             (∀ w13, Ext w12 w13 → Ahead w w13 →
              (R (.returned (Value.agg #[Value.bool b3, s3.v, Value.int .i64 x5])) w13)))
            (∀ w14, Ext w5 w14 → Ahead w w14 →
             (R (.returned (Value.agg #[Value.bool (false), ((⟨none, 0, 0⟩ : Slc)).v, Value.int .i64 (0 : Int)])) w14)))
           (∀ w15, Ext w5 w15 → Ahead w w15 →
            (R (.returned (Value.agg #[Value.bool (false), ((⟨none, 0, 0⟩ : Slc)).v, Value.int .i64 (0 : Int)])) w15))))
         (Calls Tryd.prog 51 #[Value.int .i64 1] w5 fun e6 w16 =>
          ∃ s4 : Slc, e6 = .returned s4.v ∧ Ahead w5 w16 ∧
          (Calls Tryd.prog 50 #[s4.v, Value.int .i64 (IntKind.i64.wrap (a1 - a0_2))] w16 fun e7 w17 =>
           ∃ s5 : Slc, e7 = .returned s5.v ∧ Ahead w16 w17 ∧
           (br (a2 == 0)
            (∀ w18, Ext w17 w18 → Ahead w w18 →
             (Calls Tryd.prog 52 #[Value.agg #[Value.bool a0_0, a0_1.v], Value.agg #[Value.bool (false), s5.v]] w18 fun e8 w19 =>
              ∃ b4 : Bool, ∃ s6 : Slc, ∃ b5 : Bool, ∃ s7 : Slc, e8 = .returned (Value.tuple #[Value.agg #[Value.bool b4, s6.v], Value.agg #[Value.bool b5, s7.v]]) ∧ Ahead w18 w19 ∧
              (∀ w20, Ext w19 w20 → Ahead w w20 →
               (Calls Tryd.prog 14 #[Value.agg #[Value.bool b4, s6.v], Value.int .i64 a1] w20 fun e9 w21 =>
                ∃ b6 : Bool, ∃ s8 : Slc, ∃ x6 : Int, e9 = .returned (Value.agg #[Value.bool b6, s8.v, Value.int .i64 x6]) ∧ Ahead w20 w21 ∧
                (∀ w22, Ext w21 w22 → Ahead w w22 →
                 (R (.returned (Value.agg #[Value.bool b6, s8.v, Value.int .i64 x6])) w22))))))
            (br (a2 == 1)
             (∀ w23, Ext w17 w23 → Ahead w w23 →
              (Calls Tryd.prog 53 #[Value.agg #[Value.bool a0_0, a0_1.v], Value.agg #[Value.bool (false), s5.v]] w23 fun e10 w24 =>
               ∃ b7 : Bool, ∃ s9 : Slc, ∃ b8 : Bool, ∃ s10 : Slc, e10 = .returned (Value.tuple #[Value.agg #[Value.bool b7, s9.v], Value.agg #[Value.bool b8, s10.v]]) ∧ Ahead w23 w24 ∧
               (∀ w25, Ext w24 w25 → Ahead w w25 →
                (Calls Tryd.prog 14 #[Value.agg #[Value.bool b7, s9.v], Value.int .i64 a1] w25 fun e11 w26 =>
                 ∃ b9 : Bool, ∃ s11 : Slc, ∃ x7 : Int, e11 = .returned (Value.agg #[Value.bool b9, s11.v, Value.int .i64 x7]) ∧ Ahead w25 w26 ∧
                 (∀ w27, Ext w26 w27 → Ahead w w27 →
                  (R (.returned (Value.agg #[Value.bool b9, s11.v, Value.int .i64 x7])) w27))))))
             (∀ w28, Ext w17 w28 → Ahead w w28 →
              (Calls Tryd.prog 54 #[Value.agg #[Value.bool a0_0, a0_1.v], Value.agg #[Value.bool (false), s5.v]] w28 fun e12 w29 =>
               ∃ b10 : Bool, ∃ s12 : Slc, ∃ b11 : Bool, ∃ s13 : Slc, e12 = .returned (Value.tuple #[Value.agg #[Value.bool b10, s12.v], Value.agg #[Value.bool b11, s13.v]]) ∧ Ahead w28 w29 ∧
               (∀ w30, Ext w29 w30 → Ahead w w30 →
                (Calls Tryd.prog 14 #[Value.agg #[Value.bool b10, s12.v], Value.int .i64 a1] w30 fun e13 w31 =>
                 ∃ b12 : Bool, ∃ s14 : Slc, ∃ x8 : Int, e13 = .returned (Value.agg #[Value.bool b12, s14.v, Value.int .i64 x8]) ∧ Ahead w30 w31 ∧
                 (∀ w32, Ext w31 w32 → Ahead w w32 →
                  (R (.returned (Value.agg #[Value.bool b12, s14.v, Value.int .i64 x8])) w32))))))))))))))))
     :
    Calls Tryd.prog 17 #[Value.agg #[Value.bool a0_0, a0_1.v, Value.int .i64 a0_2], Value.int .i64 a1, Value.int .i64 a2] w (fun e_ w_ => Ahead w w_ ∧ R e_ w_) := by
  refine surdref08_Round_vc a0_0 a0_1 a0_2 a1 a2 w _  ?_
  · have A : Ahead w w := Ahead.refl w
    have X : Ext w w := Ext.refl w
    refine newC_t fun bk1 u1 hb1 ha_u1 _ B1 => ?_
    have g1 := le_eq A.size hb1
    obtain ⟨A, X⟩ := axa2 ha_u1 A X
    refine newC_t fun bk2 u2 hb2 ha_u2 _ B2 => ?_
    have g2 := le_eq A.size hb2
    have l1_2 := lt1 hb2 B1
    replace B1 := B1.ahead ha_u2
    obtain ⟨A, X⟩ := axa2 ha_u2 A X
    refine ldB_t 0 B1 rfl ?_
    refine ldS_t 1 B1 rfl ?_
    replace h := h _ X A
    refine Calls.mono h ?_
    clear h
    rintro e1 w2 ⟨x1, he_, ha_w2, h⟩
    refine ⟨x1, he_, ?_⟩
    clear he_
    obtain ⟨B1, B2⟩ := ah2 ha_w2 B1 B2
    obtain ⟨A, X⟩ := axa2 ha_w2 A X
    replace X : Ext w2 w2 := Ext.refl _
    refine br_map h (fun h_ => ?_) (fun h_ => ?_)
    ·clear h
     have h := h_
     clear h_
     refine ldB_t 0 B1 rfl ?_
     refine ldS_t 1 B1 rfl ?_
     refine ldI_t 2 B1 rfl ?_
     refine st3_t B2 rfl rfl rfl rfl fun u3 k_u3 B2 => ?_
     replace B1 := up1 k_u3 B1
     obtain ⟨A, X⟩ := axu2 k_u3 g2 A X
     refine ldB_t 0 B2 rfl ?_
     refine ldS_t 1 B2 rfl ?_
     refine ldI_t 2 B2 rfl ?_
     replace h := h _ X A
     exact ⟨A, h⟩
    ·clear h
     have h := h_
     clear h_
     refine ldI_t 2 B1 rfl ?_
     refine br_map h (fun h_ => ?_) (fun h_ => ?_)
     ·clear h
      have h := h_
      clear h_
      refine ldB_t 0 B1 rfl ?_
      refine ldS_t 1 B1 rfl ?_
      refine ldI_t 2 B1 rfl ?_
      refine st3_t B2 rfl rfl rfl rfl fun u4 k_u4 B2 => ?_
      replace B1 := up1 k_u4 B1
      obtain ⟨A, X⟩ := axu2 k_u4 g2 A X
      refine ldB_t 0 B2 rfl ?_
      refine ldS_t 1 B2 rfl ?_
      refine ldI_t 2 B2 rfl ?_
      replace h := h _ X A
      exact ⟨A, h⟩
     ·clear h
      have h := h_
      clear h_
      refine ldI_t 2 B1 rfl ?_
      refine ldS_t 1 B1 rfl ?_
      refine Calls.mono h ?_
      clear h
      rintro e2 w5 ⟨x2, he_, ha_w5, h⟩
      refine ⟨x2, he_, ?_⟩
      clear he_
      obtain ⟨B1, B2⟩ := ah2 ha_w5 B1 B2
      obtain ⟨A, X⟩ := axa2 ha_w5 A X
      replace X : Ext w5 w5 := Ext.refl _
      refine br_map h (fun h_ => ?_) (fun h_ => ?_)
      ·clear h
       have h := h_
       clear h_
       refine br_map h (fun h_ => ?_) (fun h_ => ?_)
       ·clear h
        have h := h_
        clear h_
        refine ldB_t 0 B1 rfl ?_
        refine br_map h (fun h_ => ?_) (fun h_ => ?_)
        ·clear h
         have h := h_
         clear h_
         refine Calls.mono h ?_
         clear h
         rintro e3 w6 ⟨b1, s1, x3, he_, ha_w6, h⟩
         refine ⟨b1, s1, x3, he_, ?_⟩
         clear he_
         obtain ⟨B1, B2⟩ := ah2 ha_w6 B1 B2
         obtain ⟨A, X⟩ := axa2 ha_w6 A X
         replace X : Ext w6 w6 := Ext.refl _
         refine st3_t B2 rfl rfl rfl rfl fun u5 k_u5 B2 => ?_
         replace B1 := up1 k_u5 B1
         obtain ⟨A, X⟩ := axu2 k_u5 g2 A X
         refine ldB_t 0 B2 rfl ?_
         refine ldS_t 1 B2 rfl ?_
         refine ldI_t 2 B2 rfl ?_
         replace h := h _ X A
         exact ⟨A, h⟩
        ·clear h
         have h := h_
         clear h_
         refine br_map h (fun h_ => ?_) (fun h_ => ?_)
         ·clear h
          have h := h_
          clear h_
          refine ldB_t 0 B1 rfl ?_
          refine br_map h (fun h_ => ?_) (fun h_ => ?_)
          ·clear h
           have h := h_
           clear h_
           refine Calls.mono h ?_
           clear h
           rintro e4 w8 ⟨b2, s2, x4, he_, ha_w8, h⟩
           refine ⟨b2, s2, x4, he_, ?_⟩
           clear he_
           obtain ⟨B1, B2⟩ := ah2 ha_w8 B1 B2
           obtain ⟨A, X⟩ := axa2 ha_w8 A X
           replace X : Ext w8 w8 := Ext.refl _
           refine st3_t B2 rfl rfl rfl rfl fun u6 k_u6 B2 => ?_
           replace B1 := up1 k_u6 B1
           obtain ⟨A, X⟩ := axu2 k_u6 g2 A X
           refine ldB_t 0 B2 rfl ?_
           refine ldS_t 1 B2 rfl ?_
           refine ldI_t 2 B2 rfl ?_
           replace h := h _ X A
           exact ⟨A, h⟩
          ·clear h
           have h := h_
           clear h_
           refine st3_t B2 rfl rfl rfl rfl fun u7 k_u7 B2 => ?_
           replace B1 := up1 k_u7 B1
           obtain ⟨A, X⟩ := axu2 k_u7 g2 A X
           refine ldB_t 0 B2 rfl ?_
           refine ldS_t 1 B2 rfl ?_
           refine ldI_t 2 B2 rfl ?_
           replace h := h _ X A
           exact ⟨A, h⟩
         ·clear h
          have h := h_
          clear h_
          refine st3_t B2 rfl rfl rfl rfl fun u8 k_u8 B2 => ?_
          replace B1 := up1 k_u8 B1
          obtain ⟨A, X⟩ := axu2 k_u8 g2 A X
          refine ldB_t 0 B2 rfl ?_
          refine ldS_t 1 B2 rfl ?_
          refine ldI_t 2 B2 rfl ?_
          replace h := h _ X A
          exact ⟨A, h⟩
       ·clear h
        have h := h_
        clear h_
        refine br_map h (fun h_ => ?_) (fun h_ => ?_)
        ·clear h
         have h := h_
         clear h_
         refine ldB_t 0 B1 rfl ?_
         refine br_map h (fun h_ => ?_) (fun h_ => ?_)
         ·clear h
          have h := h_
          clear h_
          refine Calls.mono h ?_
          clear h
          rintro e5 w12 ⟨b3, s3, x5, he_, ha_w12, h⟩
          refine ⟨b3, s3, x5, he_, ?_⟩
          clear he_
          obtain ⟨B1, B2⟩ := ah2 ha_w12 B1 B2
          obtain ⟨A, X⟩ := axa2 ha_w12 A X
          replace X : Ext w12 w12 := Ext.refl _
          refine st3_t B2 rfl rfl rfl rfl fun u9 k_u9 B2 => ?_
          replace B1 := up1 k_u9 B1
          obtain ⟨A, X⟩ := axu2 k_u9 g2 A X
          refine ldB_t 0 B2 rfl ?_
          refine ldS_t 1 B2 rfl ?_
          refine ldI_t 2 B2 rfl ?_
          replace h := h _ X A
          exact ⟨A, h⟩
         ·clear h
          have h := h_
          clear h_
          refine st3_t B2 rfl rfl rfl rfl fun u10 k_u10 B2 => ?_
          replace B1 := up1 k_u10 B1
          obtain ⟨A, X⟩ := axu2 k_u10 g2 A X
          refine ldB_t 0 B2 rfl ?_
          refine ldS_t 1 B2 rfl ?_
          refine ldI_t 2 B2 rfl ?_
          replace h := h _ X A
          exact ⟨A, h⟩
        ·clear h
         have h := h_
         clear h_
         refine st3_t B2 rfl rfl rfl rfl fun u11 k_u11 B2 => ?_
         replace B1 := up1 k_u11 B1
         obtain ⟨A, X⟩ := axu2 k_u11 g2 A X
         refine ldB_t 0 B2 rfl ?_
         refine ldS_t 1 B2 rfl ?_
         refine ldI_t 2 B2 rfl ?_
         replace h := h _ X A
         exact ⟨A, h⟩
      ·clear h
       have h := h_
       clear h_
       refine Calls.mono h ?_
       clear h
       rintro e6 w16 ⟨s4, he_, ha_w16, h⟩
       refine ⟨s4, he_, ?_⟩
       clear he_
       obtain ⟨B1, B2⟩ := ah2 ha_w16 B1 B2
       obtain ⟨A, X⟩ := axa2 ha_w16 A X
       replace X : Ext w16 w16 := Ext.refl _
       refine Calls.mono h ?_
       clear h
       rintro e7 w17 ⟨s5, he_, ha_w17, h⟩
       refine ⟨s5, he_, ?_⟩
       clear he_
       obtain ⟨B1, B2⟩ := ah2 ha_w17 B1 B2
       obtain ⟨A, X⟩ := axa2 ha_w17 A X
       replace X : Ext w17 w17 := Ext.refl _
       refine newC_t fun bk3 u12 hb3 ha_u12 _ B3 => ?_
       have g3 := le_eq A.size hb3
       obtain ⟨_, _⟩ := lt2 hb3 B1 B2
       obtain ⟨B1, B2⟩ := ah2 ha_u12 B1 B2
       obtain ⟨A, X⟩ := axa2 ha_u12 A X
       refine st2_t B3 rfl rfl rfl fun u13 k_u13 B3 => ?_
       obtain ⟨B1, B2⟩ := up2 k_u13 B1 B2
       obtain ⟨A, X⟩ := axu2 k_u13 g3 A X
       refine newC_t fun bk4 u14 hb4 ha_u14 _ B4 => ?_
       have g4 := le_eq A.size hb4
       obtain ⟨_, _, _⟩ := lt3 hb4 B1 B2 B3
       obtain ⟨B1, B2, B3⟩ := ah3 ha_u14 B1 B2 B3
       obtain ⟨A, X⟩ := axa2 ha_u14 A X
       refine st2_t B4 rfl rfl rfl fun u15 k_u15 B4 => ?_
       obtain ⟨B1, B2, B3⟩ := up3 k_u15 B1 B2 B3
       obtain ⟨A, X⟩ := axu2 k_u15 g4 A X
       refine br_map h (fun h_ => ?_) (fun h_ => ?_)
       ·clear h
        have h := h_
        clear h_
        refine ldB_t 0 B1 rfl ?_
        refine ldS_t 1 B1 rfl ?_
        refine ldB_t 0 B3 rfl ?_
        refine ldS_t 1 B3 rfl ?_
        replace h := h _ X A
        refine Calls.mono h ?_
        clear h
        rintro e8 w19 ⟨b4, s6, b5, s7, he_, ha_w19, h⟩
        refine ⟨b4, s6, b5, s7, he_, ?_⟩
        clear he_
        obtain ⟨B1, B2, B3, B4⟩ := ah4 ha_w19 B1 B2 B3 B4
        obtain ⟨A, X⟩ := axa2 ha_w19 A X
        replace X : Ext w19 w19 := Ext.refl _
        refine st2_t B4 rfl rfl rfl fun u16 k_u16 B4 => ?_
        obtain ⟨B1, B2, B3⟩ := up3 k_u16 B1 B2 B3
        obtain ⟨A, X⟩ := axu2 k_u16 g4 A X
        refine ldB_t 0 B4 rfl ?_
        refine ldS_t 1 B4 rfl ?_
        replace h := h _ X A
        refine Calls.mono h ?_
        clear h
        rintro e9 w21 ⟨b6, s8, x6, he_, ha_w21, h⟩
        refine ⟨b6, s8, x6, he_, ?_⟩
        clear he_
        obtain ⟨B1, B2, B3, B4⟩ := ah4 ha_w21 B1 B2 B3 B4
        obtain ⟨A, X⟩ := axa2 ha_w21 A X
        replace X : Ext w21 w21 := Ext.refl _
        refine st3_t B2 rfl rfl rfl rfl fun u17 k_u17 B2 => ?_
        obtain ⟨B1, B3, B4⟩ := up3 k_u17 B1 B3 B4
        obtain ⟨A, X⟩ := axu2 k_u17 g2 A X
        refine ldB_t 0 B2 rfl ?_
        refine ldS_t 1 B2 rfl ?_
        refine ldI_t 2 B2 rfl ?_
        replace h := h _ X A
        exact ⟨A, h⟩
       ·clear h
        have h := h_
        clear h_
        refine br_map h (fun h_ => ?_) (fun h_ => ?_)
        ·clear h
         have h := h_
         clear h_
         refine ldB_t 0 B1 rfl ?_
         refine ldS_t 1 B1 rfl ?_
         refine ldB_t 0 B3 rfl ?_
         refine ldS_t 1 B3 rfl ?_
         replace h := h _ X A
         refine Calls.mono h ?_
         clear h
         rintro e10 w24 ⟨b7, s9, b8, s10, he_, ha_w24, h⟩
         refine ⟨b7, s9, b8, s10, he_, ?_⟩
         clear he_
         obtain ⟨B1, B2, B3, B4⟩ := ah4 ha_w24 B1 B2 B3 B4
         obtain ⟨A, X⟩ := axa2 ha_w24 A X
         replace X : Ext w24 w24 := Ext.refl _
         refine st2_t B4 rfl rfl rfl fun u18 k_u18 B4 => ?_
         obtain ⟨B1, B2, B3⟩ := up3 k_u18 B1 B2 B3
         obtain ⟨A, X⟩ := axu2 k_u18 g4 A X
         refine ldB_t 0 B4 rfl ?_
         refine ldS_t 1 B4 rfl ?_
         replace h := h _ X A
         refine Calls.mono h ?_
         clear h
         rintro e11 w26 ⟨b9, s11, x7, he_, ha_w26, h⟩
         refine ⟨b9, s11, x7, he_, ?_⟩
         clear he_
         obtain ⟨B1, B2, B3, B4⟩ := ah4 ha_w26 B1 B2 B3 B4
         obtain ⟨A, X⟩ := axa2 ha_w26 A X
         replace X : Ext w26 w26 := Ext.refl _
         refine st3_t B2 rfl rfl rfl rfl fun u19 k_u19 B2 => ?_
         obtain ⟨B1, B3, B4⟩ := up3 k_u19 B1 B3 B4
         obtain ⟨A, X⟩ := axu2 k_u19 g2 A X
         refine ldB_t 0 B2 rfl ?_
         refine ldS_t 1 B2 rfl ?_
         refine ldI_t 2 B2 rfl ?_
         replace h := h _ X A
         exact ⟨A, h⟩
        ·clear h
         have h := h_
         clear h_
         refine ldB_t 0 B1 rfl ?_
         refine ldS_t 1 B1 rfl ?_
         refine ldB_t 0 B3 rfl ?_
         refine ldS_t 1 B3 rfl ?_
         replace h := h _ X A
         refine Calls.mono h ?_
         clear h
         rintro e12 w29 ⟨b10, s12, b11, s13, he_, ha_w29, h⟩
         refine ⟨b10, s12, b11, s13, he_, ?_⟩
         clear he_
         obtain ⟨B1, B2, B3, B4⟩ := ah4 ha_w29 B1 B2 B3 B4
         obtain ⟨A, X⟩ := axa2 ha_w29 A X
         replace X : Ext w29 w29 := Ext.refl _
         refine st2_t B4 rfl rfl rfl fun u20 k_u20 B4 => ?_
         obtain ⟨B1, B2, B3⟩ := up3 k_u20 B1 B2 B3
         obtain ⟨A, X⟩ := axu2 k_u20 g4 A X
         refine ldB_t 0 B4 rfl ?_
         refine ldS_t 1 B4 rfl ?_
         replace h := h _ X A
         refine Calls.mono h ?_
         clear h
         rintro e13 w31 ⟨b12, s14, x8, he_, ha_w31, h⟩
         refine ⟨b12, s14, x8, he_, ?_⟩
         clear he_
         obtain ⟨B1, B2, B3, B4⟩ := ah4 ha_w31 B1 B2 B3 B4
         obtain ⟨A, X⟩ := axa2 ha_w31 A X
         replace X : Ext w31 w31 := Ext.refl _
         refine st3_t B2 rfl rfl rfl rfl fun u21 k_u21 B2 => ?_
         obtain ⟨B1, B3, B4⟩ := up3 k_u21 B1 B3 B4
         obtain ⟨A, X⟩ := axu2 k_u21 g2 A X
         refine ldB_t 0 B2 rfl ?_
         refine ldS_t 1 B2 rfl ?_
         refine ldI_t 2 B2 rfl ?_
         replace h := h _ X A
         exact ⟨A, h⟩

/-- surd/surdlaw08.of: function 6, its local variables as values. -/
theorem surdlaw08_of_v2 (a0_a_0 : Bool) (a0_a_1 : Slc) (a0_a_2 : Int) (w : World) (R : Ending → World → Prop)
    
    (h : ∀ w1, Ext w w1 → Ahead w w1 →
    (Calls Tryd.prog 32 #[Value.int .i64 a0_a_2] w1 fun e1 w2 =>
     ∃ b1 : Bool, e1 = .returned (Value.bool b1) ∧ Ahead w1 w2 ∧
     (br (!b1)
      (∀ w3, Ext w2 w3 → Ahead w w3 →
       (R (.returned (Value.tuple #[Value.agg #[Value.bool (false), ((⟨none, 0, 0⟩ : Slc)).v, Value.int .i64 (0 : Int)], Value.bool false])) w3))
      (∀ w4, Ext w2 w4 → Ahead w w4 →
       (Calls Tryd.prog 15 #[Value.bool a0_a_0, a0_a_1.v] w4 fun e2 w5 =>
        ∃ b2 : Bool, ∃ s1 : Slc, e2 = .returned (Value.agg #[Value.bool b2, s1.v]) ∧ Ahead w4 w5 ∧
        (Calls Tryd.prog 14 #[Value.agg #[Value.bool b2, s1.v], Value.int .i64 a0_a_2] w5 fun e3 w6 =>
         ∃ b3 : Bool, ∃ s2 : Slc, ∃ x1 : Int, e3 = .returned (Value.agg #[Value.bool b3, s2.v, Value.int .i64 x1]) ∧ Ahead w5 w6 ∧
         (∀ w7, Ext w6 w7 → Ahead w w7 →
          (R (.returned (Value.tuple #[Value.agg #[Value.bool b3, s2.v, Value.int .i64 x1], Value.bool true])) w7))))))))
     :
    Calls Tryd.prog 6 #[Value.agg #[Value.bool a0_a_0, a0_a_1.v, Value.int .i64 a0_a_2]] w (fun e_ w_ => Ahead w w_ ∧ R e_ w_) := by
  refine surdlaw08_of_vc a0_a_0 a0_a_1 a0_a_2 w _  ?_
  · have A : Ahead w w := Ahead.refl w
    have X : Ext w w := Ext.refl w
    refine newC_t fun bk1 u1 hb1 ha_u1 _ B1 => ?_
    have g1 := le_eq A.size hb1
    obtain ⟨A, X⟩ := axa2 ha_u1 A X
    refine newC_t fun bk2 u2 hb2 ha_u2 _ B2 => ?_
    have g2 := le_eq A.size hb2
    have l1_2 := lt1 hb2 B1
    replace B1 := B1.ahead ha_u2
    obtain ⟨A, X⟩ := axa2 ha_u2 A X
    refine ldI_t 2 B1 rfl ?_
    replace h := h _ X A
    refine Calls.mono h ?_
    clear h
    rintro e1 w2 ⟨b1, he_, ha_w2, h⟩
    refine ⟨b1, he_, ?_⟩
    clear he_
    obtain ⟨B1, B2⟩ := ah2 ha_w2 B1 B2
    obtain ⟨A, X⟩ := axa2 ha_w2 A X
    replace X : Ext w2 w2 := Ext.refl _
    refine br_map h (fun h_ => ?_) (fun h_ => ?_)
    ·clear h
     have h := h_
     clear h_
     refine st3_t B2 rfl rfl rfl rfl fun u3 k_u3 B2 => ?_
     replace B1 := up1 k_u3 B1
     obtain ⟨A, X⟩ := axu2 k_u3 g2 A X
     refine ldB_t 0 B2 rfl ?_
     refine ldS_t 1 B2 rfl ?_
     refine ldI_t 2 B2 rfl ?_
     replace h := h _ X A
     exact ⟨A, h⟩
    ·clear h
     have h := h_
     clear h_
     have hd_ := Sp.Ahead.drew w2
     obtain ⟨B1, B2⟩ := ah2 hd_ B1 B2
     obtain ⟨A, X⟩ := axa2 hd_ A X
     clear hd_
     refine ldB_t 0 B1 rfl ?_
     refine ldS_t 1 B1 rfl ?_
     refine ldI_t 2 B1 rfl ?_
     replace h := h _ X A
     refine Calls.mono h ?_
     clear h
     rintro e2 w5 ⟨b2, s1, he_, ha_w5, h⟩
     refine ⟨b2, s1, he_, ?_⟩
     clear he_
     obtain ⟨B1, B2⟩ := ah2 ha_w5 B1 B2
     obtain ⟨A, X⟩ := axa2 ha_w5 A X
     replace X : Ext w5 w5 := Ext.refl _
     refine ⟨ha_w5, ?_⟩
     refine Calls.mono h ?_
     clear h
     rintro e3 w6 ⟨b3, s2, x1, he_, ha_w6, h⟩
     refine ⟨b3, s2, x1, he_, ?_⟩
     clear he_
     obtain ⟨B1, B2⟩ := ah2 ha_w6 B1 B2
     obtain ⟨A, X⟩ := axa2 ha_w6 A X
     replace X : Ext w6 w6 := Ext.refl _
     refine ⟨ha_w6, ?_⟩
     refine st3_t B2 rfl rfl rfl rfl fun u4 k_u4 B2 => ?_
     replace B1 := up1 k_u4 B1
     obtain ⟨A, X⟩ := axu2 k_u4 g2 A X
     refine ldB_t 0 B2 rfl ?_
     refine ldS_t 1 B2 rfl ?_
     refine ldI_t 2 B2 rfl ?_
     replace h := h _ X A
     exact ⟨A, h⟩

end Go.Proofs.YtahbekmnphkiiaaDoor
namespace Go.Proofs.YtahbekmnphkiiaaDoor
open Go Go.RowKit Eng Sp Dg L2
set_option linter.unusedVariables false
set_option linter.unusedSimpArgs false
set_option maxRecDepth 100000
namespace Dy
open _root_.Go.Proofs.YtahbekmnphkiiaaDoor.Nat (ldN ldNf stF stFf mkF Fill OwnNil Num Num.bl OwnNil.mono OwnNil.ext OwnNil.rd OwnNil.ahead OwnNil.nil bigC bigC_ok leftC left_num Norm_spec Length_spec len_num semShr semShl fixShl orI_nat digs_len_bl From_spec nBit_spec)
open _root_.Go.Proofs.YtahbekmnphkiiaaDoor.Ref (len_mono)
open Sb

theorem limb_spec {w : World} {s : Slc} {l : List Nat} (h : Rd .u64 w s (nn l)) {i : Int} (h0 : 0 ≤ i) :
    Calls pr dyadic_limb_id #[s.v, .int .i64 i] w fun e w' => w' = w ∧ e = .returned (.int .u64 (l.getD i.toNat 0 : Nat)) := by
  have hn : s.n = l.length := by rw [h.n, nn_length]
  refine dyadic_limb_vc s i w _ (br_intro (fun hlt => ?_) (fun hge => ?_))
  · have hlt' : i < l.length := by have := of_decide_eq_true hlt; omega
    exact ldN h h0 hlt' ⟨rfl, rfl⟩
  · refine ⟨rfl, ?_⟩
    rw [getD_ge l 0 (by have := of_decide_eq_false hge; omega)]; rfl

theorem plus_spec {w : World} {p q : Slc} {x y : Nat} (hp : Rd .u64 w p (nn (digs B64 x))) (hq : Rd .u64 w q (nn (digs B64 y))) (la : (digs B64 x).length + 1 ≤ 2 ^ 44) (lb : (digs B64 y).length + 1 ≤ 2 ^ 44) :
    Calls pr dyadic_plus_id #[p.v, q.v] w fun e w' => Ahead w w' ∧ ∃ s, e = .returned (Slc.v s) ∧ OwnNil w.heap.size w' s (digs B64 (x + y)) := by
  have hB := B64v
  have hna : p.n = (digs B64 x).length := by rw [hp.n, nn_length]
  have hnb : q.n = (digs B64 y).length := by rw [hq.n, nn_length]
  have oa := ok_digs two64 x
  have ob := ok_digs two64 y
  have vx := val_digs two64 x
  have vy := val_digs two64 y
  generalize digs B64 x = A at *
  generalize digs B64 y = C at *
  refine dyadic_plus_vc p q w _ (fun s t out k n i w' => s = p ∧ t = q ∧ ∃ (m : Nat) (l : List Nat) (j cr : Nat), n = ((m + 1 : Nat) : Int) ∧ A.length ≤ m ∧ C.length ≤ m ∧ m + 1 ≤ 2 ^ 44 ∧ k = (cr : Int) ∧ cr ≤ 1 ∧ i = (j : Int) ∧ j ≤ m + 1 ∧
    Fill w w' out l (fun _ => True) ∧ l.length = m + 1 ∧ ok B64 l ∧ val B64 (l.take j) + cr * B64 ^ j = val B64 (A.take j) + val B64 (C.take j)) (fun _ _ _ _ n i _ => (n - i).toNat) ?_ ?_
  · have em : maxI (p.n : Int) (q.n : Int) = ((max A.length C.length : Nat) : Int) := by
      unfold maxI; split <;> omega
    rw [em, wrap_i64 (by omega) (by omega)]
    refine mkF (S := fun _ => True) (w0 := w) (by omega) (by omega) (Ahead.refl _) trivial ?_
    intro s w1 hsn hf ha
    refine ⟨rfl, rfl, max A.length C.length, _, 0, 0, by rw [hsn]; omega, by omega, by omega, by omega, rfl, by omega, rfl, Nat.zero_le _, hf, by rw [List.length_replicate]; omega, ok_replicate (by omega) _, by simp [val]⟩
  · rintro s t out k n i w1 ⟨rfl, rfl, m, l, j, cr, rfl, hA, hC, hm, rfl, hcr, rfl, hj, hf, hl, ol, hv⟩
    refine br_intro (fun hlt => ?_) (fun hge => ?_)
    · have hj' : j < m + 1 := by have := of_decide_eq_true hlt; omega
      refine Calls.mono (limb_spec (hp.ahead hf.base) (by omega)) ?_
      rintro e w2 ⟨rfl, rfl⟩
      refine ⟨_, rfl, Calls.mono (limb_spec (hq.ahead hf.base) (by omega)) ?_⟩
      rintro e w3 ⟨rfl, rfl⟩
      refine ⟨_, rfl, ?_⟩
      rw [Int.toNat_natCast]
      have hx := ok_getD oa (by omega : 0 < B64) j
      have hy := ok_getD ob (by omega : 0 < B64) j
      have e8 : IntKind.i64.wrap ((j : Int) + 1) = ((j + 1 : Nat) : Int) := by rw [wrap_i64 (by omega) (by omega)]; omega
      have t1 := val_take_succ' A j (B := B64)
      have t2 := val_take_succ' C j (B := B64)
      generalize A.getD j 0 = a at *
      generalize C.getD j 0 = c at *
      have e1 : IntKind.u64.wrap ((a : Int) + (c : Int)) = (((a + c) % B64 : Nat) : Int) := by rw [wrap_u64, hB]; omega
      have e2 : IntKind.u64.wrap ((((a + c) % B64 : Nat) : Int) + (cr : Int)) = (((a + c + cr) % B64 : Nat) : Int) := by rw [wrap_u64, hB]; omega
      rw [e1, e2]
      -- a round's end
      have fin : ∀ cr' : Nat, cr' = (a + c + cr) / B64 → semA pr (Instr.indexAt 35 out.v (.int .i64 (j : Int))) w3 fun ad1 w4 => stC ad1 (.int .u64 (((a + c + cr) % B64 : Nat) : Int)) w4 fun w5 =>
          (s = s ∧ t = t ∧ ∃ (m' : Nat) (l : List Nat) (j' cr : Nat), ((m + 1 : Nat) : Int) = ((m' + 1 : Nat) : Int) ∧ A.length ≤ m' ∧ C.length ≤ m' ∧ m' + 1 ≤ 2 ^ 44 ∧ (cr' : Int) = (cr : Int) ∧ cr ≤ 1 ∧ IntKind.i64.wrap ((j : Int) + 1) = (j' : Int) ∧ j' ≤ m' + 1 ∧
    Fill w w5 out l (fun _ => True) ∧ l.length = m' + 1 ∧ ok B64 l ∧ val B64 (l.take j') + cr * B64 ^ j' = val B64 (A.take j') + val B64 (C.take j')) ∧ (((m + 1 : Nat) : Int) - IntKind.i64.wrap ((j : Int) + 1)).toNat < (((m + 1 : Nat) : Int) - (j : Int)).toNat := by
        intro cr' hc'
        refine stF hf (by omega) (by omega) ?_
        intro w5 hf5
        simp only [Int.toNat_natCast] at hf5
        refine ⟨⟨rfl, rfl, m, _, j + 1, cr', rfl, hA, hC, hm, rfl, by rw [hc', hB]; omega, e8, hj', hf5, by simpa using hl, ok_set ol (Nat.mod_lt _ (by omega)), ?_⟩, by rw [e8]; omega⟩
        rw [val_take_set _ _ _ (by omega), t1, t2, Nat.pow_succ]
        exact add_step (by have := Nat.mod_add_div (a + c + cr) B64; rw [hc']; omega) hv
      refine br_intro (fun h1 => ?_) (fun h1 => br_intro (fun h2 => ?_) (fun h2 => ?_))
      · exact fin 1 (by have := of_decide_eq_true h1; rw [hB] at this ⊢; omega)
      · exact fin 1 (by have := of_decide_eq_true h2; rw [hB] at this ⊢; omega)
      · exact fin 0 (by have q1 := of_decide_eq_false h1; have q2 := of_decide_eq_false h2; rw [hB] at q1 q2 ⊢; omega)
    · have hj' : j = m + 1 := by have := of_decide_eq_false hge; omega
      subst hj'
      rw [val_take_all l (by omega), val_take_all A (by omega), val_take_all C (by omega), vx, vy] at hv
      have h1 : x < B64 ^ m := by rw [← vx]; exact Nat.lt_of_lt_of_le (val_lt oa) (Nat.pow_le_pow_right (by omega) hA)
      have h2 : y < B64 ^ m := by rw [← vy]; exact Nat.lt_of_lt_of_le (val_lt ob) (Nat.pow_le_pow_right (by omega) hC)
      have h3 : cr = 0 := by
        rcases Nat.lt_or_ge cr 1 with h | h
        · omega
        · have hc1 : cr = 1 := by omega
          subst hc1
          have : 2 * B64 ^ m ≤ B64 ^ (m + 1) := by rw [Nat.pow_succ, Nat.mul_comm]; exact Nat.mul_le_mul_left _ (by omega)
          omega
      subst h3
      have hv' : val B64 l = x + y := by omega
      refine Calls.mono (Norm_spec hf.rd (by omega) ol) ?_
      rw [hv']
      rintro e w6 ⟨h6, s', rfl, hr⟩
      exact ⟨_, rfl, hf.base.trans h6, _, rfl, hr.mono hf.base.size⟩

theorem set_getD_self (l : List Nat) (i : Nat) (h : i < l.length) : l.set i (l.getD i 0) = l := by
  rw [getD_lt _ _ h]; exact List.set_getElem_self h
theorem dleft_spec {w : World} {a : Slc} {x k : Nat} (ra : Rd .u64 w a (nn (digs B64 x))) (na : (digs B64 x).length + k / 64 + 1 ≤ 2 ^ 44) :
    Calls pr dyadic_left_id #[a.v, .int .i64 (k : Int)] w fun e w' => Ahead w w' ∧ ∃ s, e = .returned (Slc.v s) ∧ OwnNil w.heap.size w' s (digs B64 (x * 2 ^ k)) := by
  have hB := B64v
  have h64 : B64 = 2 ^ 64 := rfl
  have hA0 := val_digs two64 x
  have hoA := ok_digs two64 x
  have hw : k % 64 < 64 := Nat.mod_lt _ (by omega)
  have hp2 : B64 ^ (k / 64) * 2 ^ (k % 64) = 2 ^ k := (pow_split k 64).symm
  have hnum : Num w a x := ⟨_, ra, by omega, hoA, hA0⟩
  have hna : a.n = (digs B64 x).length := by rw [ra.n, nn_length]
  generalize digs B64 x = A at *
  refine dyadic_left_vc a k w _ (fun t7 t8 t9 t32 t33 t34 w' => t7 = ((k / 64 : Nat) : Int) ∧ t8 = ((k % 64 : Nat) : Int) ∧ t33 = (A.length : Int) ∧ ∃ (l : List Nat) (j : Nat), t34 = (j : Int) ∧ j ≤ A.length ∧
    Fill w w' t9 l (fun w' => Rd .u64 w' t32 (nn A)) ∧ l.length = k / 64 + A.length + 1 ∧ ok B64 l ∧ val B64 l = val B64 (A.take j) * (B64 ^ (k / 64) * 2 ^ (k % 64))) (fun _ _ _ _ n i _ => (n - i).toNat) ?_ ?_
  · refine Calls.mono (left_num hnum (n := (k : Int)) (by omega) (by omega)) ?_
    rintro e w1 ⟨h1, s, rfl, os⟩
    have ek : ((k : Int)).toNat = k := by omega
    rw [ek] at os
    refine ⟨_, _, rfl, br_intro (fun hc => ?_) (fun hc => ?_)⟩
    · have hc0 : leftC x (k : Int) = 0 := by simpa using hc
      rw [if_pos hc0] at os
      exact ⟨h1, s, rfl, os⟩
    · rw [tdivN (by omega), tmodN, hna, wrap_i64 (x := (A.length : Int) + _) (by omega) (by omega), wrap_i64 (by omega) (by omega), show (A.length : Int) + ((k / 64 : Nat) : Int) + 1 = ((k / 64 + A.length + 1 : Nat) : Int) by omega]
      refine mkF (w0 := w) (S := fun w' => Rd .u64 w' a (nn A)) (by omega) (by omega) h1 (ra.ahead h1) ?_
      intro c w3 hcn hf ha
      refine ⟨rfl, rfl, rfl, _, 0, rfl, Nat.zero_le _, hf, by rw [List.length_replicate]; omega, ok_replicate (by omega) _, ?_⟩
      rw [val_replicate]; simp [val]
  · rintro t7 t8 c t32 t33 t34 w' ⟨rfl, rfl, rfl, l, j, rfl, hj, hf, hl, ol, hv⟩
    have hS := hf.src (fun _ h hs => Rd.ahead hs h)
    refine br_intro (fun hlt => ?_) (fun hge => ?_)
    · have hj' : j < A.length := by have := of_decide_eq_true hlt; omega
      have hfacts := left_facts (w := 64) (l := l) (A := A) (j := j) (wd := k / 64) (s := k % 64) hw (by omega) hoA hj' hv
      refine ldN hS (by omega) (by omega) ?_
      rw [wrap_i64 (x := (j : Int) + ((k / 64 : Nat) : Int)) (by omega) (by omega), show (j : Int) + ((k / 64 : Nat) : Int) = ((k / 64 + j : Nat) : Int) by omega,
        wrap_i64 (x := ((k / 64 + j : Nat) : Int) + 1) (by omega) (by omega), show ((k / 64 + j : Nat) : Int) + 1 = ((k / 64 + j + 1 : Nat) : Int) by omega]
      refine ldN hf.rd (by omega) (by omega) ?_
      refine semShl (by omega) ?_
      have hx := ok_getD hoA (by omega : 0 < B64) j
      have hlk := ok_getD ol (by omega : 0 < B64) (k / 64 + j)
      simp only [Int.toNat_natCast]
      rw [orI_nat hlk (Nat.mod_lt _ (by omega))]
      refine stF hf (by omega) (by omega) ?_
      intro w7 hf7
      simp only [Int.toNat_natCast] at hf7
      have e8 : IntKind.i64.wrap ((j : Int) + 1) = ((j + 1 : Nat) : Int) := by rw [wrap_i64 (by omega) (by omega)]; omega
      have hlo : l.getD (k / 64 + j) 0 ||| A.getD j 0 * 2 ^ (k % 64) % B64 = l.getD (k / 64 + j) 0 + A.getD j 0 * 2 ^ (k % 64) % 2 ^ 64 := by
        have h2 := shl_lo (A.getD j 0) (k % 64) 64 (by omega)
        have h2' : A.getD j 0 * 2 ^ (k % 64) % B64 = _ := h2
        rw [h2', h2, or_add hfacts.1]
      have hlolt : l.getD (k / 64 + j) 0 ||| A.getD j 0 * 2 ^ (k % 64) % B64 < B64 := Nat.or_lt_two_pow (n := 64) hlk (Nat.mod_lt _ (by omega))
      have hhi : A.getD j 0 * 2 ^ (k % 64) / 2 ^ 64 < B64 := by
        rw [shl_hi _ _ _ (by omega)]
        exact Nat.lt_of_le_of_lt (Nat.div_le_self _ _) hx
      have stp := left_step (w := 64) (lo := l.getD (k / 64 + j) 0 ||| A.getD j 0 * 2 ^ (k % 64) % B64) hw (by omega) hoA hj' hv hlo rfl
      refine br_intro (fun hs => ?_) (fun hs => ?_)
      · have hs' : 0 < k % 64 := by have := of_decide_eq_true hs; omega
        rw [show IntKind.u64.wrap (64 - ((k % 64 : Nat) : Int)) = ((64 - k % 64 : Nat) : Int) by rw [wrap_u64' (by omega) (by omega)]; omega]
        refine semShr (by omega) ?_
        rw [← shl_hi _ _ 64 (by omega)]
        refine stF hf7 (by omega) (by simp; omega) ?_
        intro w10 hf10
        simp only [Int.toNat_natCast] at hf10
        exact ⟨⟨by trivial, by trivial, by trivial, _, j + 1, e8, by omega, hf10, by simpa using hl, ok_set (ok_set ol hlolt) hhi, stp⟩, by rw [e8]; omega⟩
      · have hs' : k % 64 = 0 := by have := of_decide_eq_false hs; omega
        have hz : A.getD j 0 * 2 ^ (k % 64) / 2 ^ 64 = 0 := by
          rw [hs', Nat.pow_zero, Nat.mul_one]; exact Nat.div_eq_of_lt hx
        rw [hz] at stp
        have hzero : (l.set (k / 64 + j) (l.getD (k / 64 + j) 0 ||| A.getD j 0 * 2 ^ (k % 64) % B64)).getD (k / 64 + j + 1) 0 = 0 := by
          rw [getD_set _ _ _ _ (by omega), if_neg (by omega)]; exact hfacts.2
        have hsame := set_getD_self (l.set (k / 64 + j) (l.getD (k / 64 + j) 0 ||| A.getD j 0 * 2 ^ (k % 64) % B64)) (k / 64 + j + 1) (by simp; omega)
        rw [hzero] at hsame
        rw [hsame] at stp
        exact ⟨⟨by trivial, by trivial, by trivial, _, j + 1, e8, by omega, hf7, by simpa using hl, ok_set ol hlolt, stp⟩, by rw [e8]; omega⟩
    · have hj' : j = A.length := by have := of_decide_eq_false hge; omega
      subst hj'
      rw [List.take_length, hA0, hp2] at hv
      refine Calls.mono (Norm_spec hf.rd (by omega) ol) ?_
      rw [hv]
      rintro e w3 ⟨h3, s, rfl, os⟩
      exact ⟨_, rfl, hf.base.trans h3, _, rfl, os.mono hf.base.size⟩

theorem direction_spec {w : World} {m : Int} : Calls pr dyadic_direction_id #[.int .i64 m] w fun e w' => w' = w ∧ e = .returned (.bool (decide (0 ≤ m ∧ m ≤ 2))) := by
  refine dyadic_direction_vc m w _ (br_intro (fun h => ?_) (fun h => br_intro (fun h2 => ?_) (fun h2 => ?_)))
  · have h' : m = 0 := by simpa using h
    subst h'; exact ⟨rfl, rfl⟩
  · have h' : m = 1 := by simpa using h2
    subst h'; exact ⟨rfl, rfl⟩
  · have h1 : m ≠ 0 := by simpa using h
    have h3 : m ≠ 1 := by simpa using h2
    refine ⟨rfl, ?_⟩
    congr 2
    rw [Bool.eq_iff_iff]
    simp; omega

/-- Does the size grow by a step? -/
def upR (neg : Bool) (n gap : Nat) (m : Int) : Bool := if m = 2 then decide (n / 2 ^ (gap - 1) % 2 = 1) && (decide (tz n < gap - 1) || decide (n / 2 ^ gap % 2 = 1)) else if m = 0 then neg else !neg
/-- The size of a number of so many steps, rounded. -/
def rq (neg : Bool) (n gap : Nat) (m : Int) : Nat := n / 2 ^ gap + if upR neg n gap m then 1 else 0
def stq (neg : Bool) (n : Nat) (e pos m : Int) : Nat := if n = 0 ∨ pos ≤ e then n * 2 ^ (e - pos).toNat else rq neg n (pos - e).toNat m

theorem steps_spec {w : World} {neg : Bool} {s : Slc} {n : Nat} {e pos m : Int} (hT : Tab w) (r : Rd .u64 w s (nn (digs B64 n))) (hl : (digs B64 n).length + 1 ≤ 2 ^ 44) (he : -2305843009213693952 ≤ e ∧ e ≤ 2305843009213693952) (hp : -2305843009213693952 ≤ pos ∧ pos ≤ 2305843009213693952)
    (hsz : n = 0 ∨ pos ≤ e → (digs B64 n).length + (e - pos).toNat / 64 + 1 ≤ 2 ^ 44) :
    Calls pr dyadic_steps_id #[.agg (c3 neg s e), .int .i64 pos, .int .i64 m] w fun en w' => Ahead w w' ∧ ∃ s', en = .returned (.agg (c2 neg s')) ∧ OwnNil w.heap.size w' s' (digs B64 (stq neg n e pos m)) := by
  have hB := B64v
  have on := ok_digs two64 n
  have vn := val_digs two64 n
  have hnum : Num w s n := ⟨_, r, by omega, on, vn⟩
  have hbl := Num.bl hnum
  refine dyadic_steps_v2 neg s e pos m w _
    (fun t1 t2 t19 b s' e' _ _ w' => pos = t1 ∧ m = t2 ∧ t19 = decide (n = 0 ∨ pos ≤ e) ∧ neg = b ∧ s = s' ∧ e = e')
    (fun t2 t7 t8 b s' e' _ _ w' => m = t2 ∧ t7 = (((pos - e).toNat : Nat) : Int) ∧ ¬ (n = 0 ∨ pos ≤ e) ∧ OwnNil w.heap.size w' t8 (digs B64 (n / 2 ^ (pos - e).toNat)) ∧ neg = b ∧ s = s')
    (fun t8 t9 b s' e' _ _ w' => ¬ (n = 0 ∨ pos ≤ e) ∧ OwnNil w.heap.size w' t8 (digs B64 (n / 2 ^ (pos - e).toNat)) ∧ t9 = upR neg n (pos - e).toNat m ∧ neg = b) ?_ ?_ ?_ ?_
  · intro w1 x1 a1
    refine Calls.mono (part_sign_spec (hnum.ahead a1)) ?_
    rintro en w2 ⟨h2, rfl⟩
    refine ⟨_, rfl, h2, br_intro (fun hz => ?_) (fun hz => ?_)⟩
    · have hn : n = 0 := sgn_zero_iff.1 (by simpa using hz)
      exact ⟨rfl, rfl, by simp [hn], rfl, rfl, rfl⟩
    · have hn : n ≠ 0 := fun e0 => by rw [e0] at hz; simp [sgn] at hz
      exact ⟨rfl, rfl, by simp [hn], rfl, rfl, rfl⟩
  · rintro _ _ _ _ _ _ _ _ w1 a1 ⟨rfl, rfl, rfl, rfl, rfl, rfl⟩
    refine br_intro (fun hc => ?_) (fun hc => ?_)
    · have hc' := of_decide_eq_true hc
      intro w3 x3 a3
      have e1 : maxI (IntKind.i64.wrap (e - pos)) 0 = (((e - pos).toNat : Nat) : Int) := by
        rw [wrap_i64 (by omega) (by omega)]; unfold maxI; split <;> omega
      rw [e1]
      refine Calls.mono (dleft_spec (r.ahead a3) (hsz hc')) ?_
      rintro en w4 ⟨h4, s1, rfl, o1⟩
      refine ⟨_, rfl, h4, fun w5 x5 a5 => ⟨_, rfl, ?_⟩⟩
      rw [stq, if_pos hc']
      exact (o1.ext x5).mono a3.size
    · have hc' := of_decide_eq_false hc
      have hn : n ≠ 0 := fun h => hc' (.inl h)
      have hpe : e < pos := by
        rcases Int.lt_or_le e pos with h | h
        · exact h
        · exact absurd (.inr h) hc'
      refine Calls.mono (part_length_spec (hnum.ahead a1)) ?_
      rintro en w6 ⟨h6, rfl⟩
      have e1 : IntKind.i64.wrap (pos - e) = (((pos - e).toNat : Nat) : Int) := by rw [wrap_i64 (by omega) (by omega)]; omega
      rw [e1]
      refine ⟨_, rfl, h6, br_intro (fun hg => ?_) (fun hg => ?_)⟩
      · have hg' := of_decide_eq_true hg
        refine Calls.mono (shifted_spec (r.ahead (a1.trans h6)) (by omega) (by omega)) ?_
        rintro en w7 ⟨h7, s2, rfl, o2⟩
        exact ⟨_, rfl, h7, rfl, rfl, hc', o2.mono (a1.trans h6).size, rfl, rfl⟩
      · have hg' := of_decide_eq_false hg
        have hz : n / 2 ^ (pos - e).toNat = 0 := Nat.div_eq_of_lt (bl_le_iff.1 (by omega))
        refine ⟨rfl, rfl, hc', ?_, rfl, rfl⟩
        rw [hz, digs_zero]; exact OwnNil.nil
  · rintro _ _ t8 _ _ _ _ _ w1 a1 ⟨rfl, rfl, hc, o8, rfl, rfl⟩
    have hn : n ≠ 0 := fun h => hc (.inl h)
    have hpe : e < pos := by
      rcases Int.lt_or_le e pos with h | h
      · exact h
      · exact absurd (.inr h) hc
    obtain ⟨g, hg⟩ : ∃ g, (pos - e).toNat = g + 1 := ⟨(pos - e).toNat - 1, by omega⟩
    rw [hg] at o8 ⊢
    refine br_intro (fun h2 => ?_) (fun h2 => ?_)
    · have h2' : m = 2 := by simpa using h2
      rw [show IntKind.i64.wrap (((g + 1 : Nat) : Int) - 1) = (g : Int) by rw [wrap_i64 (by omega) (by omega)]; omega]
      refine Calls.mono (nBit_spec (r.ahead a1) (by omega) on (by omega)) ?_
      rw [vn]
      rintro en w8 ⟨rfl, rfl⟩
      refine ⟨_, rfl, Ahead.refl _, br_intro (fun hb => ?_) (fun hb => ?_)⟩
      · have hb' : n / 2 ^ g % 2 = 1 := by have := eq_of_beq hb; omega
        refine Calls.mono (Tail_spec (hT.ahead a1) (r.ahead a1) (by omega) on) ?_
        rw [vn]
        rintro en w9 ⟨rfl, rfl⟩
        refine ⟨_, rfl, Ahead.refl _, br_intro (fun ht => ?_) (fun ht => ?_)⟩
        · have ht' := of_decide_eq_true ht
          refine ⟨hc, o8, ?_, rfl⟩
          rw [upR, if_pos h2', Nat.add_sub_cancel, decide_eq_true hb', decide_eq_true (show tz n < g by omega)]; rfl
        · have ht' := of_decide_eq_false ht
          have lq : (digs B64 (n / 2 ^ (g + 1))).length ≤ 2 ^ 46 := Nat.le_trans (len_mono two64 (Nat.div_le_self _ _)) (by omega)
          have hb0 := nBit_spec (i := 0) o8.rd lq (ok_digs two64 _) (by omega)
          rw [val_digs two64, Nat.pow_zero, Nat.div_one] at hb0
          refine Calls.mono hb0 ?_
          rintro en w14 ⟨rfl, rfl⟩
          have hup : upR neg n (g + 1) m = decide (n / 2 ^ (g + 1) % 2 = 1) := by
            rw [upR, if_pos h2', Nat.add_sub_cancel, decide_eq_true hb', decide_eq_false (show ¬ tz n < g by omega)]; simp
          refine ⟨_, rfl, Ahead.refl _, br_intro (fun hq => ?_) (fun hq => ?_)⟩
          · refine ⟨hc, o8, ?_, rfl⟩
            rw [hup, decide_eq_false]
            intro h
            rw [h] at hq
            simp at hq
          · refine ⟨hc, o8, ?_, rfl⟩
            rw [hup, decide_eq_true]
            have := Nat.mod_lt (n / 2 ^ (g + 1)) (show 2 > 0 by omega)
            rcases Nat.lt_or_ge (n / 2 ^ (g + 1) % 2) 1 with h | h
            · have h0 : n / 2 ^ (g + 1) % 2 = 0 := by omega
              rw [h0] at hq
              simp at hq
            · omega
      · refine ⟨hc, o8, ?_, rfl⟩
        have hb' : ¬ n / 2 ^ g % 2 = 1 := fun h => by rw [h] at hb; simp at hb
        rw [upR, if_pos h2', Nat.add_sub_cancel, decide_eq_false hb']; rfl
    · have h2' : m ≠ 2 := by simpa using h2
      refine br_intro (fun h0 => ?_) (fun h0 => ?_)
      · exact ⟨hc, o8, by rw [upR, if_neg h2', if_pos (by simpa using h0)], rfl⟩
      · exact ⟨hc, o8, by rw [upR, if_neg h2', if_neg (by simpa using h0)], rfl⟩
  · rintro t8 _ _ _ _ _ _ w1 a1 ⟨hc, o8, rfl, rfl⟩
    have hst : stq neg n e pos m = rq neg n (pos - e).toNat m := if_neg hc
    have lq : (digs B64 (n / 2 ^ (pos - e).toNat)).length + 1 ≤ 2 ^ 44 := Nat.le_trans (Nat.add_le_add_right (len_mono two64 (Nat.div_le_self _ _)) 1) hl
    refine br_intro (fun hu => ?_) (fun hu => ?_)
    · refine Calls.mono (From_spec (v := 1) (by omega)) ?_
      rintro en w10 ⟨h10, s3, rfl, o3⟩
      have l1 : (digs B64 1).length ≤ 1 := digs_length_le two64 (by rw [Nat.pow_one]; omega)
      refine ⟨_, rfl, h10, Calls.mono (plus_spec (o8.ahead h10).rd o3.rd lq (by omega)) ?_⟩
      rintro en w11 ⟨h11, s4, rfl, o4⟩
      refine ⟨_, rfl, h11, fun w12 x12 a12 => ⟨_, rfl, ?_⟩⟩
      rw [hst, rq, if_pos hu]
      exact (o4.ext x12).mono (a1.trans h10).size
    · intro w13 x13 a13
      refine ⟨_, rfl, ?_⟩
      rw [hst, rq, if_neg (by rw [hu]; simp), Nat.add_zero]
      exact o8.ext x13

end Dy
end Go.Proofs.YtahbekmnphkiiaaDoor
namespace Go.Proofs.YtahbekmnphkiiaaDoor
open Go Go.RowKit Eng Sp Dg
set_option linter.unusedVariables false
set_option linter.unusedSimpArgs false
set_option maxRecDepth 100000
namespace Ref
open _root_.Go.Proofs.YtahbekmnphkiiaaDoor.Nat (ldN ldNf stN mkN Fill mkF stF stFf Num OwnNil)

theorem rMul_spec {w : World} {a b : Slc} {x y : Nat} (ha : RN w a x) (hb : RN w b y) (nab : (digs B32 x).length + (digs B32 y).length + 1 ≤ 2 ^ 45) :
    Calls pr surdref01_Mul_id #[a.v, b.v] w fun e w' => Ahead w w' ∧ ∃ s', e = .returned (Slc.v s') ∧ RN w' s' (x * y) := by
  have hB32 := B32v
  have hna := ha.n
  have hnb := hb.n
  have oa := ok_digs two32 x
  have ob := ok_digs two32 y
  have vx := val_digs two32 x
  have vy := val_digs two32 y
  unfold RN at ha hb
  generalize digs B32 x = la at *
  generalize digs B32 y = lb at *
  refine surdref01_Mul_vc a b w _
    (fun t1 out t19 t20 t21 w' => t1 = b ∧ t19 = a ∧ t20 = (la.length : Int) ∧ ∃ (i : Nat) (l : List Nat), t21 = (i : Int) ∧ i ≤ la.length ∧ Fill w w' out l (fun _ => True) ∧ l.length = la.length + lb.length + 1 ∧ ok B32 l ∧
      (∀ j, i + lb.length ≤ j → j < l.length → l.getD j 0 = 0) ∧ val B32 l = val B32 (la.take i) * val B32 lb)
    (fun _ _ _ n i _ => (n - i).toNat)
    (fun o1 o5 o19 o20 o21 ow t1 out t6 t7 t8 t19 t20 t21 t26 t27 t28 w' => o20 = t20 ∧ o21 = t21 ∧ t1 = b ∧ t19 = a ∧ t20 = (la.length : Int) ∧ t26 = b ∧ t27 = (lb.length : Int) ∧ ∃ (i k cr : Nat) (l : List Nat), t6 = (i : Int) ∧ t21 = (i : Int) ∧ i < la.length ∧ t7 = ((la.getD i 0 : Nat) : Int) ∧
      t8 = (cr : Int) ∧ cr < B32 ∧ t28 = (k : Int) ∧ k ≤ lb.length ∧ Fill w w' out l (fun _ => True) ∧ l.length = la.length + lb.length + 1 ∧ ok B32 l ∧
      (∀ j, i + lb.length ≤ j → j < l.length → l.getD j 0 = 0) ∧ val B32 l + cr * B32 ^ (i + k) = val B32 (la.take i) * val B32 lb + la.getD i 0 * val B32 (lb.take k) * B32 ^ i)
    (fun _ _ _ _ _ _ _ _ _ _ _ _ _ _ _ n k _ => (n - k).toNat) ?_ ?_ ?_
  · rw [hna, hnb, wrap_i64 (x := (la.length : Int) + (lb.length : Int)) (by omega) (by omega), wrap_i64 (by omega) (by omega)]
    refine mkF (S := fun _ => True) (w0 := w) (by omega) (by omega) (Ahead.refl _) trivial ?_
    intro c w1 hcn hf h1
    refine ⟨rfl, rfl, rfl, 0, _, rfl, Nat.zero_le _, hf, by rw [List.length_replicate]; omega, ok_replicate (by omega) _, fun j h2 h3 => ?_, by rw [val_replicate]; simp [val]⟩
    rw [List.length_replicate] at h3
    simp [List.getD_eq_getElem?_getD, List.getElem?_replicate, h3]
  · rintro t1 out t19 t20 t21 w1 ⟨rfl, rfl, rfl, i, l, rfl, hi, hf, hl, ol, hz, hv⟩
    refine br_intro (fun hlt => ?_) (fun hge => ?_)
    · have hi' : i < la.length := by simp at hlt; omega
      refine ldN (ha.ahead hf.base) (by omega) (by omega) ?_
      rw [Int.toNat_natCast]
      exact ⟨rfl, rfl, rfl, rfl, rfl, rfl, by rw [hnb], i, 0, 0, l, rfl, rfl, hi', rfl, rfl, by omega, rfl, Nat.zero_le _, hf, hl, ol, hz, by simp [val, hv]⟩
    · have hi' : i = la.length := by simp at hge; omega
      subst hi'
      rw [List.take_length, vx, vy] at hv
      refine Calls.mono (Fill.norm hf (by omega) ol) ?_
      rintro e w6 ⟨rfl, s', rfl, hr⟩
      rw [hv] at hr
      exact ⟨_, rfl, hf.base, _, rfl, hr⟩
  · rintro o1 o5 o19 o20 o21 ow _ t1 out t6 t7 t8 t19 t20 t21 t26 t27 t28 w1 ⟨rfl, rfl, rfl, rfl, rfl, rfl, rfl, i, k, cr, l, rfl, rfl, hi, rfl, rfl, hcr, rfl, hk, hf, hl, ol, hz, hv⟩
    have hx := ok_getD oa (by omega : 0 < B32) i
    refine br_intro (fun hlt => ?_) (fun hge => ?_)
    · have hk' : k < lb.length := by simp at hlt; omega
      have e8 : IntKind.i64.wrap ((k : Int) + 1) = ((k + 1 : Nat) : Int) := by rw [wrap_i64 (by omega) (by omega)]; omega
      have hy := ok_getD ob (by omega : 0 < B32) k
      have hoo := ok_getD ol (by omega : 0 < B32) (i + k)
      refine ldN (hb.ahead hf.base) (by omega) (by omega) ?_
      rw [Int.toNat_natCast, wrap_i64 (x := (i : Int) + (k : Int)) (by omega) (by omega), show (i : Int) + (k : Int) = ((i + k : Nat) : Int) by omega]
      refine ldN hf.rd (by omega) (by omega) ?_
      rw [Int.toNat_natCast]
      have vs := fun s : Nat => val_set (B := B32) l (i + k) s (by omega)
      have tk := val_take_succ' lb k (B := B32)
      have hxy : la.getD i 0 * lb.getD k 0 ≤ 4294967295 * 4294967295 := Nat.mul_le_mul (by omega) (by omega)
      have ec : IntKind.u64.wrap (IntKind.u64.wrap (IntKind.u64.wrap (((la.getD i 0 : Nat) : Int) * ((lb.getD k 0 : Nat) : Int)) + ((l.getD (i + k) 0 : Nat) : Int)) + (cr : Int)) = ((la.getD i 0 * lb.getD k 0 + l.getD (i + k) 0 + cr : Nat) : Int) := by
        rw [show ((la.getD i 0 : Nat) : Int) * ((lb.getD k 0 : Nat) : Int) = ((la.getD i 0 * lb.getD k 0 : Nat) : Int) by push_cast; rfl]
        generalize la.getD i 0 * lb.getD k 0 = xy at *
        rw [wrap_u64' (x := (xy : Int)) (by omega) (by omega), wrap_u64' (x := (xy : Int) + _) (by omega) (by omega), wrap_u64' (by omega) (by omega)]; omega
      rw [ec]
      have hvlt : la.getD i 0 * lb.getD k 0 + l.getD (i + k) 0 + cr < 18446744073709551616 := by omega
      have hvd : (la.getD i 0 * lb.getD k 0 + l.getD (i + k) 0 + cr) / 4294967296 < 4294967296 := by omega
      have dm := Nat.mod_add_div (la.getD i 0 * lb.getD k 0 + l.getD (i + k) 0 + cr) B32
      have e1 : la.getD i 0 * (val B32 (lb.take k) + B32 ^ k * lb.getD k 0) * B32 ^ i = la.getD i 0 * val B32 (lb.take k) * B32 ^ i + B32 ^ (i + k) * (la.getD i 0 * lb.getD k 0) := by
        rw [Nat.mul_add, Nat.add_mul, Nat.pow_add]; congr 1; ac_rfl
      have goal2 : ∀ s q : Nat, s + B32 * q = la.getD i 0 * lb.getD k 0 + l.getD (i + k) 0 + cr → val B32 (l.set (i + k) s) + q * B32 ^ (i + (k + 1)) = val B32 (la.take i) * val B32 lb + la.getD i 0 * val B32 (lb.take (k + 1)) * B32 ^ i := by
        intro s q hsq
        have vs := vs s
        rw [tk, e1, show i + (k + 1) = i + k + 1 by omega, Nat.pow_succ]
        generalize la.getD i 0 * lb.getD k 0 = xy at *
        generalize l.getD (i + k) 0 = o at *
        generalize B32 ^ (i + k) = P at *
        have f1 : P * (s + B32 * q) = P * s + q * (P * B32) := by rw [Nat.mul_add]; congr 1; ac_rfl
        have f2 : P * (xy + o + cr) = P * xy + P * o + cr * P := by rw [Nat.mul_add, Nat.mul_add, Nat.mul_comm P cr]
        rw [hsq, f2] at f1
        omega
      have goal2' := goal2 _ _ dm
      generalize la.getD i 0 * lb.getD k 0 + l.getD (i + k) 0 + cr = v at *
      have e2 : Int.tmod (v : Int) 4294967296 = ((v % B32 : Nat) : Int) := by rw [Int.tmod_eq_emod_of_nonneg (by omega), hB32]; omega
      have e3 : IntKind.u64.wrap (Int.tdiv (v : Int) 4294967296) = ((v / B32 : Nat) : Int) := by
        have : Int.tdiv (v : Int) 4294967296 = ((v / 4294967296 : Nat) : Int) := by rw [Int.tdiv_eq_ediv_of_nonneg (by omega)]; omega
        rw [this, wrap_u64' (by omega) (by omega), hB32]
      rw [e2, e3, e8]
      refine stF hf (by omega) (by omega) ?_
      intro w6 hf6
      rw [Int.toNat_natCast] at hf6
      refine ⟨⟨by trivial, by trivial, by trivial, by trivial, by trivial, by trivial, by trivial, i, k + 1, _, _, rfl, rfl, hi, rfl, rfl, by rw [hB32]; exact hvd, rfl, hk', hf6, by simpa using hl, ok_set ol (Nat.mod_lt _ (by omega)), fun j h2 h3 => ?_, goal2'⟩, by omega⟩
      rw [List.length_set] at h3
      rw [getD_set _ _ _ _ (by omega), if_neg (by omega)]
      exact hz j h2 h3
    · have hk' : k = lb.length := by simp at hge; omega
      subst hk'
      have e8 : IntKind.i64.wrap ((i : Int) + 1) = ((i + 1 : Nat) : Int) := by rw [wrap_i64 (by omega) (by omega)]; omega
      rw [hnb, wrap_i64 (x := (i : Int) + ((lb.length : Nat) : Int)) (by omega) (by omega), show (i : Int) + ((lb.length : Nat) : Int) = ((i + lb.length : Nat) : Int) by omega]
      refine stF hf (by omega) (by omega) ?_
      intro w8 hf8
      rw [Int.toNat_natCast] at hf8
      have hzero := hz (i + lb.length) (Nat.le_refl _) (by omega)
      refine ⟨⟨rfl, rfl, rfl, i + 1, _, e8, hi, hf8, by simpa using hl, ok_set ol hcr, fun j h2 h3 => ?_, ?_⟩, by rw [e8]; omega⟩
      · rw [List.length_set] at h3
        rw [getD_set _ _ _ _ (by omega), if_neg (by omega)]
        exact hz j (by omega) h3
      · have vs := val_set (B := B32) l (i + lb.length) cr (by omega)
        rw [hzero, Nat.mul_zero, Nat.add_zero] at vs
        rw [vs, Nat.mul_comm (B32 ^ (i + lb.length)), hv, List.take_length, val_take_succ', Nat.add_mul]
        congr 1
        ac_rfl

end Ref
end Go.Proofs.YtahbekmnphkiiaaDoor
namespace Go.Proofs.YtahbekmnphkiiaaDoor
open Go Go.RowKit Eng
set_option linter.unusedVariables false

def surdref01_Div_cut (J0 : Slc → Slc → Slc → Slc → Int → World → Prop) (m0 : Slc → Slc → Slc → Slc → Int → World → Nat) (J2 : Slc → Slc → Slc → Slc → Int → World → Slc → Slc → Slc → Slc → Int → Int → Int → World → Prop) (m2 : Slc → Slc → Slc → Slc → Int → World → Slc → Slc → Slc → Slc → Int → Int → Int → World → Nat) : Nat → Option ((Act → World → Prop) × (Act → World → Nat))
  | 0 => some (fun a_ w_ => atSz a_ 60 (atS a_ 0 fun t0_a => atS a_ 1 fun t1_b => atS a_ 6 fun t6_rest => atS a_ 7 fun t7_out => atI .i64 a_ 8 fun t8_i => J0 t0_a t1_b t6_rest t7_out t8_i w_), fun a_ w_ => mS a_ 0 fun t0_a => mS a_ 1 fun t1_b => mS a_ 6 fun t6_rest => mS a_ 7 fun t7_out => mI a_ 8 fun t8_i => m0 t0_a t1_b t6_rest t7_out t8_i w_)
  | _ => none

def surdref01_Div_cut_0 (J0 : Slc → Slc → Slc → Slc → Int → World → Prop) (m0 : Slc → Slc → Slc → Slc → Int → World → Nat) (J2 : Slc → Slc → Slc → Slc → Int → World → Slc → Slc → Slc → Slc → Int → Int → Int → World → Prop) (m2 : Slc → Slc → Slc → Slc → Int → World → Slc → Slc → Slc → Slc → Int → Int → Int → World → Nat) (o_t0_a : Slc) (o_t1_b : Slc) (o_t6_rest : Slc) (o_t7_out : Slc) (o_t8_i : Int) (o_w_ : World) : Nat → Option ((Act → World → Prop) × (Act → World → Nat))
  | 2 => some (fun a_ w_ => atSz a_ 60 (atS a_ 0 fun t0_a => atS a_ 1 fun t1_b => atS a_ 6 fun t6_rest => atS a_ 7 fun t7_out => atI .i64 a_ 8 fun t8_i => atI .u64 a_ 9 fun t9_q => atI .i64 a_ 10 fun t10_s => J2 o_t0_a o_t1_b o_t6_rest o_t7_out o_t8_i o_w_ t0_a t1_b t6_rest t7_out t8_i t9_q t10_s w_), fun a_ w_ => mS a_ 0 fun t0_a => mS a_ 1 fun t1_b => mS a_ 6 fun t6_rest => mS a_ 7 fun t7_out => mI a_ 8 fun t8_i => mI a_ 9 fun t9_q => mI a_ 10 fun t10_s => m2 o_t0_a o_t1_b o_t6_rest o_t7_out o_t8_i o_w_ t0_a t1_b t6_rest t7_out t8_i t9_q t10_s w_)
  | _ => none

set_option maxRecDepth 100000 in
/-- surd/surdref01.Div: function 73. -/
theorem surdref01_Div_vc (a0_a : Slc) (a1_b : Slc) (w : World) (R : Ending → World → Prop)
    (J0 : Slc → Slc → Slc → Slc → Int → World → Prop) (m0 : Slc → Slc → Slc → Slc → Int → World → Nat) (J2 : Slc → Slc → Slc → Slc → Int → World → Slc → Slc → Slc → Slc → Int → Int → Int → World → Prop) (m2 : Slc → Slc → Slc → Slc → Int → World → Slc → Slc → Slc → Slc → Int → Int → Int → World → Nat)
    (h : semS Tryd.prog (Instr.makeSlice 25 (Value.int .i64 (a0_a.n : Int)) (Value.int .i64 (a0_a.n : Int))) w fun s1 w1 =>
    J0 a0_a a1_b (⟨none, 0, 0⟩ : Slc) s1 (IntKind.i64.wrap ((a0_a.n : Int) - 1)) w1)
    (h0 : ∀ (t0_a : Slc) (t1_b : Slc) (t6_rest : Slc) (t7_out : Slc) (t8_i : Int) (w_ : World), J0 t0_a t1_b t6_rest t7_out t8_i w_ → 
    br (decide (t8_i ≥ 0))
    (fixA Tryd.prog (Instr.indexAt 25 t0_a.v (Value.int .i64 t8_i)) w_.drew fun ad1 =>
     ldI .u64 ad1 w_.drew fun x1 =>
     (Calls Tryd.prog 50 #[t6_rest.v, Value.int .i64 32] w_.drew fun e1 w2 =>
      ∃ s2 : Slc, e1 = .returned s2.v ∧
      (Ahead w_.drew w2 ∧
       (newC w2 #[Value.int .u64 x1] 47 fun ad2 w3 =>
        Ahead w2 w3 ∧
        (Calls Tryd.prog 72 #[(⟨some ad2, 1, 1⟩ : Slc).v] w3 fun e2 w4 =>
         ∃ s3 : Slc, e2 = .returned s3.v ∧
         (Ahead w3 w4 ∧
          (Calls Tryd.prog 96 #[s2.v, s3.v] w4 fun e3 w5 =>
           ∃ s4 : Slc, e3 = .returned s4.v ∧
           (Ahead w4 w5 ∧
            (Calls Tryd.prog 76 #[s4.v, t1_b.v] w5 fun e4 w6 =>
             ∃ x2 : Int, e4 = .returned (Value.int .i64 x2) ∧
             (br (decide (x2 ≥ 0))
              (J2 t0_a t1_b t6_rest t7_out t8_i w_ t0_a t1_b s4 t7_out t8_i 0 31 w6)
              (semA Tryd.prog (Instr.indexAt 25 t7_out.v (Value.int .i64 t8_i)) w6 fun ad4 w13 =>
               stC ad4 (Value.int .u64 0) w13 fun w14 =>
               J0 t0_a t1_b s4 t7_out (IntKind.i64.wrap (t8_i - 1)) w14 ∧
               m0 t0_a t1_b s4 t7_out (IntKind.i64.wrap (t8_i - 1)) w14 < m0 t0_a t1_b t6_rest t7_out t8_i w_)))))))))) ∧
     (newC w_.drew #[Value.int .u64 x1] 47 fun ad5 w15 =>
      Ahead w_.drew w15 ∧
      (Calls Tryd.prog 50 #[t6_rest.v, Value.int .i64 32] w15 fun e8 w16 =>
       ∃ s7 : Slc, e8 = .returned s7.v ∧
       (Ahead w15 w16 ∧
        (Calls Tryd.prog 72 #[(⟨some ad5, 1, 1⟩ : Slc).v] w16 fun e9 w17 =>
         ∃ s8 : Slc, e9 = .returned s8.v ∧
         (Ahead w16 w17 ∧
          (Calls Tryd.prog 96 #[s7.v, s8.v] w17 fun e10 w18 =>
           ∃ s9 : Slc, e10 = .returned s9.v ∧
           (Ahead w17 w18 ∧
            (Calls Tryd.prog 76 #[s9.v, t1_b.v] w18 fun e11 w19 =>
             ∃ x5 : Int, e11 = .returned (Value.int .i64 x5) ∧
             (br (decide (x5 ≥ 0))
              (J2 t0_a t1_b t6_rest t7_out t8_i w_ t0_a t1_b s9 t7_out t8_i 0 31 w19)
              (semA Tryd.prog (Instr.indexAt 25 t7_out.v (Value.int .i64 t8_i)) w19 fun ad6 w20 =>
               stC ad6 (Value.int .u64 0) w20 fun w21 =>
               J0 t0_a t1_b s9 t7_out (IntKind.i64.wrap (t8_i - 1)) w21 ∧
               m0 t0_a t1_b s9 t7_out (IntKind.i64.wrap (t8_i - 1)) w21 < m0 t0_a t1_b t6_rest t7_out t8_i w_)))))))))))
    (Calls Tryd.prog 72 #[t7_out.v] w_ fun e12 w22 =>
     ∃ s10 : Slc, e12 = .returned s10.v ∧
     (R (.returned (Value.tuple #[s10.v, t6_rest.v])) w22)))
    (h2 : ∀ (t0_a : Slc) (t1_b : Slc) (t6_rest : Slc) (t7_out : Slc) (t8_i : Int) (w_ : World), J0 t0_a t1_b t6_rest t7_out t8_i w_ → ∀ (t0_a' : Slc) (t1_b' : Slc) (t6_rest' : Slc) (t7_out' : Slc) (t8_i' : Int) (t9_q' : Int) (t10_s' : Int) (w__ : World), J2 t0_a t1_b t6_rest t7_out t8_i w_ t0_a' t1_b' t6_rest' t7_out' t8_i' t9_q' t10_s' w__ → 
    br (decide (t10_s' ≥ 0))
    (Calls Tryd.prog 50 #[t1_b'.v, Value.int .i64 t10_s'] w__ fun e5 w7 =>
     ∃ s5 : Slc, e5 = .returned s5.v ∧
     (Calls Tryd.prog 76 #[t6_rest'.v, s5.v] w7 fun e6 w8 =>
      ∃ x3 : Int, e6 = .returned (Value.int .i64 x3) ∧
      (br (decide (x3 ≥ 0))
       (Calls Tryd.prog 97 #[t6_rest'.v, s5.v] w8 fun e7 w9 =>
        ∃ s6 : Slc, e7 = .returned s6.v ∧
        (semI Tryd.prog .u64 (binOp .shl 47 (Value.int .u64 1) (Value.int .i64 t10_s')) w9 fun x4 w10 =>
         J2 t0_a t1_b t6_rest t7_out t8_i w_ t0_a' t1_b' s6 t7_out' t8_i' (IntKind.u64.wrap (t9_q' + x4)) (IntKind.i64.wrap (t10_s' - 1)) w10 ∧
         m2 t0_a t1_b t6_rest t7_out t8_i w_ t0_a' t1_b' s6 t7_out' t8_i' (IntKind.u64.wrap (t9_q' + x4)) (IntKind.i64.wrap (t10_s' - 1)) w10 < m2 t0_a t1_b t6_rest t7_out t8_i w_ t0_a' t1_b' t6_rest' t7_out' t8_i' t9_q' t10_s' w__))
       (J2 t0_a t1_b t6_rest t7_out t8_i w_ t0_a' t1_b' t6_rest' t7_out' t8_i' t9_q' (IntKind.i64.wrap (t10_s' - 1)) w8 ∧
        m2 t0_a t1_b t6_rest t7_out t8_i w_ t0_a' t1_b' t6_rest' t7_out' t8_i' t9_q' (IntKind.i64.wrap (t10_s' - 1)) w8 < m2 t0_a t1_b t6_rest t7_out t8_i w_ t0_a' t1_b' t6_rest' t7_out' t8_i' t9_q' t10_s' w__))))
    (semA Tryd.prog (Instr.indexAt 25 t7_out'.v (Value.int .i64 t8_i')) w__ fun ad3 w11 =>
     stC ad3 (Value.int .u64 t9_q') w11 fun w12 =>
     J0 t0_a' t1_b' t6_rest' t7_out' (IntKind.i64.wrap (t8_i' - 1)) w12 ∧
     m0 t0_a' t1_b' t6_rest' t7_out' (IntKind.i64.wrap (t8_i' - 1)) w12 < m0 t0_a t1_b t6_rest t7_out t8_i w_)) :
    Calls Tryd.prog 73 #[a0_a.v, a1_b.v] w R := by
  refine calls_of_vc (surdref01_Div_cut J0 m0 J2 m2) (by kernel_rfl) Tryd.func73 rfl ?_ ?_
  · refine kcast h ?_; kernel_rfl
  · exact (obl_seq rfl (obl_reg (obl_seq rfl (obl_reg (obl_seq rfl (obl_reg (obl_seq rfl (obl_seq rfl (obl_reg (obl_loop _ rfl (fun a_ w_ hL_ => (by
    obtain ⟨hz_, hd_, hL_⟩ := atSz_out hL_
    obtain ⟨t0_a, h0_, hL_⟩ := atS_out hL_
    obtain ⟨t1_b, h1_, hL_⟩ := atS_out hL_
    obtain ⟨t6_rest, h6_, hL_⟩ := atS_out hL_
    obtain ⟨t7_out, h7_, hL_⟩ := atS_out hL_
    obtain ⟨t8_i, h8_, hL_⟩ := atI_out hL_
    obtain ⟨g0, rfl⟩ : ∃ g, a_ = Fr 60 [(0, t0_a.v), (1, t1_b.v), (6, t6_rest.v), (7, t7_out.v), (8, Value.int .i64 t8_i)] g := ⟨_, fr_of hz_ hd_ [(0, t0_a.v), (1, t1_b.v), (6, t6_rest.v), (7, t7_out.v), (8, Value.int .i64 t8_i)] (sel_cons h0_ (sel_cons h1_ (sel_cons h6_ (sel_cons h7_ (sel_cons h8_ sel_nil)))))⟩
    clear hz_ hd_ h0_ h1_ h6_ h7_ h8_
    have hJ0_ := hL_
    refine ⟨(surdref01_Div_cut_0 J0 m0 J2 m2 t0_a t1_b t6_rest t7_out t8_i w_), kcast (h0 t0_a t1_b t6_rest t7_out t8_i w_ hJ0_) ?_, ?_⟩
    · kernel_rfl
    · exact (obl_seq rfl (obl_seq rfl (obl_reg (obl_cond (obl_skip (obl_exit (obl_seq rfl (obl_blk rfl (obl_seq rfl (obl_held (by kernel_rfl) (by kernel_rfl) (by kernel_rfl) (obl_seq rfl (obl_reg (obl_seq rfl (obl_seq rfl (obl_reg (obl_cond (obl_seq rfl (obl_reg (obl_loop _ rfl (fun a_ w__ hL_ => (by
      obtain ⟨hz_, hd_, hL_⟩ := atSz_out hL_
      obtain ⟨t0_a', h0_, hL_⟩ := atS_out hL_
      obtain ⟨t1_b', h1_, hL_⟩ := atS_out hL_
      obtain ⟨t6_rest', h6_, hL_⟩ := atS_out hL_
      obtain ⟨t7_out', h7_, hL_⟩ := atS_out hL_
      obtain ⟨t8_i', h8_, hL_⟩ := atI_out hL_
      obtain ⟨t9_q', h9_, hL_⟩ := atI_out hL_
      obtain ⟨t10_s', h10_, hL_⟩ := atI_out hL_
      obtain ⟨g2, rfl⟩ : ∃ g, a_ = Fr 60 [(0, t0_a'.v), (1, t1_b'.v), (6, t6_rest'.v), (7, t7_out'.v), (8, Value.int .i64 t8_i'), (9, Value.int .u64 t9_q'), (10, Value.int .i64 t10_s')] g := ⟨_, fr_of hz_ hd_ [(0, t0_a'.v), (1, t1_b'.v), (6, t6_rest'.v), (7, t7_out'.v), (8, Value.int .i64 t8_i'), (9, Value.int .u64 t9_q'), (10, Value.int .i64 t10_s')] (sel_cons h0_ (sel_cons h1_ (sel_cons h6_ (sel_cons h7_ (sel_cons h8_ (sel_cons h9_ (sel_cons h10_ sel_nil)))))))⟩
      clear hz_ hd_ h0_ h1_ h6_ h7_ h8_ h9_ h10_
      have hJ2_ := hL_
      refine ⟨(fun _ => none), kcast (h2 t0_a t1_b t6_rest t7_out t8_i w_ hJ0_ t0_a' t1_b' t6_rest' t7_out' t8_i' t9_q' t10_s' w__ hJ2_) ?_, ?_⟩
      · kernel_rfl
      · exact (obl_seq rfl (obl_seq rfl (obl_reg (obl_cond (obl_skip (obl_exit (obl_seq rfl (obl_blk rfl (obl_seq rfl (obl_reg (obl_seq rfl (obl_reg (obl_cond (obl_seq rfl (obl_reg (obl_reg (obl_skip (obl_reg trivial)))))))))))))))))))) (obl_skip (obl_reg (obl_reg trivial)))))))))))))))))))))))) (obl_seq rfl (obl_reg (obl_ret trivial)))))))))))))

end Go.Proofs.YtahbekmnphkiiaaDoor
namespace Go.Proofs.YtahbekmnphkiiaaDoor
open Go Go.RowKit Eng Sp Dg
set_option linter.unusedVariables false
set_option linter.unusedSimpArgs false
set_option maxRecDepth 100000
namespace Ref
open _root_.Go.Proofs.YtahbekmnphkiiaaDoor.Nat (ldN ldNf mkN semShl one_rd)
open _root_.Go.Proofs.YtahbekmnphkiiaaDoor.Mul (Only Off stO Only.rd)

def DivJ0 (w : World) (p q : Slc) (x y : Nat) (t0 t1 rest out : Slc) (i : Int) (w' : World) : Prop :=
  t0 = p ∧ t1 = q ∧ Ahead w w' ∧ ∃ (l : List Nat) (j r : Nat), i = (j : Int) - 1 ∧ j ≤ (digs B32 x).length ∧ Own .u64 tU64 w' out (nn l) w.heap.size ∧ l.length = (digs B32 x).length ∧ ok B32 l ∧
    val B32 ((digs B32 x).drop j) = val B32 (l.drop j) * y + r ∧ r < y ∧ RN w' rest r ∧ ∀ ad, rest.A = some ad → w.heap.size < ad.block
def DivJ2 (w : World) (p q : Slc) (x y : Nat) (o : Slc) (io : Int) (t0 t1 rest out : Slc) (i t9 t10 : Int) (w' : World) : Prop :=
  t0 = p ∧ t1 = q ∧ out = o ∧ i = io ∧ Ahead w w' ∧ ∃ (l : List Nat) (j r Q S r' : Nat), i = (j : Int) ∧ j < (digs B32 x).length ∧ Own .u64 tU64 w' out (nn l) w.heap.size ∧ l.length = (digs B32 x).length ∧ ok B32 l ∧
    val B32 ((digs B32 x).drop (j + 1)) = val B32 (l.drop (j + 1)) * y + r ∧ t9 = (Q : Int) ∧ t10 = (S : Int) - 1 ∧ S ≤ 32 ∧ r * B32 + (digs B32 x).getD j 0 = Q * y + r' ∧ r' < y * 2 ^ S ∧ Q + 2 ^ S ≤ 2 ^ 32 ∧
    RN w' rest r' ∧ ∀ ad, rest.A = some ad → w.heap.size < ad.block

theorem len_lt_of {B x y k : Nat} (hB : 2 ≤ B) (h : x < y * B ^ k) : (digs B x).length ≤ (digs B y).length + k := by
  refine digs_length_le hB (Nat.lt_of_lt_of_le h ?_)
  rw [Nat.pow_add]
  refine Nat.mul_le_mul_right _ ?_
  have := val_lt (ok_digs hB y)
  rw [val_digs hB] at this
  omega
theorem drop_set_self (l : List Nat) (i q : Nat) (h : i < l.length) : (l.set i q).drop i = q :: l.drop (i + 1) := by
  apply List.ext_getElem?
  intro k
  rw [List.getElem?_drop]
  cases k with
  | zero => simp [h]
  | succ k =>
    rw [List.getElem?_set_ne (by omega)]
    simp; congr 1; omega

theorem rDiv_spec {w : World} {p q : Slc} {x y : Nat} (hp : RN w p x) (hq : RN w q y) (hy : 0 < y) (la : (digs B32 x).length ≤ 2 ^ 45) (lb : (digs B32 y).length + 2 ≤ 2 ^ 45) :
    Calls pr surdref01_Div_id #[p.v, q.v] w fun e w' => Ahead w w' ∧ ∃ s t, e = .returned (.tuple #[Slc.v s, Slc.v t]) ∧ RN w' s (x / y) ∧ RN w' t (x % y) := by
  have hB32 := B32v
  have hB := B64v
  have hna := hp.n
  have oa := ok_digs two32 x
  have vx := val_digs two32 x
  have step : ∀ {t1 : Slc} {l : List Nat} {out rest : Slc} {j Q r r' : Nat} {w' : World}, Ahead w w' → j < (digs B32 x).length → Own .u64 tU64 w' out (nn l) w.heap.size → l.length = (digs B32 x).length → ok B32 l →
      val B32 ((digs B32 x).drop (j + 1)) = val B32 (l.drop (j + 1)) * y + r → r * B32 + (digs B32 x).getD j 0 = Q * y + r' → r' < y → Q < B32 → RN w' rest r' → (∀ ad, rest.A = some ad → w.heap.size < ad.block) →
      semA pr (Instr.indexAt 25 out.v (.int .i64 (j : Int))) w' fun ad w1 => stC ad (.int .u64 (Q : Int)) w1 fun w2 =>
        DivJ0 w p q x y p q rest out (IntKind.i64.wrap ((j : Int) - 1)) w2 ∧ (IntKind.i64.wrap ((j : Int) - 1) + 1).toNat < ((j : Int) + 1).toNat := by
    intro t1 l out rest j Q r r' w' ha hj ho hl ol hv hR hr' hQ hrest hfr
    refine stO ho (by omega) (by omega) ?_
    intro w2 ho2 hon
    rw [Int.toNat_natCast] at ho2
    rw [wrap_i64 (by omega) (by omega)]
    refine ⟨⟨rfl, rfl, hon.ahead ha (Nat.le_refl _), _, j, r', rfl, by omega, ho2, by simpa using hl, ok_set ol hQ, ?_, hr', hon.rd hrest (fun ad e _ => by have := hfr ad e; omega), hfr⟩, by omega⟩
    rw [drop_set_self _ _ _ (by omega), List.drop_eq_getElem_cons hj, ← getD_lt _ 0 hj]
    simp only [val]
    rw [hv, Nat.mul_add, Nat.add_mul, ← Nat.mul_assoc, Nat.mul_comm B32 r]
    omega
  refine surdref01_Div_vc p q w _ (DivJ0 w p q x y) (fun _ _ _ _ i _ => (i + 1).toNat) (fun _ _ _ o i _ => DivJ2 w p q x y o i) (fun _ _ _ _ _ _ _ _ _ _ _ _ s _ => (s + 1).toNat) ?_ ?_ ?_
  · rw [hna]
    refine mkN (by omega) (by omega) ?_
    intro c w1 hc ho h1 hs1
    rw [wrap_i64 (by omega) (by omega)]
    refine ⟨rfl, rfl, h1, _, (digs B32 x).length, 0, rfl, Nat.le_refl _, ho, by simp, ok_replicate (by omega) _, ?_, hy, RN.nil, fun ad h => by cases h⟩
    rw [List.drop_eq_nil_of_le (Nat.le_refl _), List.drop_eq_nil_of_le (by simp)]; simp [val]
  · rintro t0 t1 rest out i w1 ⟨rfl, rfl, h1, l, j, r, rfl, hj, ho, hl, ol, hv, hr, hrest, hfr⟩
    refine br_intro (fun hge => ?_) (fun hlt => ?_)
    · have hj1 : 1 ≤ j := by simp at hge; omega
      obtain ⟨k, rfl⟩ : ∃ k, j = k + 1 := ⟨j - 1, by omega⟩
      have ei : (((k + 1 : Nat) : Int) - 1) = (k : Int) := by omega
      rw [ei]
      have hx := ok_getD oa (by omega : 0 < B32) k
      have hd := Ahead.drew w1
      have lr : (digs B32 r).length ≤ (digs B32 y).length := len_mono two32 (Nat.le_of_lt hr)
      have l2 : (digs B32 (r * 2 ^ 32)).length ≤ (digs B32 y).length + 1 := len_lt_of two32 (by rw [hB32, Nat.pow_one]; omega)
      obtain ⟨R, hR⟩ : ∃ R, R = r * 2 ^ 32 + (digs B32 x).getD k 0 := ⟨_, rfl⟩
      have hRy : R < y * 4294967296 := by
        have : (r + 1) * 4294967296 ≤ y * 4294967296 := Nat.mul_le_mul_right _ hr
        omega
      have l3 : (digs B32 R).length ≤ (digs B32 y).length + 1 := len_lt_of two32 (by rw [Nat.pow_one]; exact hRy)
      have lx : (digs B32 ((digs B32 x).getD k 0)).length ≤ 1 := digs_length_le two32 (by rw [Nat.pow_one]; exact hx)
      have okx : ok B32 [(digs B32 x).getD k 0] := by intro z hz; rw [List.mem_singleton.1 hz]; exact hx
      have vxk : val B32 [(digs B32 x).getD k 0] = (digs B32 x).getD k 0 := by simp only [val]; omega
      -- behind the addition
      have key : ∀ (s4 : Slc) (w5 : World), Ahead w1 w5 → RN w5 s4 R → (∀ ad, s4.A = some ad → w.heap.size < ad.block) →
          Calls pr surdref01_Cmp_id #[s4.v, t1.v] w5 fun e4 w6 => ∃ x2 : Int, e4 = .returned (Value.int .i64 x2) ∧ (br (decide (x2 ≥ 0)) (DivJ2 w t0 t1 x y out (k : Int) t0 t1 s4 out (k : Int) 0 31 w6)
            (semA pr (Instr.indexAt 25 out.v (.int .i64 (k : Int))) w6 fun ad4 w13 => stC ad4 (Value.int .u64 0) w13 fun w14 =>
              DivJ0 w t0 t1 x y t0 t1 s4 out (IntKind.i64.wrap ((k : Int) - 1)) w14 ∧ (IntKind.i64.wrap ((k : Int) - 1) + 1).toNat < ((k : Int) + 1).toNat)) := by
        intro s4 w5 h5 r4 f4
        have h05 := h1.trans h5
        refine Calls.mono (Cmp_spec r4 (RN.ahead hq h05) (by omega) (by omega)) ?_
        rintro e w6 ⟨h6, rfl⟩
        have h06 := h05.trans h6
        have ho6 := ho.ahead (h5.trans h6)
        refine ⟨_, rfl, br_intro (fun hc => ?_) (fun hc => ?_)⟩
        · refine ⟨rfl, rfl, rfl, rfl, h06, l, k, r, 0, 32, R, rfl, by omega, ho6, hl, ol, hv, rfl, rfl, Nat.le_refl _, by rw [hR, hB32]; omega, hRy, by omega, r4.ahead h6, f4⟩
        · have hlt : R < y := by
            have := cmpI_neg (m := R) (n := y)
            have hc' := of_decide_eq_false hc
            exact this.1 (by omega)
          exact step (t1 := t1) (Q := 0) h06 (by omega) ho6 hl ol hv (by rw [hR, hB32]; omega) hlt (by omega) (r4.ahead h6) f4
      refine ldNf (RN.ahead (RN.ahead hp h1) hd) (by omega) (by omega) ?_
      rw [Int.toNat_natCast]
      refine ⟨?_, ?_⟩
      · refine Calls.mono (Shl_spec (RN.ahead hrest hd) (by omega) (by omega) (by simp; omega)) ?_
        rintro e w2 ⟨h2, s2, rfl, r2⟩
        replace r2 : RN w2 s2 (r * 2 ^ 32) := r2
        refine ⟨_, rfl, h2, Ahead.alloc _ _, ?_⟩
        refine Calls.mono (norm_spec (one_rd w2 _) (by simp) okx) ?_
        rw [vxk]
        rintro e w4 ⟨rfl, s3, rfl, r3⟩
        refine ⟨_, rfl, Ahead.refl _, ?_⟩
        refine Calls.mono (Add_specN (RN.ahead r2 (Ahead.alloc _ _)) r3 (by omega) (by omega)) ?_
        rw [← hR]
        rintro e w5 ⟨h5, s4, rfl, r4, f4⟩
        have h25 := ((hd.trans h2).trans (Ahead.alloc _ _)).trans h5
        refine ⟨_, rfl, h5, key s4 w5 h25 r4 fun ad e => ?_⟩
        have q1 := f4 ad e
        rw [size_alloc] at q1
        have := ho.lt
        have := (hd.trans h2).size
        omega
      · refine ⟨Ahead.alloc _ _, ?_⟩
        have ha := (hd.trans (Ahead.alloc w1.drew (.cells #[.int .u64 (((digs B32 x).getD k 0 : Nat) : Int)] tU64 (0, 0))))
        refine Calls.mono (Shl_spec (RN.ahead hrest ha) (by omega) (by omega) (by simp; omega)) ?_
        rintro e w2 ⟨h2, s2, rfl, r2⟩
        replace r2 : RN w2 s2 (r * 2 ^ 32) := r2
        refine ⟨_, rfl, h2, ?_⟩
        refine Calls.mono (norm_spec ((one_rd w1.drew _).ahead h2) (by simp) okx) ?_
        rw [vxk]
        rintro e w4 ⟨rfl, s3, rfl, r3⟩
        refine ⟨_, rfl, Ahead.refl _, ?_⟩
        refine Calls.mono (Add_specN r2 r3 (by omega) (by omega)) ?_
        rw [← hR]
        rintro e w5 ⟨h5, s4, rfl, r4, f4⟩
        refine ⟨_, rfl, h5, key s4 w5 ((ha.trans h2).trans h5) r4 fun ad e => ?_⟩
        have q1 := f4 ad e
        have := ho.lt
        have q2 := h2.size
        rw [size_alloc] at q2
        have := hd.size
        omega
    · have hj0 : j = 0 := by simp at hlt; omega
      subst hj0
      rw [List.drop_zero, List.drop_zero, vx] at hv
      have hq' : val B32 l = x / y := by rw [hv, Nat.add_comm, Nat.add_mul_div_right _ _ hy, Nat.div_eq_of_lt hr]; omega
      have hm' : r = x % y := by rw [hv, Nat.add_comm, Nat.add_mul_mod_self_right, Nat.mod_eq_of_lt hr]
      refine Calls.mono (norm_spec ho.rd (by omega) ol) ?_
      rw [hq']
      rintro e w3 ⟨rfl, s', rfl, hr'⟩
      rw [hm'] at hrest
      exact ⟨_, rfl, h1, _, _, rfl, hr', hrest⟩
  · rintro o0 o1 orest oout oi ow _ t0 t1 rest out i t9 t10 w1 ⟨rfl, rfl, rfl, rfl, h1, l, j, r, Q, S, r', rfl, hj, ho, hl, ol, hv, rfl, rfl, hS, hR, hr', hQ, hrest, hfr⟩
    refine br_intro (fun hge => ?_) (fun hlt => ?_)
    · have hS1 : 1 ≤ S := by simp at hge; omega
      obtain ⟨s, rfl⟩ : ∃ s, S = s + 1 := ⟨S - 1, by omega⟩
      have es : (((s + 1 : Nat) : Int) - 1) = (s : Int) := by omega
      rw [es]
      have hp2 : 2 ^ (s + 1) = 2 * 2 ^ s := by rw [Nat.pow_succ]; omega
      have hpos : 0 < 2 ^ s := Nat.pow_pos (by omega)
      have hle32 : 2 ^ s ≤ 2 ^ 31 := Nat.pow_le_pow_right (by omega) (by omega)
      have hys : y * 2 ^ s < y * B32 ^ 1 := by
        rw [Nat.pow_one]; exact Nat.mul_lt_mul_of_pos_left (by omega) hy
      have ly := len_lt_of two32 hys
      have lr : (digs B32 r').length ≤ (digs B32 y).length + 1 := len_lt_of two32 (by
        rw [Nat.pow_one]
        exact Nat.lt_of_lt_of_le hr' (Nat.mul_le_mul_left _ (by omega)))
      refine Calls.mono (Shl_spec (RN.ahead hq h1) (by omega) (by omega) (by
        have : ((s : Int)).toNat / 32 = 0 := by omega
        omega)) ?_
      rw [Int.toNat_natCast]
      rintro e w7 ⟨h7, s5, rfl, r5⟩
      have h07 := h1.trans h7
      refine ⟨_, rfl, Calls.mono (Cmp_spec (hrest.ahead h7) r5 (by omega) (by omega)) ?_⟩
      rintro e w8 ⟨h8, rfl⟩
      have h08 := h07.trans h8
      have h18 := h7.trans h8
      rw [wrap_i64 (by omega) (by omega)]
      have hcm := cmpI_neg (m := r') (n := y * 2 ^ s)
      refine ⟨_, rfl, br_intro (fun hc => ?_) (fun hc => ?_)⟩
      · have hle : y * 2 ^ s ≤ r' := by
          rcases Nat.lt_or_ge r' (y * 2 ^ s) with h | h
          · have := hcm.2 h; have hc' := of_decide_eq_true hc; omega
          · exact h
        refine Calls.mono (Sub_specN (hrest.ahead h18) (r5.ahead h8) hle (by omega)) ?_
        rintro e w9 ⟨h9, s6, rfl, r6, f6⟩
        refine ⟨_, rfl, semShl (x := 1) (by omega) ?_⟩
        rw [Nat.one_mul, Nat.mod_eq_of_lt (by omega), wrap_u64' (by omega) (by omega), show (Q : Int) + ((2 ^ s : Nat) : Int) = ((Q + 2 ^ s : Nat) : Int) by omega]
        refine ⟨⟨rfl, rfl, rfl, rfl, h08.trans h9, l, j, r, Q + 2 ^ s, s, _, rfl, hj, ho.ahead (h18.trans h9), hl, ol, hv, rfl, rfl, by omega, ?_, ?_, by omega, r6, fun ad e => ?_⟩, by omega⟩
        · rw [hR, Nat.add_mul, Nat.mul_comm y]; rw [Nat.mul_comm y] at hle; omega
        · rw [hp2] at hr'
          have : y * (2 * 2 ^ s) = y * 2 ^ s + y * 2 ^ s := by rw [← Nat.mul_add]; congr 1; omega
          omega
        · have := f6 ad e
          have := ho.lt
          have := h18.size
          omega
      · have hlt' : r' < y * 2 ^ s := by
          have hc' := of_decide_eq_false hc
          exact hcm.1 (by omega)
        exact ⟨⟨rfl, rfl, rfl, rfl, h08, l, j, r, Q, s, _, rfl, hj, ho.ahead h18, hl, ol, hv, rfl, rfl, by omega, hR, hlt', by omega, hrest.ahead h18, hfr⟩, by omega⟩
    · have hS0 : S = 0 := by simp at hlt; omega
      subst hS0
      rw [Nat.pow_zero, Nat.mul_one] at hr'
      exact step (t1 := t1) h1 hj ho hl ol hv hR hr' (by rw [hB32]; omega) hrest hfr

end Ref
end Go.Proofs.YtahbekmnphkiiaaDoor
namespace Go.Proofs.YtahbekmnphkiiaaDoor
open Go Go.RowKit Eng Sp Dg L2
set_option linter.unusedVariables false
set_option linter.unusedSimpArgs false
set_option maxRecDepth 100000
namespace Dy
open _root_.Go.Proofs.YtahbekmnphkiiaaDoor.Ref (RN RN.nil RN.ext RN.ahead Is_spec Len_spec zero_spec Shl_spec Cmp_spec Int_spec rDiv_spec rMul_spec len_mono len_lt_of bl_len32)
open Sb

def zb (z : Int) : Bool := decide (z < 0)
/-- The number of a sign and a size. -/
def sg (neg : Bool) (n : Nat) : Int := if neg then -(n : Int) else n
theorem sg_abs (neg : Bool) (n : Nat) : (sg neg n).natAbs = n := by unfold sg; cases neg <;> simp
theorem zb_sg (neg : Bool) (n : Nat) : zb (sg neg n) = nD neg n := by
  unfold zb sg nD
  cases neg
  · simp
  · by_cases h : n = 0
    · subst h; rfl
    · simp [h]; omega
theorem zb_nD (z : Int) : nD (zb z) z.natAbs = zb z := by
  unfold nD zb
  by_cases h : z < 0
  · have : z.natAbs ≠ 0 := by omega
    simp [h, this]
  · simp [h]
theorem sg_zb (z : Int) : sg (zb z) z.natAbs = z := by
  unfold sg zb
  by_cases h : z < 0
  · rw [decide_eq_true h]; simp; omega
  · rw [decide_eq_false h]; simp; omega
theorem zb_neg (z : Int) : nD (!zb z) z.natAbs = zb (-z) := by
  rw [← zb_sg]
  congr 1
  unfold sg zb
  by_cases h : z < 0
  · rw [decide_eq_true h]; simp; omega
  · rw [decide_eq_false h]; simp; omega
/-- A whole number as an answer. -/
def ZRet (z : Int) (e : Ending) (w' : World) : Prop := ∃ s, e = .returned (.agg (c2 (zb z) s)) ∧ RN w' s z.natAbs

theorem dl_le {B x y : Nat} (hB : 2 ≤ B) (h : x ≤ y) : (digs B x).length ≤ (digs B y).length := len_mono hB h
theorem dl_add {x y k : Nat} (hx : (digs B32 x).length ≤ k) (hy : (digs B32 y).length ≤ k) : (digs B32 (x + y)).length ≤ k + 1 := by
  have h : ∀ z, (digs B32 z).length ≤ k → z < B32 ^ k := fun z hz => by
    have := val_lt (ok_digs two32 z)
    rw [val_digs two32] at this
    exact Nat.lt_of_lt_of_le this (Nat.pow_le_pow_right (by rw [B32v]; omega) hz)
  refine digs_length_le two32 ?_
  have h1 := h x hx
  have h2 := h y hy
  rw [Nat.pow_succ]
  have := Nat.mul_le_mul_left (B32 ^ k) two32
  omega
theorem dl_mul (x y : Nat) : (digs B32 (x * y)).length ≤ (digs B32 x).length + (digs B32 y).length := by
  refine digs_length_le two32 ?_
  have h := fun y => val_lt (ok_digs two32 y)
  have h1 := h x
  have h2 := h y
  rw [val_digs two32] at h1 h2
  rw [Nat.pow_add]
  exact Nat.mul_lt_mul'' h1 h2
/-- How long a quotient and its divisor are together. -/
theorem dl_quot {x y : Nat} (hy : 0 < y) : (digs B32 (x / y)).length + (digs B32 y).length ≤ max ((digs B32 x).length + 1) (digs B32 y).length := by
  by_cases hq : x / y = 0
  · rw [hq, digs_zero]; simp; omega
  · have h1 := (digs_length_bounds two32 hq).1
    have h2 := (digs_length_bounds two32 (show y ≠ 0 by omega)).1
    have p1 := List.length_pos_iff.2 (digs_ne_nil two32 hq)
    have p2 := List.length_pos_iff.2 (digs_ne_nil two32 (show y ≠ 0 by omega))
    have h3 : B32 ^ ((digs B32 (x / y)).length - 1 + ((digs B32 y).length - 1)) ≤ x := by
      rw [Nat.pow_add]
      exact Nat.le_trans (Nat.mul_le_mul h1 h2) (Nat.div_mul_le_self _ _)
    have h4 : (digs B32 (x / y)).length - 1 + ((digs B32 y).length - 1) < (digs B32 x).length := (Ref.digs_lt_iff two32).2 h3
    omega

theorem zNeg_spec {w : World} {a : Slc} {x : Int} (ha : RN w a x.natAbs) :
    Calls pr surdref06_Neg_id #[.agg (c2 (zb x) a)] w fun e w' => Ahead w w' ∧ ZRet (-x) e w' := by
  refine surdref06_Neg_v2 (zb x) a w _ fun w1 x1 a1 => Calls.mono (make1_spec (ha.ahead a1)) ?_
  rintro e w2 ⟨h2, rfl, r2⟩
  refine ⟨_, _, rfl, h2, fun w3 x3 a3 => ⟨a, by rw [zb_neg], ?_⟩⟩
  rw [Int.natAbs_neg]; exact r2.ext x3

theorem zAdd_spec {w : World} {a b : Slc} {x y : Int} (ha : RN w a x.natAbs) (hb : RN w b y.natAbs) (la : (digs B32 x.natAbs).length + 1 ≤ 2 ^ 45) (lb : (digs B32 y.natAbs).length + 1 ≤ 2 ^ 45) :
    Calls pr surdref06_Add_id #[.agg (c2 (zb x) a), .agg (c2 (zb y) b)] w fun e w' => Ahead w w' ∧ ZRet (x + y) e w' := by
  refine surdref06_Add_v2 (zb x) a (zb y) b w _ (br_intro (fun he => ?_) (fun hne => ?_))
  · intro w1 x1 a1
    have he' := eq_of_beq he
    refine Calls.mono (Ref.Add_spec (ha.ahead a1) (hb.ahead a1) la lb) ?_
    rintro e w2 ⟨h2, s, rfl, r2⟩
    refine ⟨_, rfl, h2, Calls.mono (make1_spec r2) ?_⟩
    rintro e w3 ⟨h3, rfl, r3⟩
    have es : sg (zb x) (x.natAbs + y.natAbs) = x + y := by
      have h1 := sg_zb x
      have h2 := sg_zb y
      rw [← he'] at h2
      unfold sg at *
      split <;> simp_all <;> omega
    refine ⟨_, _, rfl, h3, fun w4 x4 a4 => ⟨s, ?_, ?_⟩⟩
    · rw [← es, zb_sg]
    · rw [← es, sg_abs]; exact r3.ext x4
  · intro w5 x5 a5
    have hne' : zb x ≠ zb y := fun h => by rw [h] at hne; simp at hne
    have hy' : zb y = !zb x := by cases hx : zb x <;> cases hy : zb y <;> simp_all
    refine Calls.mono (Cmp_spec (ha.ahead a5) (hb.ahead a5) (by omega) (by omega)) ?_
    rintro e w6 ⟨h6, rfl⟩
    have a6 := a5.trans h6
    have hc := cmpI_neg (m := x.natAbs) (n := y.natAbs)
    have h1 := sg_zb x
    have h2 := sg_zb y
    rw [hy'] at h2
    refine ⟨_, rfl, h6, br_intro (fun hg => ?_) (fun hl => ?_)⟩
    · have hle : y.natAbs ≤ x.natAbs := by
        rcases Nat.lt_or_ge x.natAbs y.natAbs with h | h
        · have := hc.2 h; have := of_decide_eq_true hg; omega
        · exact h
      intro w7 x7 a7
      refine Calls.mono (Ref.Sub_spec (ha.ahead a7) (hb.ahead a7) hle (by omega)) ?_
      rintro e w8 ⟨h8, s, rfl, r8⟩
      refine ⟨_, rfl, h8, Calls.mono (make1_spec r8) ?_⟩
      rintro e w9 ⟨h9, rfl, r9⟩
      have es : sg (zb x) (x.natAbs - y.natAbs) = x + y := by
        unfold sg at *
        cases hx : zb x <;> simp_all <;> omega
      refine ⟨_, _, rfl, h9, fun w4 x4 a4 => ⟨s, ?_, ?_⟩⟩
      · rw [← es, zb_sg]
      · rw [← es, sg_abs]; exact r9.ext x4
    · have hlt : x.natAbs < y.natAbs := hc.1 (by have := of_decide_eq_false hl; omega)
      intro w7 x7 a7
      refine Calls.mono (Ref.Sub_spec (hb.ahead a7) (ha.ahead a7) (by omega) (by omega)) ?_
      rintro e w8 ⟨h8, s, rfl, r8⟩
      refine ⟨_, rfl, h8, Calls.mono (make1_spec r8) ?_⟩
      rintro e w9 ⟨h9, rfl, r9⟩
      have es : sg (zb y) (y.natAbs - x.natAbs) = x + y := by
        rw [hy']
        unfold sg at *
        cases hx : zb x <;> simp_all <;> omega
      refine ⟨_, _, rfl, h9, fun w4 x4 a4 => ⟨s, ?_, ?_⟩⟩
      · rw [← es, zb_sg]
      · rw [← es, sg_abs]; exact r9.ext x4

theorem zSub_spec {w : World} {a b : Slc} {x y : Int} (ha : RN w a x.natAbs) (hb : RN w b y.natAbs) (la : (digs B32 x.natAbs).length + 1 ≤ 2 ^ 45) (lb : (digs B32 y.natAbs).length + 1 ≤ 2 ^ 45) :
    Calls pr surdref06_Sub_id #[.agg (c2 (zb x) a), .agg (c2 (zb y) b)] w fun e w' => Ahead w w' ∧ ZRet (x - y) e w' := by
  refine surdref06_Sub_v2 (zb x) a (zb y) b w _ fun w1 x1 a1 => Calls.mono (zNeg_spec (hb.ahead a1)) ?_
  rintro e w2 ⟨h2, s, rfl, r2⟩
  refine ⟨_, _, rfl, h2, Calls.mono (zAdd_spec (ha.ahead (a1.trans h2)) r2 la (by rw [Int.natAbs_neg]; exact lb)) ?_⟩
  rintro e w3 ⟨h3, t, rfl, r3⟩
  exact ⟨_, _, rfl, h3, fun w4 x4 a4 => ⟨t, rfl, r3.ext x4⟩⟩

theorem zMul_spec {w : World} {a b : Slc} {x y : Int} (ha : RN w a x.natAbs) (hb : RN w b y.natAbs) (l : (digs B32 x.natAbs).length + (digs B32 y.natAbs).length + 1 ≤ 2 ^ 45) :
    Calls pr surdref06_Mul_id #[.agg (c2 (zb x) a), .agg (c2 (zb y) b)] w fun e w' => Ahead w w' ∧ ZRet (x * y) e w' := by
  refine surdref06_Mul_v2 (zb x) a (zb y) b w _ fun w1 x1 a1 => Calls.mono (Ref.rMul_spec (ha.ahead a1) (hb.ahead a1) l) ?_
  rintro e w2 ⟨h2, s, rfl, r2⟩
  refine ⟨_, rfl, h2, Calls.mono (make1_spec r2) ?_⟩
  rintro e w3 ⟨h3, rfl, r3⟩
  have key : ∀ (p q : Bool) (m n : Nat), sg (!(p == q)) (m * n) = sg p m * sg q n := by
    intro p q m n
    unfold sg
    cases p <;> cases q <;> simp [Int.neg_mul, Int.mul_neg]
  have es : sg (!(zb x == zb y)) (x.natAbs * y.natAbs) = x * y := by rw [key, sg_zb, sg_zb]
  refine ⟨_, _, rfl, h3, fun w4 x4 a4 => ⟨s, ?_, ?_⟩⟩
  · rw [← es, zb_sg]
  · rw [← es, sg_abs]; exact r3.ext x4

theorem zInt1_spec {w : World} : Calls pr surdref06_Int_id #[.int .i64 1] w fun e w' => Ahead w w' ∧ ZRet 1 e w' :=
  Calls.mono (zInt_spec (v := 1) (by omega) (by omega)) fun e w' ⟨h1, s, h2, h3⟩ => ⟨h1, s, h2, h3⟩

theorem floor_sg {neg : Bool} {x y : Nat} (hy : 0 < y) : sg neg x / (y : Int) = sg neg (x / y) - (if x % y ≠ 0 ∧ neg = true then 1 else 0) := by
  have hd := Nat.mod_add_div x y
  have hm := Nat.mod_lt x hy
  have key : ∀ q r : Int, r + (y : Int) * q = sg neg x → 0 ≤ r → r < y → sg neg x / (y : Int) = q := fun q r h1 h2 h3 =>
    ((Int.ediv_emod_unique (by omega)).2 ⟨h1, h2, h3⟩).1
  have e : (x : Int) = ((x % y : Nat) : Int) + (y : Int) * ((x / y : Nat) : Int) := by
    conv => lhs; rw [← hd]
    push_cast; rfl
  generalize x / y = q at *
  generalize x % y = r at *
  cases neg
  · refine key _ (r : Int) ?_ (by omega) (by omega)
    simp [sg]; omega
  · by_cases hr : r = 0
    · refine key _ 0 ?_ (by omega) (by omega)
      subst hr
      simp [sg]; rw [Int.mul_neg]; omega
    · refine key _ ((y : Int) - r) ?_ (by omega) (by omega)
      simp [sg, hr]
      rw [Int.mul_sub, Int.mul_neg]; omega
theorem mod_sub {x : Int} {y : Nat} : x % (y : Int) = x - x / (y : Int) * y := by
  have := Int.emod_add_mul_ediv x y
  rw [Int.mul_comm] at this
  omega
theorem floor_abs {x : Int} {y : Nat} (hy : 0 < y) : (x / (y : Int)).natAbs ≤ x.natAbs / y + 1 := by
  have h := floor_sg (neg := zb x) (x := x.natAbs) hy
  rw [sg_zb] at h
  rw [h]
  generalize x.natAbs / y = q
  unfold sg
  split <;> split <;> omega

theorem zb_nat (y : Nat) : zb (y : Int) = false := decide_eq_false (by omega)
/-- Room for a quotient, and for it times its divisor. -/
theorem dl_floor {x : Int} {y : Nat} (hy : 0 < y) {q : Nat} (hq : q ≤ x.natAbs / y + 1) : (digs B32 q).length + (digs B32 y).length ≤ max ((digs B32 x.natAbs).length + 2) ((digs B32 y).length + 1) := by
  have h1 := dl_quot (x := x.natAbs) hy
  have l1 : (digs B32 1).length ≤ 1 := digs_length_le two32 (by rw [Nat.pow_one, B32v]; omega)
  have h2 := dl_le two32 hq
  by_cases h0 : x.natAbs / y = 0
  · rw [h0, Nat.zero_add] at h2; omega
  · have p := List.length_pos_iff.2 (digs_ne_nil two32 h0)
    have h3 := dl_add (x := x.natAbs / y) (y := 1) (Nat.le_refl _) (by omega)
    omega

set_option maxHeartbeats 1000000 in
theorem zFloor_spec {w : World} {a b : Slc} {x : Int} {y : Nat} (ha : RN w a x.natAbs) (hb : RN w b y) (hy : 0 < y) (la : (digs B32 x.natAbs).length + 6 ≤ 2 ^ 45) (lb : (digs B32 y).length + 6 ≤ 2 ^ 45) :
    Calls pr surdref06_Floor_id #[.agg (c2 (zb x) a), .agg (c2 false b)] w fun e w' => Ahead w w' ∧ ∃ s t, e = .returned (.tuple #[.agg (c2 (zb (x / y)) s), .agg (c2 (zb (x % y)) t)]) ∧ RN w' s (x / (y : Int)).natAbs ∧ RN w' t (x % (y : Int)).natAbs := by
  have hfl := floor_sg (neg := zb x) (x := x.natAbs) hy
  rw [sg_zb] at hfl
  have hfa := floor_abs (x := x) hy
  have l1 : (digs B32 1).length ≤ 1 := digs_length_le two32 (by rw [Nat.pow_one, B32v]; omega)
  have lq := dl_le two32 (Nat.div_le_self x.natAbs y)
  refine surdref06_Floor_v2 (zb x) a false b w _
    (fun t33 x0 x1 y0 y1 _ _ _ _ q0 q1 w' => t33 = decide (x.natAbs % y ≠ 0 ∧ zb x = true) ∧ zb x = x0 ∧ a = x1 ∧ false = y0 ∧ b = y1 ∧ zb (sg (zb x) (x.natAbs / y)) = q0 ∧ RN w' q1 (x.natAbs / y))
    (fun x0 x1 y0 y1 _ _ _ _ q0 q1 w' => zb x = x0 ∧ a = x1 ∧ false = y0 ∧ b = y1 ∧ zb (x / y) = q0 ∧ RN w' q1 (x / (y : Int)).natAbs) ?_ ?_ ?_
  · intro w1 x1 a1
    refine Calls.mono (rDiv_spec (ha.ahead a1) (hb.ahead a1) hy (by omega) (by omega)) ?_
    rintro e w2 ⟨h2, s1, s2, rfl, r1, r2⟩
    refine ⟨_, _, rfl, h2, Calls.mono (make1_spec r1) ?_⟩
    rintro e w3 ⟨h3, rfl, r3⟩
    have en : (!(zb x == false)) = zb x := by cases zb x <;> rfl
    rw [en]
    refine ⟨_, _, rfl, h3, fun w4 x4 a4 => Calls.mono (zero_spec ((r2.ahead h3).ext x4)) ?_⟩
    rintro e w5 ⟨rfl, rfl⟩
    refine ⟨_, rfl, Ahead.refl _, br_intro (fun hz => ?_) (fun hz => ?_)⟩
    · have hz' : x.natAbs % y ≠ 0 := by simpa using hz
      exact ⟨by cases h : zb x <;> simp [hz'], rfl, rfl, rfl, rfl, zb_sg _ _, r3.ext x4⟩
    · have hz' : x.natAbs % y = 0 := by simpa using hz
      exact ⟨by simp [hz'], rfl, rfl, rfl, rfl, zb_sg _ _, r3.ext x4⟩
  · rintro t33 _ _ _ _ _ _ _ _ _ q1 w1 a1 ⟨rfl, rfl, rfl, rfl, rfl, rfl, r1⟩
    refine br_intro (fun hc => ?_) (fun hc => ?_)
    · have hc' := of_decide_eq_true hc
      rw [if_pos hc'] at hfl
      intro w6 x6 a6
      refine Calls.mono zInt1_spec ?_
      rintro e w7 ⟨h7, s4, rfl, r4⟩
      have hs := zSub_spec (w := w7) (a := q1) (b := s4) (x := sg (zb x) (x.natAbs / y)) (y := 1) (by rw [sg_abs]; exact (r1.ext x6).ahead h7) r4 (by rw [sg_abs]; omega) (by show (digs B32 1).length + 1 ≤ _; omega)
      rw [← hfl] at hs
      refine ⟨_, _, rfl, h7, Calls.mono hs ?_⟩
      rintro e w8 ⟨h8, s5, rfl, r5⟩
      exact ⟨_, _, rfl, h8, fun w13 x13 a13 => ⟨rfl, rfl, rfl, rfl, rfl, r5.ext x13⟩⟩
    · have hc' := of_decide_eq_false hc
      rw [if_neg hc', Int.sub_zero] at hfl
      refine ⟨rfl, rfl, rfl, rfl, by rw [hfl], ?_⟩
      rw [hfl, sg_abs]; exact r1
  · rintro _ _ _ _ _ _ _ _ _ q1 w1 a1 ⟨rfl, rfl, rfl, rfl, rfl, r1⟩ w9 x9 a9
    have lf := dl_floor (x := x) hy hfa
    have hm := zMul_spec (w := w9) (a := q1) (b := b) (x := x / (y : Int)) (y := (y : Int)) (r1.ext x9) (hb.ahead a9) (by show _ + (digs B32 y).length + 1 ≤ _; omega)
    rw [zb_nat] at hm
    refine Calls.mono hm ?_
    rintro e w10 ⟨h10, s6, rfl, r6⟩
    have lm : (digs B32 (x / (y : Int) * (y : Int)).natAbs).length + 1 ≤ 2 ^ 45 := by
      rw [Int.natAbs_mul]
      have := dl_mul (x / (y : Int)).natAbs y
      show (digs B32 ((x / (y : Int)).natAbs * y)).length + 1 ≤ _
      omega
    have hs := zSub_spec (w := w10) (x := x) (ha.ahead (a9.trans h10)) r6 (by omega) lm
    rw [← mod_sub] at hs
    refine ⟨_, _, rfl, h10, Calls.mono hs ?_⟩
    rintro e w11 ⟨h11, s7, rfl, r7⟩
    exact ⟨_, _, rfl, h11, fun w12 x12 a12 => ⟨_, _, rfl, (((r1.ext x9).ahead h10).ahead h11).ext x12, r7.ext x12⟩⟩

/-- The product with the divisor, and what is left: they go through. -/
theorem zTail {w : World} {a b q : Slc} {x z : Int} {y : Nat} (ha : RN w a x.natAbs) (hb : RN w b y) (hy : 0 < y) (la : (digs B32 x.natAbs).length + 6 ≤ 2 ^ 45) (lb : (digs B32 y).length + 6 ≤ 2 ^ 45)
    (hq : z.natAbs ≤ x.natAbs / y + 1) (rq : RN w q z.natAbs) {K : Bool → Slc → World → Prop} (hk : ∀ b6 s7 w2, Ahead w w2 → K b6 s7 w2) :
    Calls pr surdref06_Mul_id #[.agg (c2 (zb z) q), .agg (c2 false b)] w fun e6 w10 => ∃ b5 : Bool, ∃ s6 : Slc, e6 = .returned (Value.agg #[Value.bool b5, s6.v]) ∧ Ahead w w10 ∧
      (Calls pr surdref06_Sub_id #[.agg (c2 (zb x) a), Value.agg #[Value.bool b5, s6.v]] w10 fun e7 w11 => ∃ b6 : Bool, ∃ s7 : Slc, e7 = .returned (Value.agg #[Value.bool b6, s7.v]) ∧ Ahead w10 w11 ∧ K b6 s7 w11) := by
  have lf := dl_floor (x := x) hy hq
  have hm := zMul_spec (w := w) (a := q) (b := b) (x := z) (y := (y : Int)) rq hb (by show _ + (digs B32 y).length + 1 ≤ _; omega)
  rw [zb_nat] at hm
  refine Calls.mono hm ?_
  rintro e w10 ⟨h10, s6, rfl, r6⟩
  have lm : (digs B32 (z * (y : Int)).natAbs).length + 1 ≤ 2 ^ 45 := by
    rw [Int.natAbs_mul]
    have := dl_mul z.natAbs y
    show (digs B32 (z.natAbs * y)).length + 1 ≤ _
    omega
  refine ⟨_, _, rfl, h10, Calls.mono (zSub_spec (w := w10) (x := x) (ha.ahead h10) r6 (by omega) lm) ?_⟩
  rintro e w11 ⟨h11, s7, rfl, r7⟩
  exact ⟨_, _, rfl, h11, hk _ _ _ (h10.trans h11)⟩
theorem floor_abs1 {x : Int} {y : Nat} (hy : 0 < y) (hr : x % (y : Int) ≠ 0 ∨ True) : (x / (y : Int) + 1).natAbs ≤ x.natAbs / y + 1 := by
  have h := floor_sg (neg := zb x) (x := x.natAbs) hy
  rw [sg_zb] at h
  rw [h]
  have hx : zb x = true → x.natAbs % y = 0 → 0 < x.natAbs / y := fun h1 h2 => by
    have hne : x.natAbs ≠ 0 := by unfold zb at h1; have := of_decide_eq_true h1; omega
    have := Nat.mod_add_div x.natAbs y
    rcases Nat.eq_zero_or_pos (x.natAbs / y) with h | h
    · rw [h] at this; omega
    · exact h
  generalize x.natAbs / y = q at *
  unfold sg
  split
  · rename_i hn
    have := hx hn
    split
    · omega
    · rename_i h2
      have h3 : x.natAbs % y = 0 := by
        rcases Nat.eq_zero_or_pos (x.natAbs % y) with h | h
        · exact h
        · exact absurd ⟨by omega, hn⟩ h2
      have := hx hn h3
      omega
  · split <;> omega

/-- The answer of a quotient: what is left is not told. -/
def QRet (z : Int) (e : Ending) (w' : World) : Prop := ∃ s b t, e = .returned (.tuple #[.agg (c2 (zb z) s), .agg (c2 b t)]) ∧ RN w' s z.natAbs
theorem sgn_zb {z : Int} : sgn (zb z) z.natAbs = 0 ↔ z = 0 := by rw [sgn_zero_iff]; omega
theorem zSign_zb {w : World} {s : Slc} {z : Int} (h : RN w s z.natAbs) : Calls pr surdref06_Z_Sign_id #[.agg (c2 (zb z) s)] w fun e w' => Ahead w w' ∧ e = .returned (.int .i64 (sgn (zb z) z.natAbs)) := by
  have := zSign_spec (neg := zb z) h
  rw [zb_nD] at this
  exact this
theorem zPlus1 {w : World} {q s : Slc} {z : Int} (hq : RN w q z.natAbs) (hs : RN w s 1) (l : (digs B32 z.natAbs).length + 1 ≤ 2 ^ 45) :
    Calls pr surdref06_Add_id #[.agg (c2 (zb z) q), .agg (c2 (zb 1) s)] w fun e w' => Ahead w w' ∧ ZRet (z + 1) e w' :=
  zAdd_spec hq hs l (by
    have l1 : (digs B32 1).length ≤ 1 := digs_length_le two32 (by rw [Nat.pow_one, B32v]; omega)
    show (digs B32 1).length + 1 ≤ _; omega)
theorem dl_floor1 {x z : Int} {y : Nat} (hy : 0 < y) (hq : z.natAbs ≤ x.natAbs / y + 1) (la : (digs B32 x.natAbs).length + 6 ≤ 2 ^ 45) (lb : (digs B32 y).length + 6 ≤ 2 ^ 45) : (digs B32 z.natAbs).length + 1 ≤ 2 ^ 45 := by
  have := dl_floor (x := x) hy hq
  omega

theorem zCeil_spec {w : World} {a b : Slc} {x : Int} {y : Nat} (ha : RN w a x.natAbs) (hb : RN w b y) (hy : 0 < y) (la : (digs B32 x.natAbs).length + 6 ≤ 2 ^ 45) (lb : (digs B32 y).length + 6 ≤ 2 ^ 45) :
    Calls pr surdref06_Ceil_id #[.agg (c2 (zb x) a), .agg (c2 false b)] w fun e w' => Ahead w w' ∧ QRet (x / y + if x % y ≠ 0 then 1 else 0) e w' := by
  refine surdref06_Ceil_v2 (zb x) a false b w _ fun w1 x1 a1 => Calls.mono (zFloor_spec (ha.ahead a1) (hb.ahead a1) hy la lb) ?_
  rintro e w2 ⟨h2, s1, s2, rfl, r1, r2⟩
  refine ⟨_, _, _, _, rfl, h2, fun w3 x3 a3 => Calls.mono (zSign_zb (r2.ext x3)) ?_⟩
  rintro e w4 ⟨h4, rfl⟩
  refine ⟨_, rfl, h4, br_intro (fun hz => ?_) (fun hz => ?_)⟩
  · have hz' : x % (y : Int) = 0 := sgn_zb.1 (eq_of_beq hz)
    rw [if_neg (show ¬ x % (y : Int) ≠ 0 by omega), Int.add_zero]
    intro w5 x5 a5
    exact ⟨_, _, _, rfl, ((r1.ext x3).ahead h4).ext x5⟩
  · have hz' : x % (y : Int) ≠ 0 := fun h => by rw [sgn_zb.2 h] at hz; simp at hz
    rw [if_pos hz']
    have hf := floor_abs1 (x := x) hy (.inr trivial)
    intro w6 x6 a6
    refine Calls.mono zInt1_spec ?_
    rintro e w7 ⟨h7, s3, rfl, r3⟩
    have r17 := (((r1.ext x3).ahead h4).ext x6).ahead h7
    refine ⟨_, _, rfl, h7, Calls.mono (zPlus1 r17 r3 (dl_floor1 hy (floor_abs hy) la lb)) ?_⟩
    rintro e w8 ⟨h8, s4, rfl, r4⟩
    refine ⟨_, _, rfl, h8, fun w9 x9 a9 => zTail (ha.ahead a9) (hb.ahead a9) hy la lb hf (r4.ext x9) fun b6 s7 w11 h11 w12 x12 a12 => ?_⟩
    exact ⟨_, _, _, rfl, ((r4.ext x9).ahead h11).ext x12⟩

/-- Is the nearest one the next? -/
def nearUp (x : Int) (y : Nat) : Bool := decide (y < 2 * (x % (y : Int)).natAbs ∨ (2 * (x % (y : Int)).natAbs = y ∧ (x / (y : Int)).natAbs % 2 = 1))
theorem zNear_spec {w : World} {a b : Slc} {x : Int} {y : Nat} (ha : RN w a x.natAbs) (hb : RN w b y) (hy : 0 < y) (la : (digs B32 x.natAbs).length + 6 ≤ 2 ^ 45) (lb : (digs B32 y).length + 6 ≤ 2 ^ 45) :
    Calls pr surdref06_Near_id #[.agg (c2 (zb x) a), .agg (c2 false b)] w fun e w' => Ahead w w' ∧ QRet (x / y + if nearUp x y = true then 1 else 0) e w' := by
  have lfl := dl_floor1 hy (floor_abs (x := x) hy) la lb
  refine surdref06_Near_v2 (zb x) a false b w _
    (fun t x0 x1 y0 y1 _ _ _ _ q0 q1 w' => t = nearUp x y ∧ zb x = x0 ∧ a = x1 ∧ false = y0 ∧ b = y1 ∧ zb (x / y) = q0 ∧ RN w' q1 (x / (y : Int)).natAbs)
    (fun x0 x1 y0 y1 _ _ _ _ q0 q1 w' => zb x = x0 ∧ a = x1 ∧ false = y0 ∧ b = y1 ∧ zb (x / y + if nearUp x y = true then 1 else 0) = q0 ∧ RN w' q1 (x / (y : Int) + if nearUp x y = true then 1 else 0).natAbs) ?_ ?_ ?_
  · intro w1 x1 a1
    refine Calls.mono (zFloor_spec (ha.ahead a1) (hb.ahead a1) hy la lb) ?_
    rintro e w2 ⟨h2, s1, s2, rfl, r1, r2⟩
    refine ⟨_, _, _, _, rfl, h2, fun w3 x3 a3 => ?_⟩
    have hr0 := Int.emod_nonneg x (show (y : Int) ≠ 0 by omega)
    have hr1 := Int.emod_lt_of_pos x (show 0 < (y : Int) by omega)
    have lr : (digs B32 (x % (y : Int)).natAbs).length ≤ (digs B32 y).length := dl_le two32 (by omega)
    have lr2 : (digs B32 ((x % (y : Int)).natAbs * 2 ^ 1)).length ≤ (digs B32 y).length + 1 := len_lt_of two32 (by rw [Nat.pow_one, Nat.pow_one, B32v]; omega)
    refine Calls.mono (Shl_spec (r2.ext x3) (by omega) (by omega) (by simp; omega)) ?_
    rintro e w4 ⟨h4, s3, rfl, r3⟩
    replace r3 : RN w4 s3 ((x % (y : Int)).natAbs * 2 ^ 1) := r3
    refine ⟨_, rfl, h4, Calls.mono (Cmp_spec r3 (hb.ahead (a3.trans h4)) (by omega) (by omega)) ?_⟩
    rintro e w5 ⟨h5, rfl⟩
    have r15 := ((r1.ext x3).ahead h4).ahead h5
    have cn := cmpI_neg (m := (x % (y : Int)).natAbs * 2 ^ 1) (n := y)
    have cp := cmpI_pos (m := (x % (y : Int)).natAbs * 2 ^ 1) (n := y)
    have cz := cmpI_zero (m := (x % (y : Int)).natAbs * 2 ^ 1) (n := y)
    refine ⟨_, rfl, h5, br_intro (fun h => ?_) (fun h => br_intro (fun h0 => ?_) (fun h0 => ?_))⟩
    · have h' := cp.1 (of_decide_eq_true h)
      exact ⟨(decide_eq_true (.inl (by omega))).symm, rfl, rfl, rfl, rfl, rfl, r15⟩
    · have h' := cz.1 (eq_of_beq h0)
      have hb0 := Bit_spec (i := 0) r15 (by omega) (by omega)
      rw [Nat.pow_zero, Nat.div_one] at hb0
      refine Calls.mono hb0 ?_
      rintro e w14 ⟨rfl, rfl⟩
      refine ⟨_, rfl, Ahead.refl _, ?_, rfl, rfl, rfl, rfl, rfl, r15⟩
      unfold nearUp
      rw [Bool.eq_iff_iff]
      simp only [decide_eq_true_eq, beq_iff_eq]
      constructor
      · intro h1; exact .inr ⟨by omega, by omega⟩
      · rintro (h1 | h1) <;> omega
    · have hne : cmpI ((x % (y : Int)).natAbs * 2 ^ 1) y ≠ 0 := fun h1 => by rw [h1] at h0; simp at h0
      have h1 := of_decide_eq_false h
      refine ⟨(decide_eq_false ?_).symm, rfl, rfl, rfl, rfl, rfl, r15⟩
      rintro (h2 | h2)
      · exact h1 (cp.2 (by omega))
      · exact hne (cz.2 (by omega))
  · rintro t32 _ _ _ _ _ _ _ _ _ q1 w1 a1 ⟨rfl, rfl, rfl, rfl, rfl, rfl, r1⟩
    refine br_intro (fun hc => ?_) (fun hc => ?_)
    · rw [if_pos hc]
      intro w6 x6 a6
      refine Calls.mono zInt1_spec ?_
      rintro e w7 ⟨h7, s4, rfl, r4⟩
      refine ⟨_, _, rfl, h7, Calls.mono (zPlus1 ((r1.ext x6).ahead h7) r4 lfl) ?_⟩
      rintro e w8 ⟨h8, s5, rfl, r5⟩
      exact ⟨_, _, rfl, h8, fun w13 x13 a13 => ⟨rfl, rfl, rfl, rfl, rfl, r5.ext x13⟩⟩
    · rw [hc]
      simp only [Bool.false_eq_true, if_false, Int.add_zero]
      exact ⟨trivial, trivial, trivial, trivial, trivial, r1⟩
  · rintro _ _ _ _ _ _ _ _ _ q1 w1 a1 ⟨rfl, rfl, rfl, rfl, rfl, r1⟩ w9 x9 a9
    refine zTail (ha.ahead a9) (hb.ahead a9) hy la lb ?_ (r1.ext x9) fun b6 s7 w11 h11 w12 x12 a12 => ⟨_, _, _, rfl, ((r1.ext x9).ahead h11).ext x12⟩
    split
    · exact floor_abs1 hy (.inr trivial)
    · rw [Int.add_zero]; exact floor_abs hy

end Dy
end Go.Proofs.YtahbekmnphkiiaaDoor
namespace Go.Proofs.YtahbekmnphkiiaaDoor
open Go Go.RowKit Eng Sp Dg
set_option linter.unusedVariables false
set_option linter.unusedSimpArgs false
set_option maxRecDepth 100000
namespace Dy
open _root_.Go.Proofs.YtahbekmnphkiiaaDoor.Nat (ldN OwnNil Num Num.bl OwnNil.mono bigC bigC_ok digs_len_bl Yes num_of From_spec)
open _root_.Go.Proofs.YtahbekmnphkiiaaDoor.Ref (RN RN.nil Of_spec Is_spec Len_spec zero_spec Lent Lent.ahead Lent.whole Bk own_listV old_new len32)
open Sb

theorem number_top_spec {w : World} {neg : Bool} {s : Slc} {x : Nat} {e : Int} (h : Num w s x) (he : -4611686018427387904 ≤ e ∧ e ≤ 4611686018427387904) :
    Calls pr dyadic_number_top_id #[.agg (c3 neg s e)] w fun en w' => Ahead w w' ∧ en = .returned (.int .i64 (e + bl x - 1)) := by
  have hbl := Num.bl h
  refine dyadic_number_top_vc neg s e w _ (newC_b fun b w1 hb h1 hs1 B1 => ?_)
  have hd := Ahead.drew w1
  have B1' := B1.ahead hd
  refine ldI_b (x := e) 2 B1' rfl (get2 B1' rfl rfl (Calls.mono (part_length_spec (h.ahead (h1.trans hd))) ?_))
  rintro en w2 ⟨h2, rfl⟩
  refine ⟨_, rfl, h2, (h1.trans hd).trans h2, ?_⟩
  rw [wrap_i64 (x := e + _) (by omega) (by omega), wrap_i64 (by omega) (by omega)]

/-- alike: the answer 'code', of the number n, e (in lowest terms), is the document's: told (f = 0), or the error f. -/
theorem alike_spec {w : World} {neg : Bool} {s t : Slc} {n : Nat} {e e2 code f : Int} {wn : Bool} (hw : RN w t n) (hl : (digs B32 n).length ≤ 2 ^ 46) (hc : code = if f = 0 then tK n e else f) (hwn : f = 0 → wn = neg) (he2 : f = 0 → e2 = e)
    (hs : Rd .u64 w s (nn (if code = 0 then digs B64 n else []))) (hl64 : bl n ≤ 67108864 → (digs B64 n).length ≤ 2 ^ 44) :
    Calls pr surdlaw08_alike_id #[.agg (c3 (if code = 0 then neg else false) s (if code = 0 then e else 0)), .int .i64 code, .agg (c3 wn t e2), .int .i64 f] w fun en w' => Ahead w w' ∧ en = .returned (.bool true) := by
  refine surdlaw08_alike_vc _ s _ code wn t e2 f w _ (newC_b fun b1 w1 hb1 h1 hs1 B1 => newC_b fun b2 w2 hb2 h2 hs2 B2 => ?_)
  have h12 := h1.trans h2
  have B12 := B1.ahead h2
  refine br_intro (fun hf => ?_) (fun hf => ?_)
  · have hf0 : f = 0 := by simpa using hf
    obtain rfl := hwn hf0
    obtain rfl := he2 hf0
    rw [if_pos hf0] at hc
    refine get3 B2 (Calls.mono (dTold_spec (hw.ahead h12) hl) ?_)
    rintro en w3 ⟨h3, x, s', e', rfl, hK⟩
    have h03 := h12.trans h3
    refine ⟨_, _, _, _, rfl, set3 (B2.ahead h3) fun w6 u6 C2 => ?_⟩
    have h06 := u6.ahead h03 (by have := h1.size; omega)
    have B16 : Blk w6 b1 _ := u6.blk (B12.ahead h3) (by omega)
    refine br_intro (fun hx => ?_) (fun hx => ?_)
    · have hx0 : tK n e2 ≠ 0 := by simpa using hx
      rw [hc, if_neg hx0] at hs
      rw [hc, if_neg hx0, if_neg hx0] at B16
      have hsn : s.n = 0 := by rw [hs.n]; rfl
      refine Calls.mono num_spec ?_
      rintro en w7 ⟨rfl, rfl⟩
      refine ⟨_, rfl, br_true (by rw [hc]; simp) (ldB_b (x := false) 0 B16 rfl (br_true rfl (ldS_b (x := s) 1 B16 rfl (br_true (by rw [hsn]; rfl) (ldI_b (x := 0) 2 B16 rfl ⟨h06, rfl⟩)))))⟩
    · have hx0 : tK n e2 = 0 := by simpa using hx
      obtain ⟨rfl, rfl, r'⟩ := hK hx0
      rw [hc, if_pos hx0] at hs
      rw [hc, if_pos hx0, if_pos hx0] at B16
      refine Calls.mono num_spec ?_
      rintro en w7 ⟨rfl, rfl⟩
      refine ⟨_, rfl, br_true (by rw [hc, hx0]; rfl) (get3 C2 (get3 B16 (Calls.mono (dIs_spec (u6.rd _ _ r') (hs.ahead h06) (hl64 (tK_bl hx0))) ?_)))⟩
      rintro en w8 ⟨h8, rfl⟩
      exact ⟨_, rfl, h06.trans h8, rfl⟩
  · have hf0 : f ≠ 0 := by simpa using hf
    rw [if_neg hf0] at hc
    subst hc
    rw [if_neg hf0] at hs
    rw [if_neg hf0, if_neg hf0] at B12
    have hsn : s.n = 0 := by rw [hs.n]; rfl
    refine br_true (by simpa using hf0) (Calls.mono num_spec ?_)
    rintro en w7 ⟨rfl, rfl⟩
    exact ⟨_, rfl, br_true (by simp) (ldB_b (x := false) 0 B12 rfl (br_true rfl (ldS_b (x := s) 1 B12 rfl (br_true (by rw [hsn]; rfl) (ldI_b (x := 0) 2 B12 rfl ⟨h12, rfl⟩)))))⟩

end Dy
end Go.Proofs.YtahbekmnphkiiaaDoor
namespace Go.Proofs.YtahbekmnphkiiaaDoor
open Go Go.RowKit Eng Sp Dg L2
set_option linter.unusedVariables false
set_option linter.unusedSimpArgs false
set_option maxRecDepth 100000
namespace Dy
open _root_.Go.Proofs.YtahbekmnphkiiaaDoor.Nat (OwnNil Num Num.bl OwnNil.mono OwnNil.ext OwnNil.rd OwnNil.ahead digs_len_bl num_of Yes)
open _root_.Go.Proofs.YtahbekmnphkiiaaDoor.Ref (RN RN.nil RN.ext RN.ahead Len_spec Shl_spec Int_spec Lent Lent.ahead Lent.whole len_mono bl_len32 len_lt_of own_step len32)
open Sb

def rX (neg : Bool) (n : Nat) (e pos m : Int) : Nat := if n = 0 ∨ pos ≤ e then n else rq neg n (pos - e).toNat m
def rE (n : Nat) (e pos : Int) : Int := if n = 0 ∨ pos ≤ e then e else pos

theorem rounded_spec {w : World} {neg : Bool} {s : Slc} {n : Nat} {e pos m : Int} (hT : Tab w) (r : Rd .u64 w s (nn (digs B64 n))) (hl : (digs B64 n).length + 1 ≤ 2 ^ 44) (he : -2305843009213693952 ≤ e ∧ e ≤ 2305843009213693952) (hp : -2305843009213693952 ≤ pos ∧ pos ≤ 2305843009213693952) :
    Calls pr dyadic_rounded_id #[.agg (c3 neg s e), .int .i64 pos, .int .i64 m] w (DOut w (tC (rX neg n e pos m) (rE n e pos)) neg (rX neg n e pos m) (rE n e pos)) := by
  have hnum : Num w s n := ⟨_, r, by omega, ok_digs two64 _, val_digs two64 _⟩
  refine Calls.mono (dyadic_rounded_v2 neg s e pos m w (fun en w' => Ahead w w' → DOut w (tC (rX neg n e pos m) (rE n e pos)) neg (rX neg n e pos m) (rE n e pos) en w') ?_) fun en w' ⟨h1, h2⟩ => h2 h1
  intro w1 x1 a1
  refine Calls.mono (part_sign_spec (hnum.ahead a1)) ?_
  rintro en w2 ⟨h2, rfl⟩
  have a2 := a1.trans h2
  have old : (n = 0 ∨ pos ≤ e) → Calls pr dyadic_told_id #[.agg (c2 neg s), .int .i64 e] w2 fun e2 w3 => ∃ b1 : Bool, ∃ s1 : Slc, ∃ x2 : Int, ∃ x3 : Int, e2 = .returned (Value.tuple #[Value.agg #[Value.bool b1, s1.v, Value.int .i64 x2], Value.int .i64 x3]) ∧ Ahead w2 w3 ∧
      (∀ w4, Ext w3 w4 → Ahead w w4 → (Ahead w w4 → DOut w (tC (rX neg n e pos m) (rE n e pos)) neg (rX neg n e pos m) (rE n e pos) (.returned (Value.tuple #[Value.agg #[Value.bool b1, s1.v, Value.int .i64 x2], Value.int .i64 x3])) w4)) := by
    intro hc
    rw [rX, if_pos hc, rE, if_pos hc]
    refine Calls.mono (told_spec (hT.ahead a2) (hnum.ahead a2) (by omega)) ?_
    rintro en w3 ⟨h3, s3, rfl, o3⟩
    exact ⟨_, _, _, _, rfl, h3, fun w4 x4 a4 _ => ⟨a4, s3, rfl, (o3.ext x4).mono a2.size⟩⟩
  refine ⟨_, rfl, h2, br_intro (fun hz => ?_) (fun hz => ?_)⟩
  · exact old (.inl (sgn_zero_iff.1 (eq_of_beq hz)))
  · have hn : n ≠ 0 := fun e0 => by rw [e0] at hz; simp [sgn] at hz
    refine br_intro (fun hge => old (.inr (of_decide_eq_true hge))) (fun hlt => ?_)
    have hc : ¬ (n = 0 ∨ pos ≤ e) := by
      rintro (h | h)
      · exact hn h
      · exact of_decide_eq_false hlt h
    have hst : stq neg n e pos m = rq neg n (pos - e).toNat m := if_neg hc
    rw [rX, if_neg hc, rE, if_neg hc]
    have lq : (digs B64 (n / 2 ^ (pos - e).toNat)).length + 1 ≤ 2 ^ 44 := Nat.le_trans (Nat.add_le_add_right (len_mono two64 (Nat.div_le_self _ _)) 1) hl
    refine Calls.mono (steps_spec (hT.ahead a2) (r.ahead a2) hl he hp (fun h => absurd h hc)) ?_
    rw [hst]
    rintro en w7 ⟨h7, s3, rfl, o3⟩
    have a7 := a2.trans h7
    have lx : (digs B64 (rq neg n (pos - e).toNat m)).length ≤ 2 ^ 44 := by
      have h1 : rq neg n (pos - e).toNat m ≤ n / 2 ^ (pos - e).toNat + 1 := by unfold rq; split <;> omega
      refine Nat.le_trans (len_mono two64 h1) ?_
      have h2 : n / 2 ^ (pos - e).toNat < B64 ^ (digs B64 (n / 2 ^ (pos - e).toNat)).length := by
        have := val_lt (ok_digs two64 (n / 2 ^ (pos - e).toNat))
        rwa [val_digs two64] at this
      refine Nat.le_trans (digs_length_le two64 (m := (digs B64 (n / 2 ^ (pos - e).toNat)).length + 1) ?_) lq
      rw [Nat.pow_succ]
      have h3 := Nat.mul_le_mul_left (B64 ^ (digs B64 (n / 2 ^ (pos - e).toNat)).length) two64
      have h4 : 0 < B64 ^ (digs B64 (n / 2 ^ (pos - e).toNat)).length := Nat.pow_pos (by rw [B64v]; omega)
      exact Nat.lt_of_le_of_lt (Nat.succ_le_of_lt h2) (by omega)
    have hx : Num w7 s3 (rq neg n (pos - e).toNat m) := ⟨_, o3.rd, lx, ok_digs two64 _, val_digs two64 _⟩
    refine ⟨_, _, rfl, h7, Calls.mono (told_spec (hT.ahead a7) hx (by omega)) ?_⟩
    rintro en w8 ⟨h8, s4, rfl, o4⟩
    exact ⟨_, _, _, _, rfl, h8, fun w4 x4 a4 _ => ⟨a4, s4, rfl, (o4.ext x4).mono a7.size⟩⟩

def okM (m : Int) : Prop := 0 ≤ m ∧ m ≤ 2
instance (m : Int) : Decidable (okM m) := inferInstanceAs (Decidable (_ ∧ _))
def rdC (neg : Bool) (x : Nat) (e pos m : Int) : Int := if wi e then if wi pos then if okM m then tC (rX (nD neg x) (od x) (eD x e) pos m) (rE (od x) (eD x e) pos) else 81 else 1 else 80
theorem eD_far {w : World} {s : Slc} {x : Nat} {e : Int} (h : Num w s x) (he : wi e) : -1125999906842624 - 1099511627776 ≤ eD x e ∧ eD x e ≤ 1125999906842624 + 1099511627776 := by
  have h1 := Num.bl h
  have h2 := tz_le x
  unfold wi at he
  unfold eD
  split <;> omega
theorem Round_spec {w : World} {neg : Bool} {s : Slc} {x : Nat} {e pos m : Int} (hT : Tab w) (h : Num w s x) (hl : (digs B64 x).length + 1 ≤ 2 ^ 44) :
    Calls pr dyadic_Round_id #[.agg (c3 neg s e), .int .i64 pos, .int .i64 m] w (DOut w (rdC neg x e pos m) (nD neg x) (rX (nD neg x) (od x) (eD x e) pos m) (rE (od x) (eD x e) pos)) := by
  refine Calls.mono (dyadic_Round_v2 neg s e pos m w (fun en w' => Ahead w w' → DOut w (rdC neg x e pos m) (nD neg x) (rX (nD neg x) (od x) (eD x e) pos m) (rE (od x) (eD x e) pos) en w') ?_) fun en w' ⟨h1, h2⟩ => h2 h1
  intro w1 x1 a1
  refine Calls.mono (read_spec (hT.ahead a1) (h.ahead a1)) ?_
  rintro en w2 ⟨h2, s2, rfl, o2⟩
  have a2 := a1.trans h2
  refine ⟨_, _, _, _, rfl, h2, br_intro (fun hw => ?_) (fun hw => ?_)⟩
  · have hw' : ¬ wi e := fun h => by rw [if_pos h] at hw; simp at hw
    rw [if_neg hw']
    exact fun w3 x3 a3 _ => DOut.refused a3 (if_neg hw') (by omega)
  · have hw' : wi e := by
      by_cases h : wi e
      · exact h
      · rw [if_neg h] at hw; simp at hw
    rw [if_pos hw'] at o2
    rw [if_pos hw', if_pos hw']
    intro w4 x4 a4
    refine Calls.mono within_spec ?_
    rintro en w5 ⟨rfl, rfl⟩
    refine ⟨_, rfl, Ahead.refl _, br_intro (fun hk => ?_) (fun hk => ?_)⟩
    · have hk' : ¬ wi pos := by simpa using hk
      exact fun w3 x3 a3 _ => DOut.refused a3 (by rw [rdC, if_pos hw', if_neg hk']) (by omega)
    · have hk' : wi pos := by simpa using hk
      refine Calls.mono direction_spec ?_
      rintro en w7 ⟨rfl, rfl⟩
      refine ⟨_, rfl, Ahead.refl _, br_intro (fun hm => ?_) (fun hm => ?_)⟩
      · have hm' : ¬ okM m := fun hh => by unfold okM at hh; rw [decide_eq_true hh] at hm; simp at hm
        exact fun w3 x3 a3 _ => DOut.refused a3 (by rw [rdC, if_pos hw', if_pos hk', if_neg hm']) (by omega)
      · have hm' : okM m := by
          by_cases hh : okM m
          · exact hh
          · unfold okM at hh; rw [decide_eq_false hh] at hm; simp at hm
        have hc : rdC neg x e pos m = tC (rX (nD neg x) (od x) (eD x e) pos m) (rE (od x) (eD x e) pos) := by rw [rdC, if_pos hw', if_pos hk', if_pos hm']
        rw [hc]
        have lo : (digs B64 (od x)).length + 1 ≤ 2 ^ 44 := Nat.le_trans (Nat.add_le_add_right (len_mono two64 (od_le x)) 1) hl
        refine Calls.mono (rounded_spec (hT.ahead a4) (o2.ext x4).rd lo (by have := eD_far h hw'; omega) (by unfold wi at hk'; omega)) ?_
        rintro en w9 ⟨h9, s9, rfl, o9⟩
        exact ⟨_, _, _, _, rfl, h9, fun w3 x3 a3 _ => ⟨a3, s9, rfl, (o9.ext x3).mono a4.size⟩⟩

theorem odd_mod {n gap : Nat} (hn : n % 2 = 1) (hg : 0 < gap) : n % 2 ^ gap ≠ 0 := by
  obtain ⟨g, rfl⟩ : ∃ g, gap = g + 1 := ⟨gap - 1, by omega⟩
  intro h
  have := Nat.mod_add_div n (2 ^ (g + 1))
  rw [h, Nat.pow_succ, Nat.mul_comm (2 ^ g) 2, Nat.mul_assoc] at this
  omega
theorem floor_odd {neg : Bool} {n gap : Nat} (hn : n % 2 = 1) (hg : 0 < gap) : sg neg n / ((2 ^ gap : Nat) : Int) = sg neg (n / 2 ^ gap + if neg then 1 else 0) := by
  rw [floor_sg (Nat.pow_pos (by omega))]
  have h := odd_mod hn hg
  generalize n / 2 ^ gap = q
  cases neg
  · simp [sg]
  · rw [if_pos ⟨h, rfl⟩]
    simp [sg]; omega
theorem mod_odd {neg : Bool} {n gap : Nat} (hn : n % 2 = 1) (hg : 0 < gap) : sg neg n % ((2 ^ gap : Nat) : Int) = if neg then ((2 ^ gap : Nat) : Int) - ((n % 2 ^ gap : Nat) : Int) else ((n % 2 ^ gap : Nat) : Int) := by
  rw [mod_sub, floor_odd hn hg]
  have hd := Nat.mod_add_div n (2 ^ gap)
  have e : (n : Int) = ((n % 2 ^ gap : Nat) : Int) + ((2 ^ gap : Nat) : Int) * ((n / 2 ^ gap : Nat) : Int) := by
    conv => lhs; rw [← hd]
    push_cast; rfl
  generalize n / 2 ^ gap = q at *
  generalize n % 2 ^ gap = r at *
  generalize 2 ^ gap = S at *
  cases neg
  · simp [sg]; rw [Int.mul_comm] at e; omega
  · simp [sg]
    rw [Int.neg_mul, Int.add_mul, Int.one_mul, Int.mul_comm (q : Int)]; omega
theorem down_odd {neg : Bool} {n gap : Nat} (hn : n % 2 = 1) (hg : 0 < gap) : sg neg n / ((2 ^ gap : Nat) : Int) = sg neg (rq neg n gap 0) := by
  rw [floor_odd hn hg]; unfold rq upR; simp
theorem up_odd {neg : Bool} {n gap : Nat} (hn : n % 2 = 1) (hg : 0 < gap) : (sg neg n / ((2 ^ gap : Nat) : Int) + if sg neg n % ((2 ^ gap : Nat) : Int) ≠ 0 then 1 else 0) = sg neg (rq neg n gap 1) := by
  have h := odd_mod hn hg
  have hlt := Nat.mod_lt n (show 2 ^ gap > 0 from Nat.pow_pos (by omega))
  rw [floor_odd hn hg, mod_odd hn hg]
  unfold rq upR
  generalize n / 2 ^ gap = q
  generalize n % 2 ^ gap = r at *
  generalize 2 ^ gap = S at *
  cases neg
  · simp [sg, h]
  · have : ¬ (S : Int) - (r : Int) = 0 := by omega
    simp [sg, this]; omega
theorem near_odd {neg : Bool} {n gap : Nat} (hn : n % 2 = 1) (hg : 0 < gap) : (sg neg n / ((2 ^ gap : Nat) : Int) + if nearUp (sg neg n) (2 ^ gap) = true then 1 else 0) = sg neg (rq neg n gap 2) := by
  have h0 := odd_mod hn hg
  have hS : 0 < 2 ^ gap := Nat.pow_pos (by omega)
  have hlt := Nat.mod_lt n hS
  have hd := Nat.mod_add_div n (2 ^ gap)
  obtain ⟨g, rfl⟩ : ∃ g, gap = g + 1 := ⟨gap - 1, by omega⟩
  have htz := tz_odd hn
  unfold nearUp
  rw [floor_odd hn hg, mod_odd hn hg, sg_abs]
  unfold rq upR
  rw [if_pos rfl, Nat.add_sub_cancel, htz]
  have hS2 : 2 ^ (g + 1) = 2 * 2 ^ g := by rw [Nat.pow_succ]; omega
  have hH : 0 < 2 ^ g := Nat.pow_pos (by omega)
  have hbit : n / 2 ^ g % 2 = n % 2 ^ (g + 1) / 2 ^ g := by
    rw [hS2, Nat.mul_comm 2, Nat.mod_mul, Nat.add_comm, Nat.mul_comm (2 ^ g), Nat.add_comm, Nat.add_mul_div_right _ _ hH, Nat.div_eq_of_lt (Nat.mod_lt _ hH), Nat.zero_add]
  rw [hbit]
  have hrodd : n % 2 ^ (g + 1) % 2 = 1 := by
    rw [hS2, Nat.mul_assoc] at hd
    rw [hS2]; omega
  have hb1 : n % 2 ^ (g + 1) / 2 ^ g = 1 ↔ 2 ^ g ≤ n % 2 ^ (g + 1) := by
    constructor
    · intro h
      rcases Nat.lt_or_ge (n % 2 ^ (g + 1)) (2 ^ g) with h1 | h1
      · rw [Nat.div_eq_of_lt h1] at h; omega
      · exact h1
    · intro h
      refine Nat.div_eq_of_lt_le (by omega) (by omega)
  have hpar : g = 0 ∨ 2 ^ g % 2 = 0 := by
    rcases Nat.eq_zero_or_pos g with h | h
    · exact .inl h
    · right
      obtain ⟨k, rfl⟩ : ∃ k, g = k + 1 := ⟨g - 1, by omega⟩
      rw [Nat.pow_succ]; omega
  have h1 : g = 0 → 2 ^ g = 1 := fun h => by rw [h, Nat.pow_zero]
  clear hd
  generalize n % 2 ^ (g + 1) = r at *
  generalize n / 2 ^ (g + 1) = q at *
  generalize 2 ^ (g + 1) = S at *
  have hd1 : decide (r / 2 ^ g = 1) = decide (2 ^ g ≤ r) := by rw [Bool.eq_iff_iff]; simp [hb1]
  rw [hd1]
  clear hd1 hb1 hbit
  generalize 2 ^ g = H at *
  subst hS2
  cases neg
  · simp only [Bool.false_eq_true, if_false, Int.natAbs_natCast, Nat.add_zero]
    have : (decide (2 * H < 2 * r ∨ 2 * r = 2 * H ∧ q % 2 = 1)) = (decide (H ≤ r) && (decide (0 < g) || decide (q % 2 = 1))) := by
      rw [Bool.eq_iff_iff]
      simp only [decide_eq_true_eq, Bool.and_eq_true, Bool.or_eq_true]
      omega
    rw [this]
    simp only [sg, Bool.false_eq_true, if_false]
    split <;> omega
  · simp only [if_true]
    have ea : ((2 * H : Nat) : Int).natAbs = 2 * H := by omega
    have : (decide (2 * H < 2 * (((2 * H : Nat) : Int) - (r : Int)).natAbs ∨ 2 * (((2 * H : Nat) : Int) - (r : Int)).natAbs = 2 * H ∧ (q + 1) % 2 = 1)) = !(decide (H ≤ r) && (decide (0 < g) || decide (q % 2 = 1))) := by
      rw [Bool.eq_iff_iff]
      simp only [decide_eq_true_eq, Bool.not_eq_true', Bool.and_eq_false_iff, Bool.or_eq_false_iff, decide_eq_false_iff_not]
      omega
    rw [this]
    simp only [sg, if_true]
    cases (decide (H ≤ r) && (decide (0 < g) || decide (q % 2 = 1))) <;> simp <;> omega

theorem rq_zero {neg : Bool} {n gap : Nat} {m : Int} (hg : bl n + 2 < gap) : rq neg n gap m = if m = 2 then 0 else if (if m = 0 then neg else !neg) = true then 1 else 0 := by
  have h1 : n / 2 ^ gap = 0 := Nat.div_eq_of_lt (bl_le_iff.1 (by omega))
  have h2 : n / 2 ^ (gap - 1) = 0 := Nat.div_eq_of_lt (bl_le_iff.1 (by omega))
  unfold rq upR
  rw [h1, h2, Nat.zero_add]
  by_cases hm : m = 2
  · rw [if_pos hm, if_pos hm]; rfl
  · rw [if_neg hm, if_neg hm]

theorem rq_z0 {neg : Bool} {n gap : Nat} (hg : bl n + 2 < gap) : rq neg n gap 0 = if neg = true then 1 else 0 := by
  rw [rq_zero hg, if_neg (show ¬ (0 : Int) = 2 by omega), if_pos rfl]
theorem rq_z1 {neg : Bool} {n gap : Nat} (hg : bl n + 2 < gap) : rq neg n gap 1 = if (!neg) = true then 1 else 0 := by
  rw [rq_zero hg, if_neg (show ¬ (1 : Int) = 2 by omega), if_neg (show ¬ (1 : Int) = 0 by omega)]
theorem rq_z2 {neg : Bool} {n gap : Nat} (hg : bl n + 2 < gap) : rq neg n gap 2 = 0 := by rw [rq_zero hg, if_pos rfl]

set_option maxHeartbeats 1000000 in
theorem dRound_spec {w : World} {neg : Bool} {s : Slc} {n : Nat} {e pos m : Int} (r : RN w s n) (hneg : nD neg n = neg) (hod : od n = n) (h0 : n = 0 → e = 0) (hm : okM m) (hl : (digs B32 n).length + 8 ≤ 2 ^ 45)
    (he : -2305843009213693952 ≤ e ∧ e ≤ 2305843009213693952) (hp : -2305843009213693952 ≤ pos ∧ pos ≤ 2305843009213693952) :
    Calls pr surdref08_Round_id #[.agg (c3 neg s e), .int .i64 pos, .int .i64 m] w fun en w' => Ahead w w' ∧ ∃ s', en = .returned (.agg (c3 (nD neg (rX neg n e pos m)) s' (eD (rX neg n e pos m) (rE n e pos)))) ∧ RN w' s' (od (rX neg n e pos m)) := by
  have hz : zb (sg neg n) = neg := by rw [zb_sg, hneg]
  have hbl := bl_len32 (ok_digs two32 n)
  rw [val_digs two32] at hbl
  have same : (n = 0 ∨ pos ≤ e) → ∀ w3, RN w3 s n → ∃ s', Ending.returned (Value.agg #[Value.bool neg, s.v, Value.int .i64 e]) = .returned (.agg (c3 (nD neg (rX neg n e pos m)) s' (eD (rX neg n e pos m) (rE n e pos)))) ∧ RN w3 s' (od (rX neg n e pos m)) := by
    intro hc w3 r3
    rw [rX, if_pos hc, rE, if_pos hc, hneg, hod]
    have : eD n e = e := by
      by_cases hn : n = 0
      · rw [h0 hn, hn, eD_zero]
      · have h1 := od_odd hn
        rw [hod] at h1
        rw [eD, if_neg hn, tz_odd h1]; omega
    rw [this]
    exact ⟨s, rfl, r3⟩
  refine surdref08_Round_v2 neg s e pos m w _ fun w1 x1 a1 => ?_
  have hsg := zSign_spec (neg := neg) (r.ahead a1)
  rw [hneg] at hsg
  refine Calls.mono hsg ?_
  rintro en w2 ⟨h2, rfl⟩
  have a2 := a1.trans h2
  refine ⟨_, rfl, h2, br_intro (fun hc => ?_) (fun hc => br_intro (fun hge => ?_) (fun hlt => ?_))⟩
  · exact fun w3 x3 a3 => same (.inl (sgn_zero_iff.1 (eq_of_beq hc))) _ (r.ahead a3)
  · exact fun w3 x3 a3 => same (.inr (of_decide_eq_true hge)) _ (r.ahead a3)
  · have hn : n ≠ 0 := fun e0 => by rw [e0] at hc; simp [sgn] at hc
    have hpe := of_decide_eq_false hlt
    have hnc : ¬ (n = 0 ∨ pos ≤ e) := by
      rintro (h | h)
      · exact hn h
      · exact hpe h
    have hodd := od_odd hn
    rw [hod] at hodd
    rw [rX, if_neg hnc, rE, if_neg hnc]
    obtain ⟨gap, hgap⟩ : ∃ gap : Nat, (gap : Int) = pos - e := ⟨(pos - e).toNat, by omega⟩
    have hg0 : 0 < gap := by omega
    rw [← hgap, Int.toNat_natCast, hgap, wrap_i64 (x := pos - e) (by omega) (by omega), ← hgap]
    refine Calls.mono (Len_spec (r.ahead a2) (by omega)) ?_
    rintro en w5 ⟨rfl, rfl⟩
    have e2 : IntKind.i64.wrap ((bl n : Int) + 2) = (bl n : Int) + 2 := wrap_i64 (by omega) (by omega)
    have fz : ∀ {w9 : World}, rq neg n gap m = 0 → ∃ s', Ending.returned (Value.agg #[Value.bool false, Slc.v ⟨none, 0, 0⟩, Value.int .i64 0]) = .returned (.agg (c3 (nD neg (rq neg n gap m)) s' (eD (rq neg n gap m) pos))) ∧ RN w9 s' (od (rq neg n gap m)) := by
      intro w9 hz
      rw [hz, nD_zero, eD_zero, od_zero]
      exact ⟨_, rfl, RN.nil⟩
    refine ⟨_, rfl, Ahead.refl _, ?_⟩
    rw [e2]
    refine br_intro (fun hfar => ?_) (fun hnear => ?_)
    · have hf := of_decide_eq_true hfar
      have hfg : bl n + 2 < gap := by omega
      have one : ∀ v : Int, v.natAbs = 1 → decide (v < 0) = neg → rq neg n gap m = 1 → Calls pr surdref08_Int_id #[.int .i64 v, .int .i64 pos] w5 fun e4 w8 => ∃ b2 : Bool, ∃ s2 : Slc, ∃ x4 : Int, e4 = .returned (Value.agg #[Value.bool b2, s2.v, Value.int .i64 x4]) ∧ Ahead w5 w8 ∧
          (∀ w9, Ext w8 w9 → Ahead w w9 → ∃ s', Ending.returned (Value.agg #[Value.bool b2, s2.v, Value.int .i64 x4]) = .returned (.agg (c3 (nD neg (rq neg n gap m)) s' (eD (rq neg n gap m) pos))) ∧ RN w9 s' (od (rq neg n gap m))) := by
        intro v hv1 hv2 hq
        refine Calls.mono (dInt_spec (v := v) (e := pos) (by omega) (by omega) (by omega)) ?_
        rw [hv1, hv2, hq]
        rintro en w8 ⟨h8, s2, rfl, r2⟩
        exact ⟨_, _, _, rfl, h8, fun w9 x9 a9 => ⟨s2, rfl, r2.ext x9⟩⟩
      unfold okM at hm
      refine br_intro (fun hm0 => ?_) (fun hm0 => ?_)
      · have hm0' : m = 0 := eq_of_beq hm0
        subst hm0'
        have hrq := rq_z0 (neg := neg) hfg
        refine br_intro (fun hn1 => ?_) (fun hn1 => ?_)
        · exact one (-1) rfl (by rw [hn1]; rfl) (by rw [hrq, if_pos hn1])
        · refine br_false rfl fun w9 x9 a9 => fz (by rw [hrq, if_neg (by rw [hn1]; simp)])
      · have hm0' : m ≠ 0 := fun h => by rw [h] at hm0; simp at hm0
        refine br_intro (fun hm1 => ?_) (fun hm1 => ?_)
        · have hm1' : m = 1 := eq_of_beq hm1
          subst hm1'
          have hrq := rq_z1 (neg := neg) hfg
          refine br_intro (fun hn1 => ?_) (fun hn1 => ?_)
          · exact one 1 rfl (by cases neg <;> simp_all) (by rw [hrq, if_pos hn1])
          · exact fun w9 x9 a9 => fz (by rw [hrq, if_neg (by rw [hn1]; simp)])
        · have hm1' : m ≠ 1 := fun h => by rw [h] at hm1; simp at hm1
          have hm2 : m = 2 := by omega
          subst hm2
          exact fun w9 x9 a9 => fz (rq_z2 hfg)
    · have hf := of_decide_eq_false hnear
      have hS : 0 < 2 ^ gap := Nat.pow_pos (by omega)
      have l1 : (digs B32 1).length ≤ 1 := digs_length_le two32 (by rw [Nat.pow_one, B32v]; omega)
      have lS : (digs B32 (2 ^ gap)).length ≤ (digs B32 n).length + 1 := digs_length_le two32 (by
        rw [b32_pow]
        exact Nat.pow_lt_pow_right (by omega) (by omega))
      refine Calls.mono (Int_spec (v := 1) (by omega)) ?_
      rintro en w16 ⟨h16, s4, rfl, r4⟩
      refine ⟨_, rfl, h16, Calls.mono (Shl_spec r4 (by omega) (by omega) (by rw [Int.toNat_natCast]; omega)) ?_⟩
      rw [Int.toNat_natCast, Nat.one_mul]
      rintro en w17 ⟨h17, s5, rfl, r5⟩
      have r17 : ∀ {w18}, Ahead w w18 → RN w18 s (sg neg n).natAbs := fun a => by rw [sg_abs]; exact r.ahead a
      -- the quotient as the answer
      have fin : ∀ (w19 : World) (q : Slc), Ahead w w19 → RN w19 q (rq neg n gap m) → ∀ w20, Ext w19 w20 → Ahead w w20 → Calls pr surdref08_Of_id #[.agg (c2 (zb (sg neg (rq neg n gap m))) q), .int .i64 pos] w20 fun e9 w21 => ∃ b6 : Bool, ∃ s8 : Slc, ∃ x6 : Int,
          e9 = .returned (Value.agg #[Value.bool b6, s8.v, Value.int .i64 x6]) ∧ Ahead w20 w21 ∧ (∀ w22, Ext w21 w22 → Ahead w w22 → ∃ s', Ending.returned (Value.agg #[Value.bool b6, s8.v, Value.int .i64 x6]) = .returned (.agg (c3 (nD neg (rq neg n gap m)) s' (eD (rq neg n gap m) pos))) ∧ RN w22 s' (od (rq neg n gap m))) := by
        intro w19 q a19 rq1 w20 x20 a20
        have hle : rq neg n gap m ≤ n + 1 := by
          have := Nat.div_le_self n (2 ^ gap)
          unfold rq; split <;> omega
        have lq := dl_le two32 hle
        have lq1 := dl_add (x := n) (y := 1) (Nat.le_refl _) (by have := List.length_pos_iff.2 (digs_ne_nil two32 hn); omega)
        rw [zb_sg]
        refine Calls.mono (dOf_spec (rq1.ext x20) (by omega) (by omega)) ?_
        rintro en w21 ⟨h21, s8, rfl, r8⟩
        exact ⟨_, _, _, rfl, h21, fun w22 x22 a22 => ⟨s8, rfl, r8.ext x22⟩⟩
      refine ⟨_, rfl, h17, ?_⟩
      have a17 := (a2.trans h16).trans h17
      unfold okM at hm
      refine br_intro (fun hm0 => ?_) (fun hm0 => br_intro (fun hm1 => ?_) (fun hm1 => ?_))
      · have hm0' : m = 0 := eq_of_beq hm0
        subst hm0'
        intro w18 x18 a18
        have f := zFloor_spec (x := sg neg n) (r17 a18) (r5.ext x18) hS (by rw [sg_abs]; omega) (by omega)
        rw [hz, down_odd hodd hg0, sg_abs] at f
        refine Calls.mono f ?_
        rintro en w19 ⟨h19, s6, s7, rfl, r6, _⟩
        exact ⟨_, _, _, _, rfl, h19, fin w19 s6 (a18.trans h19) r6⟩
      · have hm1' : m = 1 := eq_of_beq hm1
        subst hm1'
        intro w18 x18 a18
        have f := zCeil_spec (x := sg neg n) (r17 a18) (r5.ext x18) hS (by rw [sg_abs]; omega) (by omega)
        rw [hz, up_odd hodd hg0] at f
        refine Calls.mono f ?_
        rintro en w19 ⟨h19, s6, b7, s7, rfl, r6⟩
        rw [sg_abs] at r6
        exact ⟨_, _, _, _, rfl, h19, fin w19 s6 (a18.trans h19) r6⟩
      · have hm0' : m ≠ 0 := fun h => by rw [h] at hm0; simp at hm0
        have hm1' : m ≠ 1 := fun h => by rw [h] at hm1; simp at hm1
        have hm2 : m = 2 := by omega
        subst hm2
        intro w18 x18 a18
        have f := zNear_spec (x := sg neg n) (r17 a18) (r5.ext x18) hS (by rw [sg_abs]; omega) (by omega)
        rw [hz, near_odd hodd hg0] at f
        refine Calls.mono f ?_
        rintro en w19 ⟨h19, s6, b7, s7, rfl, r6⟩
        rw [sg_abs] at r6
        exact ⟨_, _, _, _, rfl, h19, fin w19 s6 (a18.trans h19) r6⟩

end Dy
end Go.Proofs.YtahbekmnphkiiaaDoor
namespace Go.Proofs.YtahbekmnphkiiaaDoor
open Go Go.RowKit Eng Sp Dg L2
set_option linter.unusedVariables false
set_option linter.unusedSimpArgs false
set_option maxRecDepth 100000
namespace Dy
open _root_.Go.Proofs.YtahbekmnphkiiaaDoor.Nat (OwnNil Num Num.bl OwnNil.mono OwnNil.ext OwnNil.rd OwnNil.ahead digs_len_bl num_of Yes)
open _root_.Go.Proofs.YtahbekmnphkiiaaDoor.Ref (RN RN.nil RN.ext RN.ahead Lent Lent.ahead Lent.ext Lent.whole len_mono own_step len32 Bk)
open Sb

theorem of_spec {w : World} {neg : Bool} {s : Slc} {e : Int} {l : List Nat} (h : Rd .u64 w s (nn l)) (hl : l.length * 8 ≤ 140737488351232) (ol : ok B64 l) :
    Calls pr surdlaw08_of_id #[.agg (c3 neg s e)] w fun en w' => Ahead w w' ∧ ∃ s', en = .returned (.tuple #[.agg (c3 (if wi e then nD neg (val B64 l) else false) s' (if wi e then eD (val B64 l) e else 0)), .bool (decide (wi e))]) ∧ RN w' s' (if wi e then od (val B64 l) else 0) := by
  refine surdlaw08_of_v2 neg s e w _ fun w1 x1 a1 => Calls.mono Fits_spec ?_
  rintro en w2 ⟨rfl, rfl⟩
  refine ⟨_, rfl, Ahead.refl _, br_intro (fun hw => ?_) (fun hw => ?_)⟩
  · have hw' : ¬ wi e := by simpa using hw
    rw [if_neg hw', if_neg hw', if_neg hw', decide_eq_false hw']
    exact fun w3 x3 a3 => ⟨_, rfl, RN.nil⟩
  · have hw' : wi e := by simpa using hw
    rw [if_pos hw', if_pos hw', if_pos hw', decide_eq_true hw']
    intro w4 x4 a4
    refine Calls.mono (zOf_spec (h.ahead a4) hl ol) ?_
    rintro en w5 ⟨h5, s1, rfl, r1⟩
    have hx := len32 ol
    refine ⟨_, _, rfl, h5, Calls.mono (dOf_spec r1 (by omega) (by unfold wi at hw'; omega)) ?_⟩
    rintro en w6 ⟨h6, s2, rfl, r2⟩
    exact ⟨_, _, _, rfl, h6, fun w7 x7 a7 => ⟨s2, rfl, r2.ext x7⟩⟩

/-- A program's answer (c, b4 s4 x3) beside the document's (f, b s5 x5): what 'alike' asks. -/
structure Beside (bs : Nat) (w' : World) (c f : Int) (b4 : Bool) (s4 : Slc) (x3 : Int) (b : Bool) (s5 : Slc) (x5 : Int) (N : Nat) (E : Int) (neg : Bool) : Prop where
  r : RN w' s5 N
  len : (digs B32 N).length ≤ 2 ^ 46
  code : c = if f = 0 then tK N E else f
  wn : f = 0 → b = neg
  we : f = 0 → x5 = E
  pn : b4 = if c = 0 then neg else false
  pe : x3 = if c = 0 then E else 0
  o : OwnNil bs w' s4 (if c = 0 then digs B64 N else [])
  len64 : bl N ≤ 67108864 → (digs B64 N).length ≤ 2 ^ 44
theorem Beside.ext {bs : Nat} {w w' : World} {c f : Int} {b4 : Bool} {s4 : Slc} {x3 : Int} {b : Bool} {s5 : Slc} {x5 : Int} {N : Nat} {E : Int} {neg : Bool} (h : Beside bs w c f b4 s4 x3 b s5 x5 N E neg) (x : Ext w w') : Beside bs w' c f b4 s4 x3 b s5 x5 N E neg :=
  ⟨h.r.ext x, h.len, h.code, h.wn, h.we, h.pn, h.pe, h.o.ext x, h.len64⟩
theorem len64_of {N : Nat} : bl N ≤ 67108864 → (digs B64 N).length ≤ 2 ^ 44 := fun h => by
  have := digs_len_bl (N := N) (m := 2 ^ 20) (by omega)
  omega

end Dy
end Go.Proofs.YtahbekmnphkiiaaDoor
namespace Go.Proofs.YtahbekmnphkiiaaDoor
open Go Go.RowKit Eng L2
set_option linter.unusedVariables false
set_option maxHeartbeats 2000000
set_option maxRecDepth 100000

/-- surd/whole.Make: function 79, its local variables as values. -/
theorem whole_Make_v2 (a0_neg : Bool) (a1_n : Slc) (w : World) (R : Ending → World → Prop)
    
    (h : ∀ w1, Ext w w1 → Ahead w w1 →
    (Calls Tryd.prog 95 #[Value.agg #[Value.bool a0_neg, a1_n.v]] w1 fun e1 w2 =>
     ∃ b1 : Bool, ∃ s1 : Slc, ∃ x1 : Int, e1 = .returned (Value.tuple #[Value.agg #[Value.bool b1, s1.v], Value.int .i64 x1]) ∧ Ahead w1 w2 ∧
     (∀ w3, Ext w2 w3 → Ahead w w3 →
      (R (.returned (Value.tuple #[Value.agg #[Value.bool b1, s1.v], Value.int .i64 x1])) w3))))
     :
    Calls Tryd.prog 79 #[Value.bool a0_neg, a1_n.v] w (fun e_ w_ => Ahead w w_ ∧ R e_ w_) := by
  refine whole_Make_vc a0_neg a1_n w _  ?_
  · have A : Ahead w w := Ahead.refl w
    have X : Ext w w := Ext.refl w
    refine newC_t fun bk1 u1 hb1 ha_u1 _ B1 => ?_
    have g1 := le_eq A.size hb1
    obtain ⟨A, X⟩ := axa2 ha_u1 A X
    replace h := h _ X A
    refine Calls.mono h ?_
    clear h
    rintro e1 w2 ⟨b1, s1, x1, he_, ha_w2, h⟩
    refine ⟨b1, s1, x1, he_, ?_⟩
    clear he_
    replace B1 := B1.ahead ha_w2
    obtain ⟨A, X⟩ := axa2 ha_w2 A X
    replace X : Ext w2 w2 := Ext.refl _
    refine st2_t B1 rfl rfl rfl fun u2 k_u2 B1 => ?_
    obtain ⟨A, X⟩ := axu2 k_u2 g1 A X
    refine ldB_t 0 B1 rfl ?_
    refine ldS_t 1 B1 rfl ?_
    replace h := h _ X A
    exact ⟨A, h⟩

/-- surd/whole.fits: function 95, its local variables as values. -/
theorem whole_fits_v2 (a0_a_0 : Bool) (a0_a_1 : Slc) (w : World) (R : Ending → World → Prop)
    
    (h : ∀ w1, Ext w w1 → Ahead w w1 →
    (Calls Tryd.prog 85 #[a0_a_1.v] w1 fun e1 w2 =>
     ∃ x1 : Int, e1 = .returned (Value.int .i64 x1) ∧ Ahead w1 w2 ∧
     (br (decide (x1 > 67108864))
      (∀ w3, Ext w2 w3 → Ahead w w3 →
       (R (.returned (Value.tuple #[Value.agg #[Value.bool (false), ((⟨none, 0, 0⟩ : Slc)).v], Value.int .i64 3])) w3))
      (Calls Tryd.prog 101 #[Value.agg #[Value.bool a0_a_0, a0_a_1.v]] w2 fun e2 w4 =>
       ∃ b1 : Bool, ∃ s1 : Slc, e2 = .returned (Value.agg #[Value.bool b1, s1.v]) ∧ Ahead w2 w4 ∧
       (∀ w5, Ext w4 w5 → Ahead w w5 →
        (R (.returned (Value.tuple #[Value.agg #[Value.bool b1, s1.v], Value.int .i64 0])) w5))))))
     :
    Calls Tryd.prog 95 #[Value.agg #[Value.bool a0_a_0, a0_a_1.v]] w (fun e_ w_ => Ahead w w_ ∧ R e_ w_) := by
  refine whole_fits_vc a0_a_0 a0_a_1 w _  ?_
  · have A : Ahead w w := Ahead.refl w
    have X : Ext w w := Ext.refl w
    refine newC_t fun bk1 u1 hb1 ha_u1 _ B1 => ?_
    have g1 := le_eq A.size hb1
    obtain ⟨A, X⟩ := axa2 ha_u1 A X
    refine newC_t fun bk2 u2 hb2 ha_u2 _ B2 => ?_
    have g2 := le_eq A.size hb2
    have l1_2 := lt1 hb2 B1
    replace B1 := B1.ahead ha_u2
    obtain ⟨A, X⟩ := axa2 ha_u2 A X
    refine ldS_t 1 B1 rfl ?_
    replace h := h _ X A
    refine Calls.mono h ?_
    clear h
    rintro e1 w2 ⟨x1, he_, ha_w2, h⟩
    refine ⟨x1, he_, ?_⟩
    clear he_
    obtain ⟨B1, B2⟩ := ah2 ha_w2 B1 B2
    obtain ⟨A, X⟩ := axa2 ha_w2 A X
    replace X : Ext w2 w2 := Ext.refl _
    refine br_map h (fun h_ => ?_) (fun h_ => ?_)
    ·clear h
     have h := h_
     clear h_
     refine st2_t B2 rfl rfl rfl fun u3 k_u3 B2 => ?_
     replace B1 := up1 k_u3 B1
     obtain ⟨A, X⟩ := axu2 k_u3 g2 A X
     refine ldB_t 0 B2 rfl ?_
     refine ldS_t 1 B2 rfl ?_
     replace h := h _ X A
     exact ⟨A, h⟩
    ·clear h
     have h := h_
     clear h_
     refine ldB_t 0 B1 rfl ?_
     refine ldS_t 1 B1 rfl ?_
     refine Calls.mono h ?_
     clear h
     rintro e2 w4 ⟨b1, s1, he_, ha_w4, h⟩
     refine ⟨b1, s1, he_, ?_⟩
     clear he_
     obtain ⟨B1, B2⟩ := ah2 ha_w4 B1 B2
     obtain ⟨A, X⟩ := axa2 ha_w4 A X
     replace X : Ext w4 w4 := Ext.refl _
     refine st2_t B2 rfl rfl rfl fun u4 k_u4 B2 => ?_
     replace B1 := up1 k_u4 B1
     obtain ⟨A, X⟩ := axu2 k_u4 g2 A X
     refine ldB_t 0 B2 rfl ?_
     refine ldS_t 1 B2 rfl ?_
     replace h := h _ X A
     exact ⟨A, h⟩

/-- surd/whole.norm: function 101, its local variables as values. -/
theorem whole_norm_v2 (a0_a_0 : Bool) (a0_a_1 : Slc) (w : World) (R : Ending → World → Prop)
    
    (h : ∀ w1, Ext w w1 → Ahead w w1 →
    (Calls Tryd.prog 86 #[a0_a_1.v] w1 fun e1 w2 =>
     ∃ s1 : Slc, e1 = .returned s1.v ∧ Ahead w1 w2 ∧
     (br a0_a_0
      (∀ w3, Ext w2 w3 → Ahead w w3 →
       (R (.returned (Value.agg #[Value.bool (decide ((s1.n : Int) > 0)), s1.v])) w3))
      (∀ w4, Ext w2 w4 → Ahead w w4 →
       (R (.returned (Value.agg #[Value.bool (false), s1.v])) w4)))))
     :
    Calls Tryd.prog 101 #[Value.agg #[Value.bool a0_a_0, a0_a_1.v]] w (fun e_ w_ => Ahead w w_ ∧ R e_ w_) := by
  refine whole_norm_vc a0_a_0 a0_a_1 w _  ?_
  · have A : Ahead w w := Ahead.refl w
    have X : Ext w w := Ext.refl w
    refine newC_t fun bk1 u1 hb1 ha_u1 _ B1 => ?_
    have g1 := le_eq A.size hb1
    obtain ⟨A, X⟩ := axa2 ha_u1 A X
    refine newC_t fun bk2 u2 hb2 ha_u2 _ B2 => ?_
    have g2 := le_eq A.size hb2
    have l1_2 := lt1 hb2 B1
    replace B1 := B1.ahead ha_u2
    obtain ⟨A, X⟩ := axa2 ha_u2 A X
    refine ldS_t 1 B1 rfl ?_
    replace h := h _ X A
    refine Calls.mono h ?_
    clear h
    rintro e1 w2 ⟨s1, he_, ha_w2, h⟩
    refine ⟨s1, he_, ?_⟩
    clear he_
    obtain ⟨B1, B2⟩ := ah2 ha_w2 B1 B2
    obtain ⟨A, X⟩ := axa2 ha_w2 A X
    replace X : Ext w2 w2 := Ext.refl _
    refine ldB_t 0 B1 rfl ?_
    refine br_map h (fun h_ => ?_) (fun h_ => ?_)
    ·clear h
     have h := h_
     clear h_
     refine st2_t B2 rfl rfl rfl fun u3 k_u3 B2 => ?_
     replace B1 := up1 k_u3 B1
     obtain ⟨A, X⟩ := axu2 k_u3 g2 A X
     refine ldB_t 0 B2 rfl ?_
     refine ldS_t 1 B2 rfl ?_
     replace h := h _ X A
     exact ⟨A, h⟩
    ·clear h
     have h := h_
     clear h_
     refine st2_t B2 rfl rfl rfl fun u4 k_u4 B2 => ?_
     replace B1 := up1 k_u4 B1
     obtain ⟨A, X⟩ := axu2 k_u4 g2 A X
     refine ldB_t 0 B2 rfl ?_
     refine ldS_t 1 B2 rfl ?_
     replace h := h _ X A
     exact ⟨A, h⟩

end Go.Proofs.YtahbekmnphkiiaaDoor
namespace Go.Proofs.YtahbekmnphkiiaaDoor
open Go Go.RowKit Eng Sp Dg L2
set_option linter.unusedVariables false
set_option linter.unusedSimpArgs false
set_option maxRecDepth 100000
namespace Dy
open _root_.Go.Proofs.YtahbekmnphkiiaaDoor.Nat (OwnNil Num Num.bl OwnNil.mono OwnNil.ext OwnNil.rd OwnNil.ahead OwnNil.nil digs_len_bl num_of Yes Norm_spec len_num)
open _root_.Go.Proofs.YtahbekmnphkiiaaDoor.Ref (RN RN.nil RN.ext RN.ahead Len_spec Shl_spec Int_spec Lent Lent.ahead Lent.ext Lent.whole len_mono bl_len32 len_lt_of own_step len32 Bk old_new)
open Sb

theorem bl_shl {x n : Nat} (h : x ≠ 0) : bl (x * 2 ^ n) = n + bl x := by
  have := bl_add_pow (t := 0) (k := n) h (Nat.pow_pos (by omega))
  rw [Nat.zero_add, Nat.mul_comm] at this
  exact this
theorem digs_len_bl32 {N m : Nat} (h : bl N ≤ 32 * m) : (digs B32 N).length ≤ m := digs_length_le two32 (by rw [b32_pow]; exact bl_le_iff.1 h)

theorem wnorm_spec {w : World} {neg : Bool} {s : Slc} {x : Nat} (h : Num w s x) : Calls pr whole_norm_id #[.agg (c2 neg s)] w fun e w' => Ahead w w' ∧ ∃ s', e = .returned (.agg (c2 (nD neg x) s')) ∧ OwnNil w.heap.size w' s' (digs B64 x) := by
  obtain ⟨l, r, hl, ol, rfl⟩ := h
  refine whole_norm_v2 neg s w _ fun w1 x1 a1 => Calls.mono (Norm_spec (r.ahead a1) hl ol) ?_
  rintro e w2 ⟨h2, s1, rfl, o1⟩
  have hn : s1.n = (digs B64 (val B64 l)).length := by rw [o1.rd.n, nn_length]
  refine ⟨_, rfl, h2, br_intro (fun hb => ?_) (fun hb => ?_)⟩
  · intro w3 x3 a3
    refine ⟨s1, ?_, (o1.ext x3).mono a1.size⟩
    congr 3
    rw [hb, hn]
    by_cases h0 : val B64 l = 0
    · rw [h0, digs_zero]; rfl
    · have := List.length_pos_iff.2 (digs_ne_nil two64 h0)
      rw [nD_ne h0]
      simp; omega
  · intro w3 x3 a3
    refine ⟨s1, ?_, (o1.ext x3).mono a1.size⟩
    rw [hb]; rfl
/-- A whole number as the program answers it. -/
def WOut (w : World) (code : Int) (neg : Bool) (q : Nat) (e : Ending) (w' : World) : Prop := ∃ s, e = .returned (.tuple #[.agg (c2 (if code = 0 then nD neg q else false) s), .int .i64 code]) ∧ OwnNil w.heap.size w' s (if code = 0 then digs B64 q else [])
def bC (q : Nat) : Int := if 67108864 < bl q then 3 else 0
theorem fits_spec {w : World} {neg : Bool} {s : Slc} {x : Nat} (h : Num w s x) : Calls pr whole_fits_id #[.agg (c2 neg s)] w fun e w' => Ahead w w' ∧ WOut w (bC x) neg x e w' := by
  refine whole_fits_v2 neg s w _ fun w1 x1 a1 => Calls.mono (len_num (h.ahead a1)) ?_
  rintro e w2 ⟨rfl, rfl⟩
  refine ⟨_, rfl, Ahead.refl _, br_intro (fun hb => ?_) (fun hb => ?_)⟩
  · have hb' : 67108864 < bl x := by have := of_decide_eq_true hb; omega
    have hc : bC x = 3 := if_pos hb'
    rw [hc]
    exact fun w3 x3 a3 => ⟨_, rfl, OwnNil.nil⟩
  · have hb' : ¬ 67108864 < bl x := by have := of_decide_eq_false hb; omega
    have hc : bC x = 0 := if_neg hb'
    rw [hc]
    refine Calls.mono (wnorm_spec (h.ahead a1)) ?_
    rintro e w4 ⟨h4, s1, rfl, o1⟩
    exact ⟨_, _, rfl, h4, fun w5 x5 a5 => ⟨s1, rfl, (o1.ext x5).mono a1.size⟩⟩
theorem wMake_spec {w : World} {neg : Bool} {s : Slc} {x : Nat} (h : Num w s x) : Calls pr whole_Make_id #[.bool neg, s.v] w fun e w' => Ahead w w' ∧ WOut w (bC x) neg x e w' := by
  refine whole_Make_v2 neg s w _ fun w1 x1 a1 => Calls.mono (fits_spec (h.ahead a1)) ?_
  rintro e w2 ⟨h2, s1, rfl, o1⟩
  exact ⟨_, _, _, rfl, h2, fun w3 x3 a3 => ⟨s1, rfl, (o1.ext x3).mono a1.size⟩⟩

end Dy
end Go.Proofs.YtahbekmnphkiiaaDoor
