/- Verification conditions with local variables as values, printed by a program of this session. No condition. -/
import Derived.Test.YthhbjhdnaopcnaaDoorL2
import Derived.Test.YthhbjhdnaopcnaaDoorVcDy
import Derived.Test.YthhbjhdnaopcnaaDoorVcDyR
import Derived.Test.YthhbjhdnaopcnaaDoorVcDyX
import Derived.Test.YthhbjhdnaopcnaaDoorVcDyL
namespace Go.Proofs.YthhbjhdnaopcnaaDoor
open Go Go.RowKit Eng L2
set_option linter.unusedVariables false
set_option maxRecDepth 100000

/-- surd/dyadic.steps: function 84, its local variables as values. -/
theorem dyadic_steps_v2 (a0_0 : Bool) (a0_1 : Slc) (a0_2 : Int) (a1 : Int) (a2 : Int) (w : World) (R : Ending → World → Prop)
    (K3 : Int → Int → Bool → Bool → Slc → Int → Bool → Slc → World → Prop) (K8 : Int → Int → Slc → Bool → Slc → Int → Bool → Slc → World → Prop) (K16 : Slc → Bool → Bool → Slc → Int → Bool → Slc → World → Prop)
    (h : ∀ w1, Ext w w1 → Ahead w w1 →
    (Calls Tryd.prog 71 #[Value.agg #[Value.bool a0_0, a0_1.v]] w1 fun e1 w2 =>
      ∃ x1 : Int, e1 = .returned (Value.int .i64 x1) ∧ Ahead w1 w2 ∧
      (br (x1 == 0)
        (K3 a1 a2 true a0_0 a0_1 a0_2 false (⟨none, 0, 0⟩ : Slc) w2)
        (K3 a1 a2 (decide (a0_2 ≥ a1)) a0_0 a0_1 a0_2 false (⟨none, 0, 0⟩ : Slc) w2))))
    (h3000003 : ∀ (t1 : Int) (t2 : Int) (t19 : Bool) (t3_0 : Bool) (t3_1 : Slc) (t3_2 : Int) (t6_0 : Bool) (t6_1 : Slc) (w_ : World), Ahead w w_ → K3 t1 t2 t19 t3_0 t3_1 t3_2 t6_0 t6_1 w_ → 
    br t19
    (∀ w3, Ext w_ w3 → Ahead w w3 →
      (Calls Tryd.prog 107 #[t3_1.v, Value.int .i64 (maxI (IntKind.i64.wrap (t3_2 - t1)) 0)] w3 fun e2 w4 =>
        ∃ s1 : Slc, e2 = .returned s1.v ∧ Ahead w3 w4 ∧
        (∀ w5, Ext w4 w5 → Ahead w w5 →
          (R (.returned (Value.agg #[Value.bool t3_0, s1.v])) w5))))
    (Calls Tryd.prog 73 #[Value.agg #[Value.bool t3_0, t3_1.v]] w_ fun e3 w6 =>
      ∃ x2 : Int, e3 = .returned (Value.int .i64 x2) ∧ Ahead w_ w6 ∧
      (br (decide ((IntKind.i64.wrap (t1 - t3_2)) < x2))
        (Calls Tryd.prog 108 #[t3_1.v, Value.int .i64 (IntKind.i64.wrap (t1 - t3_2))] w6 fun e4 w7 =>
          ∃ s2 : Slc, e4 = .returned s2.v ∧ Ahead w6 w7 ∧
          (K8 t2 (IntKind.i64.wrap (t1 - t3_2)) s2 t3_0 t3_1 t3_2 t6_0 t6_1 w7))
        (K8 t2 (IntKind.i64.wrap (t1 - t3_2)) (⟨none, 0, 0⟩ : Slc) t3_0 t3_1 t3_2 t6_0 t6_1 w6))))
    (h3000008 : ∀ (t2 : Int) (t7 : Int) (t8 : Slc) (t3_0 : Bool) (t3_1 : Slc) (t3_2 : Int) (t6_0 : Bool) (t6_1 : Slc) (w_ : World), Ahead w w_ → K8 t2 t7 t8 t3_0 t3_1 t3_2 t6_0 t6_1 w_ → 
    br (t2 == 2)
    (Calls Tryd.prog 109 #[t3_1.v, Value.int .i64 (IntKind.i64.wrap (t7 - 1))] w_ fun e5 w8 =>
      ∃ x3 : Int, e5 = .returned (Value.int .i64 x3) ∧ Ahead w_ w8 ∧
      (br (x3 == 1)
        (Calls Tryd.prog 110 #[t3_1.v] w8 fun e6 w9 =>
          ∃ x4 : Int, e6 = .returned (Value.int .i64 x4) ∧ Ahead w8 w9 ∧
          (br (decide (x4 < (IntKind.i64.wrap (t7 - 1))))
            (K16 t8 true t3_0 t3_1 t3_2 t6_0 t6_1 w9)
            (Calls Tryd.prog 109 #[t8.v, Value.int .i64 0] w9 fun e9 w14 =>
              ∃ x5 : Int, e9 = .returned (Value.int .i64 x5) ∧ Ahead w9 w14 ∧
              (br (!(x5 == 1))
                (K16 t8 false t3_0 t3_1 t3_2 t6_0 t6_1 w14)
                (K16 t8 true t3_0 t3_1 t3_2 t6_0 t6_1 w14)))))
        (K16 t8 false t3_0 t3_1 t3_2 t6_0 t6_1 w8)))
    (br (t2 == 0)
      (K16 t8 t3_0 t3_0 t3_1 t3_2 t6_0 t6_1 w_)
      (K16 t8 (!t3_0) t3_0 t3_1 t3_2 t6_0 t6_1 w_)))
    (h3000016 : ∀ (t8 : Slc) (t9 : Bool) (t3_0 : Bool) (t3_1 : Slc) (t3_2 : Int) (t6_0 : Bool) (t6_1 : Slc) (w_ : World), Ahead w w_ → K16 t8 t9 t3_0 t3_1 t3_2 t6_0 t6_1 w_ → 
    br t9
    (Calls Tryd.prog 101 #[Value.int .u64 1] w_ fun e7 w10 =>
      ∃ s3 : Slc, e7 = .returned s3.v ∧ Ahead w_ w10 ∧
      (Calls Tryd.prog 111 #[t8.v, s3.v] w10 fun e8 w11 =>
        ∃ s4 : Slc, e8 = .returned s4.v ∧ Ahead w10 w11 ∧
        (∀ w12, Ext w11 w12 → Ahead w w12 →
          (R (.returned (Value.agg #[Value.bool t3_0, s4.v])) w12))))
    (∀ w13, Ext w_ w13 → Ahead w w13 →
      (R (.returned (Value.agg #[Value.bool t3_0, t8.v])) w13))) :
    Calls Tryd.prog 84 #[Value.agg #[Value.bool a0_0, a0_1.v, Value.int .i64 a0_2], Value.int .i64 a1, Value.int .i64 a2] w (fun e_ w_ => Ahead w w_ ∧ R e_ w_) := by
  refine dyadic_steps_vc a0_0 a0_1 a0_2 a1 a2 w _ (fun t1 t2 t3 t6 t19 w_ => ∃ c3_ : Nat, ∃ c6_ : Nat, ∃ t3_0 : Bool, ∃ t3_1 : Slc, ∃ t3_2 : Int, ∃ t6_0 : Bool, ∃ t6_1 : Slc, t3 = ⟨c3_, 0, none⟩ ∧ Blt w_ c3_ 98 #[Value.bool t3_0, t3_1.v, Value.int .i64 t3_2] ∧ w.heap.size ≤ c3_ ∧ t6 = ⟨c6_, 0, none⟩ ∧ Blt w_ c6_ 31 #[Value.bool t6_0, t6_1.v] ∧ w.heap.size ≤ c6_ ∧ c3_ ≠ c6_ ∧ Ahead w w_ ∧ K3 t1 t2 t19 t3_0 t3_1 t3_2 t6_0 t6_1 w_) (fun t2 t3 t6 t7 t8 w_ => ∃ c3_ : Nat, ∃ c6_ : Nat, ∃ t3_0 : Bool, ∃ t3_1 : Slc, ∃ t3_2 : Int, ∃ t6_0 : Bool, ∃ t6_1 : Slc, t3 = ⟨c3_, 0, none⟩ ∧ Blt w_ c3_ 98 #[Value.bool t3_0, t3_1.v, Value.int .i64 t3_2] ∧ w.heap.size ≤ c3_ ∧ t6 = ⟨c6_, 0, none⟩ ∧ Blt w_ c6_ 31 #[Value.bool t6_0, t6_1.v] ∧ w.heap.size ≤ c6_ ∧ c3_ ≠ c6_ ∧ Ahead w w_ ∧ K8 t2 t7 t8 t3_0 t3_1 t3_2 t6_0 t6_1 w_) (fun t3 t6 t8 t9 w_ => ∃ c3_ : Nat, ∃ c6_ : Nat, ∃ t3_0 : Bool, ∃ t3_1 : Slc, ∃ t3_2 : Int, ∃ t6_0 : Bool, ∃ t6_1 : Slc, t3 = ⟨c3_, 0, none⟩ ∧ Blt w_ c3_ 98 #[Value.bool t3_0, t3_1.v, Value.int .i64 t3_2] ∧ w.heap.size ≤ c3_ ∧ t6 = ⟨c6_, 0, none⟩ ∧ Blt w_ c6_ 31 #[Value.bool t6_0, t6_1.v] ∧ w.heap.size ≤ c6_ ∧ c3_ ≠ c6_ ∧ Ahead w w_ ∧ K16 t8 t9 t3_0 t3_1 t3_2 t6_0 t6_1 w_) ?_ ?_ ?_ ?_
  · have A : Ahead w w := Ahead.refl w
    have X : Ext w w := Ext.refl w
    refine newC_t fun bk1 u1 hb1 ha_u1 hs B1 => ?_
    have g1 : w.heap.size ≤ bk1 := by have := A.size; omega
    replace A := A.trans ha_u1
    replace X := X.trans (Ext.of_ahead ha_u1)
    clear hs hb1
    refine newC_t fun bk2 u2 hb2 ha_u2 hs B2 => ?_
    have g2 : w.heap.size ≤ bk2 := by have := A.size; omega
    have l1_2 : bk1 < bk2 := by have := B1.lt; omega
    replace B1 := B1.ahead ha_u2
    replace A := A.trans ha_u2
    replace X := X.trans (Ext.of_ahead ha_u2)
    clear hs hb2
    refine ldB_t 0 B1 rfl ?_
    refine ldS_t 1 B1 rfl ?_
    replace h := h _ X A
    refine Calls.mono h ?_
    clear h
    rintro e1 w2 ⟨x1, he_, ha_w2, h⟩
    refine ⟨x1, he_, ?_⟩
    clear he_
    replace B1 := B1.ahead ha_w2
    replace B2 := B2.ahead ha_w2
    replace A := A.trans ha_w2
    replace X := X.trans (Ext.of_ahead ha_w2)
    replace X : Ext w2 w2 := Ext.refl _
    refine br_map h (fun h_ => ?_) (fun h_ => ?_)
    · skip
      clear h
      have h := h_
      clear h_
      exact ⟨bk1, bk2, a0_0, a0_1, a0_2, false, (⟨none, 0, 0⟩ : Slc), rfl, B1, g1, rfl, B2, g2, (by omega), A, h⟩
    · skip
      clear h
      have h := h_
      clear h_
      refine ldI_t 2 B1 rfl ?_
      exact ⟨bk1, bk2, a0_0, a0_1, a0_2, false, (⟨none, 0, 0⟩ : Slc), rfl, B1, g1, rfl, B2, g2, (by omega), A, h⟩
  · clear h
    rintro t1 t2 t3 t6 t19 w_ ⟨bk1, bk2, t3_0, t3_1, t3_2, t6_0, t6_1, rfl, B1, g1, rfl, B2, g2, n1_2, A, hJ3000003⟩
    have h := h3000003  t1 t2 t19 t3_0 t3_1 t3_2 t6_0 t6_1 w_ A hJ3000003
    have X : Ext w_ w_ := Ext.refl _
    refine br_map h (fun h_ => ?_) (fun h_ => ?_)
    · skip
      clear h
      have h := h_
      clear h_
      have hd_ := Sp.Ahead.drew w_
      replace B1 := B1.ahead hd_
      replace B2 := B2.ahead hd_
      replace A := A.trans hd_
      replace X := X.trans (Ext.of_ahead hd_)
      clear hd_
      refine ldB_t 0 B1 rfl ?_
      refine ldS_t 1 B1 rfl ?_
      refine ldI_t 2 B1 rfl ?_
      replace h := h _ X A
      refine Calls.mono h ?_
      clear h
      rintro e2 w4 ⟨s1, he_, ha_w4, h⟩
      refine ⟨s1, he_, ?_⟩
      clear he_
      replace B1 := B1.ahead ha_w4
      replace B2 := B2.ahead ha_w4
      replace A := A.trans ha_w4
      replace X := X.trans (Ext.of_ahead ha_w4)
      replace X : Ext w4 w4 := Ext.refl _
      refine ⟨ha_w4, ?_⟩
      refine stC_t 0 B2 rfl rfl rfl fun u3 k_u3 B2_ => ?_
      replace B2 : Blt u3 bk2 31 #[Value.bool t3_0, t6_1.v] := B2_
      clear B2_
      refine stC_t 1 B2 rfl rfl rfl fun u4 k_u4 B2_ => ?_
      replace B2 : Blt u4 bk2 31 #[Value.bool t3_0, s1.v] := B2_
      clear B2_
      have kk_u3 := (k_u3.trans k_u4)
      replace B1 := kk_u3.blt B1 (by omega)
      replace A := kk_u3.ahead A g2
      replace X := X.trans kk_u3.ext
      clear k_u4 k_u3
      refine ldB_t 0 B2 rfl ?_
      refine ldS_t 1 B2 rfl ?_
      replace h := h _ X A
      exact ⟨A, h⟩
    · skip
      clear h
      have h := h_
      clear h_
      refine ldI_t 2 B1 rfl ?_
      refine ldB_t 0 B1 rfl ?_
      refine ldS_t 1 B1 rfl ?_
      refine Calls.mono h ?_
      clear h
      rintro e3 w6 ⟨x2, he_, ha_w6, h⟩
      refine ⟨x2, he_, ?_⟩
      clear he_
      replace B1 := B1.ahead ha_w6
      replace B2 := B2.ahead ha_w6
      replace A := A.trans ha_w6
      replace X := X.trans (Ext.of_ahead ha_w6)
      replace X : Ext w6 w6 := Ext.refl _
      refine br_map h (fun h_ => ?_) (fun h_ => ?_)
      · skip
        clear h
        have h := h_
        clear h_
        refine ldS_t 1 B1 rfl ?_
        refine Calls.mono h ?_
        clear h
        rintro e4 w7 ⟨s2, he_, ha_w7, h⟩
        refine ⟨s2, he_, ?_⟩
        clear he_
        replace B1 := B1.ahead ha_w7
        replace B2 := B2.ahead ha_w7
        replace A := A.trans ha_w7
        replace X := X.trans (Ext.of_ahead ha_w7)
        replace X : Ext w7 w7 := Ext.refl _
        exact ⟨bk1, bk2, t3_0, t3_1, t3_2, t6_0, t6_1, rfl, B1, g1, rfl, B2, g2, (by omega), A, h⟩
      · skip
        clear h
        have h := h_
        clear h_
        exact ⟨bk1, bk2, t3_0, t3_1, t3_2, t6_0, t6_1, rfl, B1, g1, rfl, B2, g2, (by omega), A, h⟩
  · clear h
    rintro t2 t3 t6 t7 t8 w_ ⟨bk1, bk2, t3_0, t3_1, t3_2, t6_0, t6_1, rfl, B1, g1, rfl, B2, g2, n1_2, A, hJ3000008⟩
    have h := h3000008  t2 t7 t8 t3_0 t3_1 t3_2 t6_0 t6_1 w_ A hJ3000008
    have X : Ext w_ w_ := Ext.refl _
    refine br_map h (fun h_ => ?_) (fun h_ => ?_)
    · skip
      clear h
      have h := h_
      clear h_
      refine ldS_t 1 B1 rfl ?_
      refine Calls.mono h ?_
      clear h
      rintro e5 w8 ⟨x3, he_, ha_w8, h⟩
      refine ⟨x3, he_, ?_⟩
      clear he_
      replace B1 := B1.ahead ha_w8
      replace B2 := B2.ahead ha_w8
      replace A := A.trans ha_w8
      replace X := X.trans (Ext.of_ahead ha_w8)
      replace X : Ext w8 w8 := Ext.refl _
      refine br_map h (fun h_ => ?_) (fun h_ => ?_)
      · skip
        clear h
        have h := h_
        clear h_
        refine ldS_t 1 B1 rfl ?_
        refine Calls.mono h ?_
        clear h
        rintro e6 w9 ⟨x4, he_, ha_w9, h⟩
        refine ⟨x4, he_, ?_⟩
        clear he_
        replace B1 := B1.ahead ha_w9
        replace B2 := B2.ahead ha_w9
        replace A := A.trans ha_w9
        replace X := X.trans (Ext.of_ahead ha_w9)
        replace X : Ext w9 w9 := Ext.refl _
        refine br_map h (fun h_ => ?_) (fun h_ => ?_)
        · skip
          clear h
          have h := h_
          clear h_
          exact ⟨bk1, bk2, t3_0, t3_1, t3_2, t6_0, t6_1, rfl, B1, g1, rfl, B2, g2, (by omega), A, h⟩
        · skip
          clear h
          have h := h_
          clear h_
          refine Calls.mono h ?_
          clear h
          rintro e9 w14 ⟨x5, he_, ha_w14, h⟩
          refine ⟨x5, he_, ?_⟩
          clear he_
          replace B1 := B1.ahead ha_w14
          replace B2 := B2.ahead ha_w14
          replace A := A.trans ha_w14
          replace X := X.trans (Ext.of_ahead ha_w14)
          replace X : Ext w14 w14 := Ext.refl _
          refine br_map h (fun h_ => ?_) (fun h_ => ?_)
          · skip
            clear h
            have h := h_
            clear h_
            exact ⟨bk1, bk2, t3_0, t3_1, t3_2, t6_0, t6_1, rfl, B1, g1, rfl, B2, g2, (by omega), A, h⟩
          · skip
            clear h
            have h := h_
            clear h_
            exact ⟨bk1, bk2, t3_0, t3_1, t3_2, t6_0, t6_1, rfl, B1, g1, rfl, B2, g2, (by omega), A, h⟩
      · skip
        clear h
        have h := h_
        clear h_
        exact ⟨bk1, bk2, t3_0, t3_1, t3_2, t6_0, t6_1, rfl, B1, g1, rfl, B2, g2, (by omega), A, h⟩
    · skip
      clear h
      have h := h_
      clear h_
      refine br_map h (fun h_ => ?_) (fun h_ => ?_)
      · skip
        clear h
        have h := h_
        clear h_
        refine ldB_t 0 B1 rfl ?_
        exact ⟨bk1, bk2, t3_0, t3_1, t3_2, t6_0, t6_1, rfl, B1, g1, rfl, B2, g2, (by omega), A, h⟩
      · skip
        clear h
        have h := h_
        clear h_
        refine ldB_t 0 B1 rfl ?_
        exact ⟨bk1, bk2, t3_0, t3_1, t3_2, t6_0, t6_1, rfl, B1, g1, rfl, B2, g2, (by omega), A, h⟩
  · clear h
    rintro t3 t6 t8 t9 w_ ⟨bk1, bk2, t3_0, t3_1, t3_2, t6_0, t6_1, rfl, B1, g1, rfl, B2, g2, n1_2, A, hJ3000016⟩
    have h := h3000016  t8 t9 t3_0 t3_1 t3_2 t6_0 t6_1 w_ A hJ3000016
    have X : Ext w_ w_ := Ext.refl _
    refine br_map h (fun h_ => ?_) (fun h_ => ?_)
    · skip
      clear h
      have h := h_
      clear h_
      refine Calls.mono h ?_
      clear h
      rintro e7 w10 ⟨s3, he_, ha_w10, h⟩
      refine ⟨s3, he_, ?_⟩
      clear he_
      replace B1 := B1.ahead ha_w10
      replace B2 := B2.ahead ha_w10
      replace A := A.trans ha_w10
      replace X := X.trans (Ext.of_ahead ha_w10)
      replace X : Ext w10 w10 := Ext.refl _
      refine Calls.mono h ?_
      clear h
      rintro e8 w11 ⟨s4, he_, ha_w11, h⟩
      refine ⟨s4, he_, ?_⟩
      clear he_
      replace B1 := B1.ahead ha_w11
      replace B2 := B2.ahead ha_w11
      replace A := A.trans ha_w11
      replace X := X.trans (Ext.of_ahead ha_w11)
      replace X : Ext w11 w11 := Ext.refl _
      refine ldB_t 0 B1 rfl ?_
      refine stC_t 0 B2 rfl rfl rfl fun u5 k_u5 B2_ => ?_
      replace B2 : Blt u5 bk2 31 #[Value.bool t3_0, t6_1.v] := B2_
      clear B2_
      refine stC_t 1 B2 rfl rfl rfl fun u6 k_u6 B2_ => ?_
      replace B2 : Blt u6 bk2 31 #[Value.bool t3_0, s4.v] := B2_
      clear B2_
      have kk_u5 := (k_u5.trans k_u6)
      replace B1 := kk_u5.blt B1 (by omega)
      replace A := kk_u5.ahead A g2
      replace X := X.trans kk_u5.ext
      clear k_u6 k_u5
      refine ldB_t 0 B2 rfl ?_
      refine ldS_t 1 B2 rfl ?_
      replace h := h _ X A
      exact ⟨A, h⟩
    · skip
      clear h
      have h := h_
      clear h_
      refine ldB_t 0 B1 rfl ?_
      refine stC_t 0 B2 rfl rfl rfl fun u7 k_u7 B2_ => ?_
      replace B2 : Blt u7 bk2 31 #[Value.bool t3_0, t6_1.v] := B2_
      clear B2_
      refine stC_t 1 B2 rfl rfl rfl fun u8 k_u8 B2_ => ?_
      replace B2 : Blt u8 bk2 31 #[Value.bool t3_0, t8.v] := B2_
      clear B2_
      have kk_u7 := (k_u7.trans k_u8)
      replace B1 := kk_u7.blt B1 (by omega)
      replace A := kk_u7.ahead A g2
      replace X := X.trans kk_u7.ext
      clear k_u8 k_u7
      refine ldB_t 0 B2 rfl ?_
      refine ldS_t 1 B2 rfl ?_
      replace h := h _ X A
      exact ⟨A, h⟩

/-- surd/dyadic.rounded: function 80, its local variables as values. -/
theorem dyadic_rounded_v2 (a0_x_0 : Bool) (a0_x_1 : Slc) (a0_x_2 : Int) (a1_pos : Int) (a2_m : Int) (w : World) (R : Ending → World → Prop)
    
    (h : ∀ w1, Ext w w1 → Ahead w w1 →
    (Calls Tryd.prog 71 #[Value.agg #[Value.bool a0_x_0, a0_x_1.v]] w1 fun e1 w2 =>
      ∃ x1 : Int, e1 = .returned (Value.int .i64 x1) ∧ Ahead w1 w2 ∧
      (br (x1 == 0)
        (Calls Tryd.prog 64 #[Value.agg #[Value.bool a0_x_0, a0_x_1.v], Value.int .i64 a0_x_2] w2 fun e2 w3 =>
          ∃ b1 : Bool, ∃ s1 : Slc, ∃ x2 : Int, ∃ x3 : Int, e2 = .returned (Value.tuple #[Value.agg #[Value.bool b1, s1.v, Value.int .i64 x2], Value.int .i64 x3]) ∧ Ahead w2 w3 ∧
          (∀ w4, Ext w3 w4 → Ahead w w4 →
            (R (.returned (Value.tuple #[Value.agg #[Value.bool b1, s1.v, Value.int .i64 x2], Value.int .i64 x3])) w4)))
        (br (decide (a0_x_2 ≥ a1_pos))
          (Calls Tryd.prog 64 #[Value.agg #[Value.bool a0_x_0, a0_x_1.v], Value.int .i64 a0_x_2] w2 fun e3 w5 =>
            ∃ b2 : Bool, ∃ s2 : Slc, ∃ x4 : Int, ∃ x5 : Int, e3 = .returned (Value.tuple #[Value.agg #[Value.bool b2, s2.v, Value.int .i64 x4], Value.int .i64 x5]) ∧ Ahead w2 w5 ∧
            (∀ w6, Ext w5 w6 → Ahead w w6 →
              (R (.returned (Value.tuple #[Value.agg #[Value.bool b2, s2.v, Value.int .i64 x4], Value.int .i64 x5])) w6)))
          (Calls Tryd.prog 84 #[Value.agg #[Value.bool a0_x_0, a0_x_1.v, Value.int .i64 a0_x_2], Value.int .i64 a1_pos, Value.int .i64 a2_m] w2 fun e4 w7 =>
            ∃ b3 : Bool, ∃ s3 : Slc, e4 = .returned (Value.agg #[Value.bool b3, s3.v]) ∧ Ahead w2 w7 ∧
            (Calls Tryd.prog 64 #[Value.agg #[Value.bool b3, s3.v], Value.int .i64 a1_pos] w7 fun e5 w8 =>
              ∃ b4 : Bool, ∃ s4 : Slc, ∃ x6 : Int, ∃ x7 : Int, e5 = .returned (Value.tuple #[Value.agg #[Value.bool b4, s4.v, Value.int .i64 x6], Value.int .i64 x7]) ∧ Ahead w7 w8 ∧
              (∀ w9, Ext w8 w9 → Ahead w w9 →
                (R (.returned (Value.tuple #[Value.agg #[Value.bool b4, s4.v, Value.int .i64 x6], Value.int .i64 x7])) w9))))))))
     :
    Calls Tryd.prog 80 #[Value.agg #[Value.bool a0_x_0, a0_x_1.v, Value.int .i64 a0_x_2], Value.int .i64 a1_pos, Value.int .i64 a2_m] w (fun e_ w_ => Ahead w w_ ∧ R e_ w_) := by
  refine dyadic_rounded_vc a0_x_0 a0_x_1 a0_x_2 a1_pos a2_m w _  ?_
  · have A : Ahead w w := Ahead.refl w
    have X : Ext w w := Ext.refl w
    refine newC_t fun bk1 u1 hb1 ha_u1 hs B1 => ?_
    have g1 : w.heap.size ≤ bk1 := by have := A.size; omega
    replace A := A.trans ha_u1
    replace X := X.trans (Ext.of_ahead ha_u1)
    clear hs hb1
    refine newC_t fun bk2 u2 hb2 ha_u2 hs B2 => ?_
    have g2 : w.heap.size ≤ bk2 := by have := A.size; omega
    have l1_2 : bk1 < bk2 := by have := B1.lt; omega
    replace B1 := B1.ahead ha_u2
    replace A := A.trans ha_u2
    replace X := X.trans (Ext.of_ahead ha_u2)
    clear hs hb2
    refine ldB_t 0 B1 rfl ?_
    refine ldS_t 1 B1 rfl ?_
    replace h := h _ X A
    refine Calls.mono h ?_
    clear h
    rintro e1 w2 ⟨x1, he_, ha_w2, h⟩
    refine ⟨x1, he_, ?_⟩
    clear he_
    replace B1 := B1.ahead ha_w2
    replace B2 := B2.ahead ha_w2
    replace A := A.trans ha_w2
    replace X := X.trans (Ext.of_ahead ha_w2)
    replace X : Ext w2 w2 := Ext.refl _
    refine br_map h (fun h_ => ?_) (fun h_ => ?_)
    · skip
      clear h
      have h := h_
      clear h_
      refine ldB_t 0 B1 rfl ?_
      refine ldS_t 1 B1 rfl ?_
      refine ldI_t 2 B1 rfl ?_
      refine Calls.mono h ?_
      clear h
      rintro e2 w3 ⟨b1, s1, x2, x3, he_, ha_w3, h⟩
      refine ⟨b1, s1, x2, x3, he_, ?_⟩
      clear he_
      replace B1 := B1.ahead ha_w3
      replace B2 := B2.ahead ha_w3
      replace A := A.trans ha_w3
      replace X := X.trans (Ext.of_ahead ha_w3)
      replace X : Ext w3 w3 := Ext.refl _
      refine stC_t 0 B2 rfl rfl rfl fun u3 k_u3 B2_ => ?_
      replace B2 : Blt u3 bk2 33 #[Value.bool b1, (⟨none, 0, 0⟩ : Slc).v, Value.int .i64 0] := B2_
      clear B2_
      refine stC_t 1 B2 rfl rfl rfl fun u4 k_u4 B2_ => ?_
      replace B2 : Blt u4 bk2 33 #[Value.bool b1, s1.v, Value.int .i64 0] := B2_
      clear B2_
      refine stC_t 2 B2 rfl rfl rfl fun u5 k_u5 B2_ => ?_
      replace B2 : Blt u5 bk2 33 #[Value.bool b1, s1.v, Value.int .i64 x2] := B2_
      clear B2_
      have kk_u3 := ((k_u3.trans k_u4).trans k_u5)
      replace B1 := kk_u3.blt B1 (by omega)
      replace A := kk_u3.ahead A g2
      replace X := X.trans kk_u3.ext
      clear k_u5 k_u4 k_u3
      refine ldB_t 0 B2 rfl ?_
      refine ldS_t 1 B2 rfl ?_
      refine ldI_t 2 B2 rfl ?_
      replace h := h _ X A
      exact ⟨A, h⟩
    · skip
      clear h
      have h := h_
      clear h_
      refine ldI_t 2 B1 rfl ?_
      refine br_map h (fun h_ => ?_) (fun h_ => ?_)
      · skip
        clear h
        have h := h_
        clear h_
        refine ldB_t 0 B1 rfl ?_
        refine ldS_t 1 B1 rfl ?_
        refine ldI_t 2 B1 rfl ?_
        refine Calls.mono h ?_
        clear h
        rintro e3 w5 ⟨b2, s2, x4, x5, he_, ha_w5, h⟩
        refine ⟨b2, s2, x4, x5, he_, ?_⟩
        clear he_
        replace B1 := B1.ahead ha_w5
        replace B2 := B2.ahead ha_w5
        replace A := A.trans ha_w5
        replace X := X.trans (Ext.of_ahead ha_w5)
        replace X : Ext w5 w5 := Ext.refl _
        refine stC_t 0 B2 rfl rfl rfl fun u6 k_u6 B2_ => ?_
        replace B2 : Blt u6 bk2 33 #[Value.bool b2, (⟨none, 0, 0⟩ : Slc).v, Value.int .i64 0] := B2_
        clear B2_
        refine stC_t 1 B2 rfl rfl rfl fun u7 k_u7 B2_ => ?_
        replace B2 : Blt u7 bk2 33 #[Value.bool b2, s2.v, Value.int .i64 0] := B2_
        clear B2_
        refine stC_t 2 B2 rfl rfl rfl fun u8 k_u8 B2_ => ?_
        replace B2 : Blt u8 bk2 33 #[Value.bool b2, s2.v, Value.int .i64 x4] := B2_
        clear B2_
        have kk_u6 := ((k_u6.trans k_u7).trans k_u8)
        replace B1 := kk_u6.blt B1 (by omega)
        replace A := kk_u6.ahead A g2
        replace X := X.trans kk_u6.ext
        clear k_u8 k_u7 k_u6
        refine ldB_t 0 B2 rfl ?_
        refine ldS_t 1 B2 rfl ?_
        refine ldI_t 2 B2 rfl ?_
        replace h := h _ X A
        exact ⟨A, h⟩
      · skip
        clear h
        have h := h_
        clear h_
        refine ldB_t 0 B1 rfl ?_
        refine ldS_t 1 B1 rfl ?_
        refine ldI_t 2 B1 rfl ?_
        refine Calls.mono h ?_
        clear h
        rintro e4 w7 ⟨b3, s3, he_, ha_w7, h⟩
        refine ⟨b3, s3, he_, ?_⟩
        clear he_
        replace B1 := B1.ahead ha_w7
        replace B2 := B2.ahead ha_w7
        replace A := A.trans ha_w7
        replace X := X.trans (Ext.of_ahead ha_w7)
        replace X : Ext w7 w7 := Ext.refl _
        refine Calls.mono h ?_
        clear h
        rintro e5 w8 ⟨b4, s4, x6, x7, he_, ha_w8, h⟩
        refine ⟨b4, s4, x6, x7, he_, ?_⟩
        clear he_
        replace B1 := B1.ahead ha_w8
        replace B2 := B2.ahead ha_w8
        replace A := A.trans ha_w8
        replace X := X.trans (Ext.of_ahead ha_w8)
        replace X : Ext w8 w8 := Ext.refl _
        refine stC_t 0 B2 rfl rfl rfl fun u9 k_u9 B2_ => ?_
        replace B2 : Blt u9 bk2 33 #[Value.bool b4, (⟨none, 0, 0⟩ : Slc).v, Value.int .i64 0] := B2_
        clear B2_
        refine stC_t 1 B2 rfl rfl rfl fun u10 k_u10 B2_ => ?_
        replace B2 : Blt u10 bk2 33 #[Value.bool b4, s4.v, Value.int .i64 0] := B2_
        clear B2_
        refine stC_t 2 B2 rfl rfl rfl fun u11 k_u11 B2_ => ?_
        replace B2 : Blt u11 bk2 33 #[Value.bool b4, s4.v, Value.int .i64 x6] := B2_
        clear B2_
        have kk_u9 := ((k_u9.trans k_u10).trans k_u11)
        replace B1 := kk_u9.blt B1 (by omega)
        replace A := kk_u9.ahead A g2
        replace X := X.trans kk_u9.ext
        clear k_u11 k_u10 k_u9
        refine ldB_t 0 B2 rfl ?_
        refine ldS_t 1 B2 rfl ?_
        refine ldI_t 2 B2 rfl ?_
        replace h := h _ X A
        exact ⟨A, h⟩

/-- surd/dyadic.Round: function 36, its local variables as values. -/
theorem dyadic_Round_v2 (a0_a_0 : Bool) (a0_a_1 : Slc) (a0_a_2 : Int) (a1_pos : Int) (a2_m : Int) (w : World) (R : Ending → World → Prop)
    
    (h : ∀ w1, Ext w w1 → Ahead w w1 →
    (Calls Tryd.prog 62 #[Value.agg #[Value.bool a0_a_0, a0_a_1.v, Value.int .i64 a0_a_2]] w1 fun e1 w2 =>
      ∃ b1 : Bool, ∃ s1 : Slc, ∃ x1 : Int, ∃ x2 : Int, e1 = .returned (Value.tuple #[Value.agg #[Value.bool b1, s1.v, Value.int .i64 x1], Value.int .i64 x2]) ∧ Ahead w1 w2 ∧
      (br (x2 != 0)
        (∀ w3, Ext w2 w3 → Ahead w w3 →
          (R (.returned (Value.tuple #[Value.agg #[Value.bool (false), ((⟨none, 0, 0⟩ : Slc)).v, Value.int .i64 (0 : Int)], Value.int .i64 x2])) w3))
        (∀ w4, Ext w2 w4 → Ahead w w4 →
          (Calls Tryd.prog 63 #[Value.int .i64 a1_pos] w4 fun e2 w5 =>
            ∃ b2 : Bool, e2 = .returned (Value.bool b2) ∧ Ahead w4 w5 ∧
            (br (!b2)
              (∀ w6, Ext w5 w6 → Ahead w w6 →
                (R (.returned (Value.tuple #[Value.agg #[Value.bool (false), ((⟨none, 0, 0⟩ : Slc)).v, Value.int .i64 (0 : Int)], Value.int .i64 1])) w6))
              (Calls Tryd.prog 79 #[Value.int .i64 a2_m] w5 fun e3 w7 =>
                ∃ b3 : Bool, e3 = .returned (Value.bool b3) ∧ Ahead w5 w7 ∧
                (br (!b3)
                  (∀ w8, Ext w7 w8 → Ahead w w8 →
                    (R (.returned (Value.tuple #[Value.agg #[Value.bool (false), ((⟨none, 0, 0⟩ : Slc)).v, Value.int .i64 (0 : Int)], Value.int .i64 81])) w8))
                  (Calls Tryd.prog 80 #[Value.agg #[Value.bool b1, s1.v, Value.int .i64 x1], Value.int .i64 a1_pos, Value.int .i64 a2_m] w7 fun e4 w9 =>
                    ∃ b4 : Bool, ∃ s2 : Slc, ∃ x3 : Int, ∃ x4 : Int, e4 = .returned (Value.tuple #[Value.agg #[Value.bool b4, s2.v, Value.int .i64 x3], Value.int .i64 x4]) ∧ Ahead w7 w9 ∧
                    (∀ w10, Ext w9 w10 → Ahead w w10 →
                      (R (.returned (Value.tuple #[Value.agg #[Value.bool b4, s2.v, Value.int .i64 x3], Value.int .i64 x4])) w10)))))))))))
     :
    Calls Tryd.prog 36 #[Value.agg #[Value.bool a0_a_0, a0_a_1.v, Value.int .i64 a0_a_2], Value.int .i64 a1_pos, Value.int .i64 a2_m] w (fun e_ w_ => Ahead w w_ ∧ R e_ w_) := by
  refine dyadic_Round_vc a0_a_0 a0_a_1 a0_a_2 a1_pos a2_m w _  ?_
  · have A : Ahead w w := Ahead.refl w
    have X : Ext w w := Ext.refl w
    refine newC_t fun bk1 u1 hb1 ha_u1 hs B1 => ?_
    have g1 : w.heap.size ≤ bk1 := by have := A.size; omega
    replace A := A.trans ha_u1
    replace X := X.trans (Ext.of_ahead ha_u1)
    clear hs hb1
    refine newC_t fun bk2 u2 hb2 ha_u2 hs B2 => ?_
    have g2 : w.heap.size ≤ bk2 := by have := A.size; omega
    have l1_2 : bk1 < bk2 := by have := B1.lt; omega
    replace B1 := B1.ahead ha_u2
    replace A := A.trans ha_u2
    replace X := X.trans (Ext.of_ahead ha_u2)
    clear hs hb2
    refine ldB_t 0 B1 rfl ?_
    refine ldS_t 1 B1 rfl ?_
    refine ldI_t 2 B1 rfl ?_
    replace h := h _ X A
    refine Calls.mono h ?_
    clear h
    rintro e1 w2 ⟨b1, s1, x1, x2, he_, ha_w2, h⟩
    refine ⟨b1, s1, x1, x2, he_, ?_⟩
    clear he_
    replace B1 := B1.ahead ha_w2
    replace B2 := B2.ahead ha_w2
    replace A := A.trans ha_w2
    replace X := X.trans (Ext.of_ahead ha_w2)
    replace X : Ext w2 w2 := Ext.refl _
    refine newC_t fun bk3 u3 hb3 ha_u3 hs B3 => ?_
    have g3 : w.heap.size ≤ bk3 := by have := A.size; omega
    have l1_3 : bk1 < bk3 := by have := B1.lt; omega
    have l2_3 : bk2 < bk3 := by have := B2.lt; omega
    replace B1 := B1.ahead ha_u3
    replace B2 := B2.ahead ha_u3
    replace A := A.trans ha_u3
    replace X := X.trans (Ext.of_ahead ha_u3)
    clear hs hb3
    refine stC_t 0 B3 rfl rfl rfl fun u4 k_u4 B3_ => ?_
    replace B3 : Blt u4 bk3 98 #[Value.bool b1, (⟨none, 0, 0⟩ : Slc).v, Value.int .i64 0] := B3_
    clear B3_
    refine stC_t 1 B3 rfl rfl rfl fun u5 k_u5 B3_ => ?_
    replace B3 : Blt u5 bk3 98 #[Value.bool b1, s1.v, Value.int .i64 0] := B3_
    clear B3_
    refine stC_t 2 B3 rfl rfl rfl fun u6 k_u6 B3_ => ?_
    replace B3 : Blt u6 bk3 98 #[Value.bool b1, s1.v, Value.int .i64 x1] := B3_
    clear B3_
    have kk_u4 := ((k_u4.trans k_u5).trans k_u6)
    replace B1 := kk_u4.blt B1 (by omega)
    replace B2 := kk_u4.blt B2 (by omega)
    replace A := kk_u4.ahead A g3
    replace X := X.trans kk_u4.ext
    clear k_u6 k_u5 k_u4
    refine br_map h (fun h_ => ?_) (fun h_ => ?_)
    · skip
      clear h
      have h := h_
      clear h_
      refine stC_t 0 B2 rfl rfl rfl fun u7 k_u7 B2_ => ?_
      replace B2 : Blt u7 bk2 33 #[Value.bool false, (⟨none, 0, 0⟩ : Slc).v, Value.int .i64 0] := B2_
      clear B2_
      refine stC_t 1 B2 rfl rfl rfl fun u8 k_u8 B2_ => ?_
      replace B2 : Blt u8 bk2 33 #[Value.bool false, (⟨none, 0, 0⟩ : Slc).v, Value.int .i64 0] := B2_
      clear B2_
      refine stC_t 2 B2 rfl rfl rfl fun u9 k_u9 B2_ => ?_
      replace B2 : Blt u9 bk2 33 #[Value.bool false, (⟨none, 0, 0⟩ : Slc).v, Value.int .i64 0] := B2_
      clear B2_
      have kk_u7 := ((k_u7.trans k_u8).trans k_u9)
      replace B1 := kk_u7.blt B1 (by omega)
      replace B3 := kk_u7.blt B3 (by omega)
      replace A := kk_u7.ahead A g2
      replace X := X.trans kk_u7.ext
      clear k_u9 k_u8 k_u7
      refine ldB_t 0 B2 rfl ?_
      refine ldS_t 1 B2 rfl ?_
      refine ldI_t 2 B2 rfl ?_
      replace h := h _ X A
      exact ⟨A, h⟩
    · skip
      clear h
      have h := h_
      clear h_
      replace h := h _ X A
      refine Calls.mono h ?_
      clear h
      rintro e2 w5 ⟨b2, he_, ha_w5, h⟩
      refine ⟨b2, he_, ?_⟩
      clear he_
      replace B1 := B1.ahead ha_w5
      replace B2 := B2.ahead ha_w5
      replace B3 := B3.ahead ha_w5
      replace A := A.trans ha_w5
      replace X := X.trans (Ext.of_ahead ha_w5)
      replace X : Ext w5 w5 := Ext.refl _
      refine br_map h (fun h_ => ?_) (fun h_ => ?_)
      · skip
        clear h
        have h := h_
        clear h_
        refine stC_t 0 B2 rfl rfl rfl fun u10 k_u10 B2_ => ?_
        replace B2 : Blt u10 bk2 33 #[Value.bool false, (⟨none, 0, 0⟩ : Slc).v, Value.int .i64 0] := B2_
        clear B2_
        refine stC_t 1 B2 rfl rfl rfl fun u11 k_u11 B2_ => ?_
        replace B2 : Blt u11 bk2 33 #[Value.bool false, (⟨none, 0, 0⟩ : Slc).v, Value.int .i64 0] := B2_
        clear B2_
        refine stC_t 2 B2 rfl rfl rfl fun u12 k_u12 B2_ => ?_
        replace B2 : Blt u12 bk2 33 #[Value.bool false, (⟨none, 0, 0⟩ : Slc).v, Value.int .i64 0] := B2_
        clear B2_
        have kk_u10 := ((k_u10.trans k_u11).trans k_u12)
        replace B1 := kk_u10.blt B1 (by omega)
        replace B3 := kk_u10.blt B3 (by omega)
        replace A := kk_u10.ahead A g2
        replace X := X.trans kk_u10.ext
        clear k_u12 k_u11 k_u10
        refine ldB_t 0 B2 rfl ?_
        refine ldS_t 1 B2 rfl ?_
        refine ldI_t 2 B2 rfl ?_
        replace h := h _ X A
        exact ⟨A, h⟩
      · skip
        clear h
        have h := h_
        clear h_
        refine Calls.mono h ?_
        clear h
        rintro e3 w7 ⟨b3, he_, ha_w7, h⟩
        refine ⟨b3, he_, ?_⟩
        clear he_
        replace B1 := B1.ahead ha_w7
        replace B2 := B2.ahead ha_w7
        replace B3 := B3.ahead ha_w7
        replace A := A.trans ha_w7
        replace X := X.trans (Ext.of_ahead ha_w7)
        replace X : Ext w7 w7 := Ext.refl _
        refine br_map h (fun h_ => ?_) (fun h_ => ?_)
        · skip
          clear h
          have h := h_
          clear h_
          refine stC_t 0 B2 rfl rfl rfl fun u13 k_u13 B2_ => ?_
          replace B2 : Blt u13 bk2 33 #[Value.bool false, (⟨none, 0, 0⟩ : Slc).v, Value.int .i64 0] := B2_
          clear B2_
          refine stC_t 1 B2 rfl rfl rfl fun u14 k_u14 B2_ => ?_
          replace B2 : Blt u14 bk2 33 #[Value.bool false, (⟨none, 0, 0⟩ : Slc).v, Value.int .i64 0] := B2_
          clear B2_
          refine stC_t 2 B2 rfl rfl rfl fun u15 k_u15 B2_ => ?_
          replace B2 : Blt u15 bk2 33 #[Value.bool false, (⟨none, 0, 0⟩ : Slc).v, Value.int .i64 0] := B2_
          clear B2_
          have kk_u13 := ((k_u13.trans k_u14).trans k_u15)
          replace B1 := kk_u13.blt B1 (by omega)
          replace B3 := kk_u13.blt B3 (by omega)
          replace A := kk_u13.ahead A g2
          replace X := X.trans kk_u13.ext
          clear k_u15 k_u14 k_u13
          refine ldB_t 0 B2 rfl ?_
          refine ldS_t 1 B2 rfl ?_
          refine ldI_t 2 B2 rfl ?_
          replace h := h _ X A
          exact ⟨A, h⟩
        · skip
          clear h
          have h := h_
          clear h_
          refine ldB_t 0 B3 rfl ?_
          refine ldS_t 1 B3 rfl ?_
          refine ldI_t 2 B3 rfl ?_
          refine Calls.mono h ?_
          clear h
          rintro e4 w9 ⟨b4, s2, x3, x4, he_, ha_w9, h⟩
          refine ⟨b4, s2, x3, x4, he_, ?_⟩
          clear he_
          replace B1 := B1.ahead ha_w9
          replace B2 := B2.ahead ha_w9
          replace B3 := B3.ahead ha_w9
          replace A := A.trans ha_w9
          replace X := X.trans (Ext.of_ahead ha_w9)
          replace X : Ext w9 w9 := Ext.refl _
          refine stC_t 0 B2 rfl rfl rfl fun u16 k_u16 B2_ => ?_
          replace B2 : Blt u16 bk2 33 #[Value.bool b4, (⟨none, 0, 0⟩ : Slc).v, Value.int .i64 0] := B2_
          clear B2_
          refine stC_t 1 B2 rfl rfl rfl fun u17 k_u17 B2_ => ?_
          replace B2 : Blt u17 bk2 33 #[Value.bool b4, s2.v, Value.int .i64 0] := B2_
          clear B2_
          refine stC_t 2 B2 rfl rfl rfl fun u18 k_u18 B2_ => ?_
          replace B2 : Blt u18 bk2 33 #[Value.bool b4, s2.v, Value.int .i64 x3] := B2_
          clear B2_
          have kk_u16 := ((k_u16.trans k_u17).trans k_u18)
          replace B1 := kk_u16.blt B1 (by omega)
          replace B3 := kk_u16.blt B3 (by omega)
          replace A := kk_u16.ahead A g2
          replace X := X.trans kk_u16.ext
          clear k_u18 k_u17 k_u16
          refine ldB_t 0 B2 rfl ?_
          refine ldS_t 1 B2 rfl ?_
          refine ldI_t 2 B2 rfl ?_
          replace h := h _ X A
          exact ⟨A, h⟩

/-- surd/surdref06.Neg: function 96, its local variables as values. -/
theorem surdref06_Neg_v2 (a0_a_0 : Bool) (a0_a_1 : Slc) (w : World) (R : Ending → World → Prop)
    
    (h : ∀ w1, Ext w w1 → Ahead w w1 →
    (Calls Tryd.prog 66 #[Value.bool (!a0_a_0), a0_a_1.v] w1 fun e1 w2 =>
      ∃ b1 : Bool, ∃ s1 : Slc, e1 = .returned (Value.agg #[Value.bool b1, s1.v]) ∧ Ahead w1 w2 ∧
      (∀ w3, Ext w2 w3 → Ahead w w3 →
        (R (.returned (Value.agg #[Value.bool b1, s1.v])) w3))))
     :
    Calls Tryd.prog 96 #[Value.agg #[Value.bool a0_a_0, a0_a_1.v]] w (fun e_ w_ => Ahead w w_ ∧ R e_ w_) := by
  refine surdref06_Neg_vc a0_a_0 a0_a_1 w _  ?_
  · have A : Ahead w w := Ahead.refl w
    have X : Ext w w := Ext.refl w
    refine newC_t fun bk1 u1 hb1 ha_u1 hs B1 => ?_
    have g1 : w.heap.size ≤ bk1 := by have := A.size; omega
    replace A := A.trans ha_u1
    replace X := X.trans (Ext.of_ahead ha_u1)
    clear hs hb1
    refine newC_t fun bk2 u2 hb2 ha_u2 hs B2 => ?_
    have g2 : w.heap.size ≤ bk2 := by have := A.size; omega
    have l1_2 : bk1 < bk2 := by have := B1.lt; omega
    replace B1 := B1.ahead ha_u2
    replace A := A.trans ha_u2
    replace X := X.trans (Ext.of_ahead ha_u2)
    clear hs hb2
    refine ldB_t 0 B1 rfl ?_
    refine ldS_t 1 B1 rfl ?_
    replace h := h _ X A
    refine Calls.mono h ?_
    clear h
    rintro e1 w2 ⟨b1, s1, he_, ha_w2, h⟩
    refine ⟨b1, s1, he_, ?_⟩
    clear he_
    replace B1 := B1.ahead ha_w2
    replace B2 := B2.ahead ha_w2
    replace A := A.trans ha_w2
    replace X := X.trans (Ext.of_ahead ha_w2)
    replace X : Ext w2 w2 := Ext.refl _
    refine stC_t 0 B2 rfl rfl rfl fun u3 k_u3 B2_ => ?_
    replace B2 : Blt u3 bk2 44 #[Value.bool b1, (⟨none, 0, 0⟩ : Slc).v] := B2_
    clear B2_
    refine stC_t 1 B2 rfl rfl rfl fun u4 k_u4 B2_ => ?_
    replace B2 : Blt u4 bk2 44 #[Value.bool b1, s1.v] := B2_
    clear B2_
    have kk_u3 := (k_u3.trans k_u4)
    replace B1 := kk_u3.blt B1 (by omega)
    replace A := kk_u3.ahead A g2
    replace X := X.trans kk_u3.ext
    clear k_u4 k_u3
    refine ldB_t 0 B2 rfl ?_
    refine ldS_t 1 B2 rfl ?_
    replace h := h _ X A
    exact ⟨A, h⟩

/-- surd/surdref06.Add: function 91, its local variables as values. -/
theorem surdref06_Add_v2 (a0_a_0 : Bool) (a0_a_1 : Slc) (a1_b_0 : Bool) (a1_b_1 : Slc) (w : World) (R : Ending → World → Prop)
    
    (h : br (a0_a_0 == a1_b_0)
    (∀ w1, Ext w w1 → Ahead w w1 →
      (Calls Tryd.prog 116 #[a0_a_1.v, a1_b_1.v] w1 fun e1 w2 =>
        ∃ s1 : Slc, e1 = .returned s1.v ∧ Ahead w1 w2 ∧
        (Calls Tryd.prog 66 #[Value.bool a0_a_0, s1.v] w2 fun e2 w3 =>
          ∃ b1 : Bool, ∃ s2 : Slc, e2 = .returned (Value.agg #[Value.bool b1, s2.v]) ∧ Ahead w2 w3 ∧
          (∀ w4, Ext w3 w4 → Ahead w w4 →
            (R (.returned (Value.agg #[Value.bool b1, s2.v])) w4)))))
    (∀ w5, Ext w w5 → Ahead w w5 →
      (Calls Tryd.prog 106 #[a0_a_1.v, a1_b_1.v] w5 fun e3 w6 =>
        ∃ x1 : Int, e3 = .returned (Value.int .i64 x1) ∧ Ahead w5 w6 ∧
        (br (decide (x1 ≥ 0))
          (∀ w7, Ext w6 w7 → Ahead w w7 →
            (Calls Tryd.prog 117 #[a0_a_1.v, a1_b_1.v] w7 fun e4 w8 =>
              ∃ s3 : Slc, e4 = .returned s3.v ∧ Ahead w7 w8 ∧
              (Calls Tryd.prog 66 #[Value.bool a0_a_0, s3.v] w8 fun e5 w9 =>
                ∃ b2 : Bool, ∃ s4 : Slc, e5 = .returned (Value.agg #[Value.bool b2, s4.v]) ∧ Ahead w8 w9 ∧
                (∀ w10, Ext w9 w10 → Ahead w w10 →
                  (R (.returned (Value.agg #[Value.bool b2, s4.v])) w10)))))
          (∀ w11, Ext w6 w11 → Ahead w w11 →
            (Calls Tryd.prog 117 #[a1_b_1.v, a0_a_1.v] w11 fun e6 w12 =>
              ∃ s5 : Slc, e6 = .returned s5.v ∧ Ahead w11 w12 ∧
              (Calls Tryd.prog 66 #[Value.bool a1_b_0, s5.v] w12 fun e7 w13 =>
                ∃ b3 : Bool, ∃ s6 : Slc, e7 = .returned (Value.agg #[Value.bool b3, s6.v]) ∧ Ahead w12 w13 ∧
                (∀ w14, Ext w13 w14 → Ahead w w14 →
                  (R (.returned (Value.agg #[Value.bool b3, s6.v])) w14)))))))))
     :
    Calls Tryd.prog 91 #[Value.agg #[Value.bool a0_a_0, a0_a_1.v], Value.agg #[Value.bool a1_b_0, a1_b_1.v]] w (fun e_ w_ => Ahead w w_ ∧ R e_ w_) := by
  refine surdref06_Add_vc a0_a_0 a0_a_1 a1_b_0 a1_b_1 w _  ?_
  · have A : Ahead w w := Ahead.refl w
    have X : Ext w w := Ext.refl w
    refine newC_t fun bk1 u1 hb1 ha_u1 hs B1 => ?_
    have g1 : w.heap.size ≤ bk1 := by have := A.size; omega
    replace A := A.trans ha_u1
    replace X := X.trans (Ext.of_ahead ha_u1)
    clear hs hb1
    refine newC_t fun bk2 u2 hb2 ha_u2 hs B2 => ?_
    have g2 : w.heap.size ≤ bk2 := by have := A.size; omega
    have l1_2 : bk1 < bk2 := by have := B1.lt; omega
    replace B1 := B1.ahead ha_u2
    replace A := A.trans ha_u2
    replace X := X.trans (Ext.of_ahead ha_u2)
    clear hs hb2
    refine newC_t fun bk3 u3 hb3 ha_u3 hs B3 => ?_
    have g3 : w.heap.size ≤ bk3 := by have := A.size; omega
    have l1_3 : bk1 < bk3 := by have := B1.lt; omega
    have l2_3 : bk2 < bk3 := by have := B2.lt; omega
    replace B1 := B1.ahead ha_u3
    replace B2 := B2.ahead ha_u3
    replace A := A.trans ha_u3
    replace X := X.trans (Ext.of_ahead ha_u3)
    clear hs hb3
    refine ldB_t 0 B1 rfl ?_
    refine ldB_t 0 B2 rfl ?_
    refine br_map h (fun h_ => ?_) (fun h_ => ?_)
    · skip
      clear h
      have h := h_
      clear h_
      have hd_ := Sp.Ahead.drew u3
      replace B1 := B1.ahead hd_
      replace B2 := B2.ahead hd_
      replace B3 := B3.ahead hd_
      replace A := A.trans hd_
      replace X := X.trans (Ext.of_ahead hd_)
      clear hd_
      refine ldB_t 0 B1 rfl ?_
      refine ldS_t 1 B1 rfl ?_
      refine ldS_t 1 B2 rfl ?_
      replace h := h _ X A
      refine Calls.mono h ?_
      clear h
      rintro e1 w2 ⟨s1, he_, ha_w2, h⟩
      refine ⟨s1, he_, ?_⟩
      clear he_
      replace B1 := B1.ahead ha_w2
      replace B2 := B2.ahead ha_w2
      replace B3 := B3.ahead ha_w2
      replace A := A.trans ha_w2
      replace X := X.trans (Ext.of_ahead ha_w2)
      replace X : Ext w2 w2 := Ext.refl _
      refine ⟨ha_w2, ?_⟩
      refine Calls.mono h ?_
      clear h
      rintro e2 w3 ⟨b1, s2, he_, ha_w3, h⟩
      refine ⟨b1, s2, he_, ?_⟩
      clear he_
      replace B1 := B1.ahead ha_w3
      replace B2 := B2.ahead ha_w3
      replace B3 := B3.ahead ha_w3
      replace A := A.trans ha_w3
      replace X := X.trans (Ext.of_ahead ha_w3)
      replace X : Ext w3 w3 := Ext.refl _
      refine ⟨ha_w3, ?_⟩
      refine stC_t 0 B3 rfl rfl rfl fun u4 k_u4 B3_ => ?_
      replace B3 : Blt u4 bk3 44 #[Value.bool b1, (⟨none, 0, 0⟩ : Slc).v] := B3_
      clear B3_
      refine stC_t 1 B3 rfl rfl rfl fun u5 k_u5 B3_ => ?_
      replace B3 : Blt u5 bk3 44 #[Value.bool b1, s2.v] := B3_
      clear B3_
      have kk_u4 := (k_u4.trans k_u5)
      replace B1 := kk_u4.blt B1 (by omega)
      replace B2 := kk_u4.blt B2 (by omega)
      replace A := kk_u4.ahead A g3
      replace X := X.trans kk_u4.ext
      clear k_u5 k_u4
      refine ldB_t 0 B3 rfl ?_
      refine ldS_t 1 B3 rfl ?_
      replace h := h _ X A
      exact ⟨A, h⟩
    · skip
      clear h
      have h := h_
      clear h_
      refine ldS_t 1 B1 rfl ?_
      refine ldS_t 1 B2 rfl ?_
      replace h := h _ X A
      refine Calls.mono h ?_
      clear h
      rintro e3 w6 ⟨x1, he_, ha_w6, h⟩
      refine ⟨x1, he_, ?_⟩
      clear he_
      replace B1 := B1.ahead ha_w6
      replace B2 := B2.ahead ha_w6
      replace B3 := B3.ahead ha_w6
      replace A := A.trans ha_w6
      replace X := X.trans (Ext.of_ahead ha_w6)
      replace X : Ext w6 w6 := Ext.refl _
      refine br_map h (fun h_ => ?_) (fun h_ => ?_)
      · skip
        clear h
        have h := h_
        clear h_
        have hd_ := Sp.Ahead.drew w6
        replace B1 := B1.ahead hd_
        replace B2 := B2.ahead hd_
        replace B3 := B3.ahead hd_
        replace A := A.trans hd_
        replace X := X.trans (Ext.of_ahead hd_)
        clear hd_
        refine ldB_t 0 B1 rfl ?_
        refine ldS_t 1 B1 rfl ?_
        refine ldS_t 1 B2 rfl ?_
        replace h := h _ X A
        refine Calls.mono h ?_
        clear h
        rintro e4 w8 ⟨s3, he_, ha_w8, h⟩
        refine ⟨s3, he_, ?_⟩
        clear he_
        replace B1 := B1.ahead ha_w8
        replace B2 := B2.ahead ha_w8
        replace B3 := B3.ahead ha_w8
        replace A := A.trans ha_w8
        replace X := X.trans (Ext.of_ahead ha_w8)
        replace X : Ext w8 w8 := Ext.refl _
        refine ⟨ha_w8, ?_⟩
        refine Calls.mono h ?_
        clear h
        rintro e5 w9 ⟨b2, s4, he_, ha_w9, h⟩
        refine ⟨b2, s4, he_, ?_⟩
        clear he_
        replace B1 := B1.ahead ha_w9
        replace B2 := B2.ahead ha_w9
        replace B3 := B3.ahead ha_w9
        replace A := A.trans ha_w9
        replace X := X.trans (Ext.of_ahead ha_w9)
        replace X : Ext w9 w9 := Ext.refl _
        refine ⟨ha_w9, ?_⟩
        refine stC_t 0 B3 rfl rfl rfl fun u6 k_u6 B3_ => ?_
        replace B3 : Blt u6 bk3 44 #[Value.bool b2, (⟨none, 0, 0⟩ : Slc).v] := B3_
        clear B3_
        refine stC_t 1 B3 rfl rfl rfl fun u7 k_u7 B3_ => ?_
        replace B3 : Blt u7 bk3 44 #[Value.bool b2, s4.v] := B3_
        clear B3_
        have kk_u6 := (k_u6.trans k_u7)
        replace B1 := kk_u6.blt B1 (by omega)
        replace B2 := kk_u6.blt B2 (by omega)
        replace A := kk_u6.ahead A g3
        replace X := X.trans kk_u6.ext
        clear k_u7 k_u6
        refine ldB_t 0 B3 rfl ?_
        refine ldS_t 1 B3 rfl ?_
        replace h := h _ X A
        exact ⟨A, h⟩
      · skip
        clear h
        have h := h_
        clear h_
        have hd_ := Sp.Ahead.drew w6
        replace B1 := B1.ahead hd_
        replace B2 := B2.ahead hd_
        replace B3 := B3.ahead hd_
        replace A := A.trans hd_
        replace X := X.trans (Ext.of_ahead hd_)
        clear hd_
        refine ldB_t 0 B2 rfl ?_
        refine ldS_t 1 B2 rfl ?_
        refine ldS_t 1 B1 rfl ?_
        replace h := h _ X A
        refine Calls.mono h ?_
        clear h
        rintro e6 w12 ⟨s5, he_, ha_w12, h⟩
        refine ⟨s5, he_, ?_⟩
        clear he_
        replace B1 := B1.ahead ha_w12
        replace B2 := B2.ahead ha_w12
        replace B3 := B3.ahead ha_w12
        replace A := A.trans ha_w12
        replace X := X.trans (Ext.of_ahead ha_w12)
        replace X : Ext w12 w12 := Ext.refl _
        refine ⟨ha_w12, ?_⟩
        refine Calls.mono h ?_
        clear h
        rintro e7 w13 ⟨b3, s6, he_, ha_w13, h⟩
        refine ⟨b3, s6, he_, ?_⟩
        clear he_
        replace B1 := B1.ahead ha_w13
        replace B2 := B2.ahead ha_w13
        replace B3 := B3.ahead ha_w13
        replace A := A.trans ha_w13
        replace X := X.trans (Ext.of_ahead ha_w13)
        replace X : Ext w13 w13 := Ext.refl _
        refine ⟨ha_w13, ?_⟩
        refine stC_t 0 B3 rfl rfl rfl fun u8 k_u8 B3_ => ?_
        replace B3 : Blt u8 bk3 44 #[Value.bool b3, (⟨none, 0, 0⟩ : Slc).v] := B3_
        clear B3_
        refine stC_t 1 B3 rfl rfl rfl fun u9 k_u9 B3_ => ?_
        replace B3 : Blt u9 bk3 44 #[Value.bool b3, s6.v] := B3_
        clear B3_
        have kk_u8 := (k_u8.trans k_u9)
        replace B1 := kk_u8.blt B1 (by omega)
        replace B2 := kk_u8.blt B2 (by omega)
        replace A := kk_u8.ahead A g3
        replace X := X.trans kk_u8.ext
        clear k_u9 k_u8
        refine ldB_t 0 B3 rfl ?_
        refine ldS_t 1 B3 rfl ?_
        replace h := h _ X A
        exact ⟨A, h⟩

/-- surd/surdref06.Sub: function 104, its local variables as values. -/
theorem surdref06_Sub_v2 (a0_a_0 : Bool) (a0_a_1 : Slc) (a1_b_0 : Bool) (a1_b_1 : Slc) (w : World) (R : Ending → World → Prop)
    
    (h : ∀ w1, Ext w w1 → Ahead w w1 →
    (Calls Tryd.prog 96 #[Value.agg #[Value.bool a1_b_0, a1_b_1.v]] w1 fun e1 w2 =>
      ∃ b1 : Bool, ∃ s1 : Slc, e1 = .returned (Value.agg #[Value.bool b1, s1.v]) ∧ Ahead w1 w2 ∧
      (Calls Tryd.prog 91 #[Value.agg #[Value.bool a0_a_0, a0_a_1.v], Value.agg #[Value.bool b1, s1.v]] w2 fun e2 w3 =>
        ∃ b2 : Bool, ∃ s2 : Slc, e2 = .returned (Value.agg #[Value.bool b2, s2.v]) ∧ Ahead w2 w3 ∧
        (∀ w4, Ext w3 w4 → Ahead w w4 →
          (R (.returned (Value.agg #[Value.bool b2, s2.v])) w4)))))
     :
    Calls Tryd.prog 104 #[Value.agg #[Value.bool a0_a_0, a0_a_1.v], Value.agg #[Value.bool a1_b_0, a1_b_1.v]] w (fun e_ w_ => Ahead w w_ ∧ R e_ w_) := by
  refine surdref06_Sub_vc a0_a_0 a0_a_1 a1_b_0 a1_b_1 w _  ?_
  · have A : Ahead w w := Ahead.refl w
    have X : Ext w w := Ext.refl w
    refine newC_t fun bk1 u1 hb1 ha_u1 hs B1 => ?_
    have g1 : w.heap.size ≤ bk1 := by have := A.size; omega
    replace A := A.trans ha_u1
    replace X := X.trans (Ext.of_ahead ha_u1)
    clear hs hb1
    refine newC_t fun bk2 u2 hb2 ha_u2 hs B2 => ?_
    have g2 : w.heap.size ≤ bk2 := by have := A.size; omega
    have l1_2 : bk1 < bk2 := by have := B1.lt; omega
    replace B1 := B1.ahead ha_u2
    replace A := A.trans ha_u2
    replace X := X.trans (Ext.of_ahead ha_u2)
    clear hs hb2
    refine newC_t fun bk3 u3 hb3 ha_u3 hs B3 => ?_
    have g3 : w.heap.size ≤ bk3 := by have := A.size; omega
    have l1_3 : bk1 < bk3 := by have := B1.lt; omega
    have l2_3 : bk2 < bk3 := by have := B2.lt; omega
    replace B1 := B1.ahead ha_u3
    replace B2 := B2.ahead ha_u3
    replace A := A.trans ha_u3
    replace X := X.trans (Ext.of_ahead ha_u3)
    clear hs hb3
    have hd_ := Sp.Ahead.drew u3
    replace B1 := B1.ahead hd_
    replace B2 := B2.ahead hd_
    replace B3 := B3.ahead hd_
    replace A := A.trans hd_
    replace X := X.trans (Ext.of_ahead hd_)
    clear hd_
    refine ldB_t 0 B1 rfl ?_
    refine ldS_t 1 B1 rfl ?_
    refine ldB_t 0 B2 rfl ?_
    refine ldS_t 1 B2 rfl ?_
    replace h := h _ X A
    refine Calls.mono h ?_
    clear h
    rintro e1 w2 ⟨b1, s1, he_, ha_w2, h⟩
    refine ⟨b1, s1, he_, ?_⟩
    clear he_
    replace B1 := B1.ahead ha_w2
    replace B2 := B2.ahead ha_w2
    replace B3 := B3.ahead ha_w2
    replace A := A.trans ha_w2
    replace X := X.trans (Ext.of_ahead ha_w2)
    replace X : Ext w2 w2 := Ext.refl _
    refine ⟨ha_w2, ?_⟩
    refine Calls.mono h ?_
    clear h
    rintro e2 w3 ⟨b2, s2, he_, ha_w3, h⟩
    refine ⟨b2, s2, he_, ?_⟩
    clear he_
    replace B1 := B1.ahead ha_w3
    replace B2 := B2.ahead ha_w3
    replace B3 := B3.ahead ha_w3
    replace A := A.trans ha_w3
    replace X := X.trans (Ext.of_ahead ha_w3)
    replace X : Ext w3 w3 := Ext.refl _
    refine ⟨ha_w3, ?_⟩
    refine stC_t 0 B3 rfl rfl rfl fun u4 k_u4 B3_ => ?_
    replace B3 : Blt u4 bk3 44 #[Value.bool b2, (⟨none, 0, 0⟩ : Slc).v] := B3_
    clear B3_
    refine stC_t 1 B3 rfl rfl rfl fun u5 k_u5 B3_ => ?_
    replace B3 : Blt u5 bk3 44 #[Value.bool b2, s2.v] := B3_
    clear B3_
    have kk_u4 := (k_u4.trans k_u5)
    replace B1 := kk_u4.blt B1 (by omega)
    replace B2 := kk_u4.blt B2 (by omega)
    replace A := kk_u4.ahead A g3
    replace X := X.trans kk_u4.ext
    clear k_u5 k_u4
    refine ldB_t 0 B3 rfl ?_
    refine ldS_t 1 B3 rfl ?_
    replace h := h _ X A
    exact ⟨A, h⟩

/-- surd/surdref06.Mul: function 105, its local variables as values. -/
theorem surdref06_Mul_v2 (a0_a_0 : Bool) (a0_a_1 : Slc) (a1_b_0 : Bool) (a1_b_1 : Slc) (w : World) (R : Ending → World → Prop)
    
    (h : ∀ w1, Ext w w1 → Ahead w w1 →
    (Calls Tryd.prog 129 #[a0_a_1.v, a1_b_1.v] w1 fun e1 w2 =>
      ∃ s1 : Slc, e1 = .returned s1.v ∧ Ahead w1 w2 ∧
      (Calls Tryd.prog 66 #[Value.bool (!(a0_a_0 == a1_b_0)), s1.v] w2 fun e2 w3 =>
        ∃ b1 : Bool, ∃ s2 : Slc, e2 = .returned (Value.agg #[Value.bool b1, s2.v]) ∧ Ahead w2 w3 ∧
        (∀ w4, Ext w3 w4 → Ahead w w4 →
          (R (.returned (Value.agg #[Value.bool b1, s2.v])) w4)))))
     :
    Calls Tryd.prog 105 #[Value.agg #[Value.bool a0_a_0, a0_a_1.v], Value.agg #[Value.bool a1_b_0, a1_b_1.v]] w (fun e_ w_ => Ahead w w_ ∧ R e_ w_) := by
  refine surdref06_Mul_vc a0_a_0 a0_a_1 a1_b_0 a1_b_1 w _  ?_
  · have A : Ahead w w := Ahead.refl w
    have X : Ext w w := Ext.refl w
    refine newC_t fun bk1 u1 hb1 ha_u1 hs B1 => ?_
    have g1 : w.heap.size ≤ bk1 := by have := A.size; omega
    replace A := A.trans ha_u1
    replace X := X.trans (Ext.of_ahead ha_u1)
    clear hs hb1
    refine newC_t fun bk2 u2 hb2 ha_u2 hs B2 => ?_
    have g2 : w.heap.size ≤ bk2 := by have := A.size; omega
    have l1_2 : bk1 < bk2 := by have := B1.lt; omega
    replace B1 := B1.ahead ha_u2
    replace A := A.trans ha_u2
    replace X := X.trans (Ext.of_ahead ha_u2)
    clear hs hb2
    refine newC_t fun bk3 u3 hb3 ha_u3 hs B3 => ?_
    have g3 : w.heap.size ≤ bk3 := by have := A.size; omega
    have l1_3 : bk1 < bk3 := by have := B1.lt; omega
    have l2_3 : bk2 < bk3 := by have := B2.lt; omega
    replace B1 := B1.ahead ha_u3
    replace B2 := B2.ahead ha_u3
    replace A := A.trans ha_u3
    replace X := X.trans (Ext.of_ahead ha_u3)
    clear hs hb3
    have hd_ := Sp.Ahead.drew u3
    replace B1 := B1.ahead hd_
    replace B2 := B2.ahead hd_
    replace B3 := B3.ahead hd_
    replace A := A.trans hd_
    replace X := X.trans (Ext.of_ahead hd_)
    clear hd_
    refine ldB_t 0 B1 rfl ?_
    refine ldB_t 0 B2 rfl ?_
    refine ldS_t 1 B1 rfl ?_
    refine ldS_t 1 B2 rfl ?_
    replace h := h _ X A
    refine Calls.mono h ?_
    clear h
    rintro e1 w2 ⟨s1, he_, ha_w2, h⟩
    refine ⟨s1, he_, ?_⟩
    clear he_
    replace B1 := B1.ahead ha_w2
    replace B2 := B2.ahead ha_w2
    replace B3 := B3.ahead ha_w2
    replace A := A.trans ha_w2
    replace X := X.trans (Ext.of_ahead ha_w2)
    replace X : Ext w2 w2 := Ext.refl _
    refine ⟨ha_w2, ?_⟩
    refine Calls.mono h ?_
    clear h
    rintro e2 w3 ⟨b1, s2, he_, ha_w3, h⟩
    refine ⟨b1, s2, he_, ?_⟩
    clear he_
    replace B1 := B1.ahead ha_w3
    replace B2 := B2.ahead ha_w3
    replace B3 := B3.ahead ha_w3
    replace A := A.trans ha_w3
    replace X := X.trans (Ext.of_ahead ha_w3)
    replace X : Ext w3 w3 := Ext.refl _
    refine ⟨ha_w3, ?_⟩
    refine stC_t 0 B3 rfl rfl rfl fun u4 k_u4 B3_ => ?_
    replace B3 : Blt u4 bk3 44 #[Value.bool b1, (⟨none, 0, 0⟩ : Slc).v] := B3_
    clear B3_
    refine stC_t 1 B3 rfl rfl rfl fun u5 k_u5 B3_ => ?_
    replace B3 : Blt u5 bk3 44 #[Value.bool b1, s2.v] := B3_
    clear B3_
    have kk_u4 := (k_u4.trans k_u5)
    replace B1 := kk_u4.blt B1 (by omega)
    replace B2 := kk_u4.blt B2 (by omega)
    replace A := kk_u4.ahead A g3
    replace X := X.trans kk_u4.ext
    clear k_u5 k_u4
    refine ldB_t 0 B3 rfl ?_
    refine ldS_t 1 B3 rfl ?_
    replace h := h _ X A
    exact ⟨A, h⟩

/-- surd/surdref06.Floor: function 81, its local variables as values. -/
theorem surdref06_Floor_v2 (a0_a_0 : Bool) (a0_a_1 : Slc) (a1_b_0 : Bool) (a1_b_1 : Slc) (w : World) (R : Ending → World → Prop)
    (K5 : Bool → Bool → Slc → Bool → Slc → Bool → Slc → Bool → Slc → Bool → Slc → World → Prop) (K6 : Bool → Slc → Bool → Slc → Bool → Slc → Bool → Slc → Bool → Slc → World → Prop)
    (h : ∀ w1, Ext w w1 → Ahead w w1 →
    (Calls Tryd.prog 103 #[a0_a_1.v, a1_b_1.v] w1 fun e1 w2 =>
      ∃ s1 : Slc, ∃ s2 : Slc, e1 = .returned (Value.tuple #[s1.v, s2.v]) ∧ Ahead w1 w2 ∧
      (Calls Tryd.prog 66 #[Value.bool (!(a0_a_0 == a1_b_0)), s1.v] w2 fun e2 w3 =>
        ∃ b1 : Bool, ∃ s3 : Slc, e2 = .returned (Value.agg #[Value.bool b1, s3.v]) ∧ Ahead w2 w3 ∧
        (∀ w4, Ext w3 w4 → Ahead w w4 →
          (Calls Tryd.prog 76 #[s2.v] w4 fun e3 w5 =>
            ∃ b2 : Bool, e3 = .returned (Value.bool b2) ∧ Ahead w4 w5 ∧
            (br (!b2)
              (K5 (!(a0_a_0 == a1_b_0)) a0_a_0 a0_a_1 a1_b_0 a1_b_1 false (⟨none, 0, 0⟩ : Slc) false (⟨none, 0, 0⟩ : Slc) b1 s3 w5)
              (K5 false a0_a_0 a0_a_1 a1_b_0 a1_b_1 false (⟨none, 0, 0⟩ : Slc) false (⟨none, 0, 0⟩ : Slc) b1 s3 w5)))))))
    (h3000005 : ∀ (t33 : Bool) (t2_a_0 : Bool) (t2_a_1 : Slc) (t3_b_0 : Bool) (t3_b_1 : Slc) (t4_0 : Bool) (t4_1 : Slc) (t5_0 : Bool) (t5_1 : Slc) (t8_x_0 : Bool) (t8_x_1 : Slc) (w_ : World), Ahead w w_ → K5 t33 t2_a_0 t2_a_1 t3_b_0 t3_b_1 t4_0 t4_1 t5_0 t5_1 t8_x_0 t8_x_1 w_ → 
    br t33
    (∀ w6, Ext w_ w6 → Ahead w w6 →
      (Calls Tryd.prog 77 #[Value.int .i64 1] w6 fun e4 w7 =>
        ∃ b3 : Bool, ∃ s4 : Slc, e4 = .returned (Value.agg #[Value.bool b3, s4.v]) ∧ Ahead w6 w7 ∧
        (Calls Tryd.prog 104 #[Value.agg #[Value.bool t8_x_0, t8_x_1.v], Value.agg #[Value.bool b3, s4.v]] w7 fun e5 w8 =>
          ∃ b4 : Bool, ∃ s5 : Slc, e5 = .returned (Value.agg #[Value.bool b4, s5.v]) ∧ Ahead w7 w8 ∧
          (∀ w13, Ext w8 w13 → Ahead w w13 →
            (K6 t2_a_0 t2_a_1 t3_b_0 t3_b_1 t4_0 t4_1 t5_0 t5_1 b4 s5 w13)))))
    (K6 t2_a_0 t2_a_1 t3_b_0 t3_b_1 t4_0 t4_1 t5_0 t5_1 t8_x_0 t8_x_1 w_))
    (h3000006 : ∀ (t2_a_0 : Bool) (t2_a_1 : Slc) (t3_b_0 : Bool) (t3_b_1 : Slc) (t4_0 : Bool) (t4_1 : Slc) (t5_0 : Bool) (t5_1 : Slc) (t8_x_0 : Bool) (t8_x_1 : Slc) (w_ : World), Ahead w w_ → K6 t2_a_0 t2_a_1 t3_b_0 t3_b_1 t4_0 t4_1 t5_0 t5_1 t8_x_0 t8_x_1 w_ → 
    ∀ w9, Ext w_ w9 → Ahead w w9 →
    (Calls Tryd.prog 105 #[Value.agg #[Value.bool t8_x_0, t8_x_1.v], Value.agg #[Value.bool t3_b_0, t3_b_1.v]] w9 fun e6 w10 =>
      ∃ b5 : Bool, ∃ s6 : Slc, e6 = .returned (Value.agg #[Value.bool b5, s6.v]) ∧ Ahead w9 w10 ∧
      (Calls Tryd.prog 104 #[Value.agg #[Value.bool t2_a_0, t2_a_1.v], Value.agg #[Value.bool b5, s6.v]] w10 fun e7 w11 =>
        ∃ b6 : Bool, ∃ s7 : Slc, e7 = .returned (Value.agg #[Value.bool b6, s7.v]) ∧ Ahead w10 w11 ∧
        (∀ w12, Ext w11 w12 → Ahead w w12 →
          (R (.returned (Value.tuple #[Value.agg #[Value.bool t8_x_0, t8_x_1.v], Value.agg #[Value.bool b6, s7.v]])) w12))))) :
    Calls Tryd.prog 81 #[Value.agg #[Value.bool a0_a_0, a0_a_1.v], Value.agg #[Value.bool a1_b_0, a1_b_1.v]] w (fun e_ w_ => Ahead w w_ ∧ R e_ w_) := by
  refine surdref06_Floor_vc a0_a_0 a0_a_1 a1_b_0 a1_b_1 w _ (fun t2_a t3_b t4 t5 t8_x t33 w_ => ∃ c2_ : Nat, ∃ c3_ : Nat, ∃ c4_ : Nat, ∃ c5_ : Nat, ∃ c8_ : Nat, ∃ t2_a_0 : Bool, ∃ t2_a_1 : Slc, ∃ t3_b_0 : Bool, ∃ t3_b_1 : Slc, ∃ t4_0 : Bool, ∃ t4_1 : Slc, ∃ t5_0 : Bool, ∃ t5_1 : Slc, ∃ t8_x_0 : Bool, ∃ t8_x_1 : Slc, t2_a = ⟨c2_, 0, none⟩ ∧ Blt w_ c2_ 44 #[Value.bool t2_a_0, t2_a_1.v] ∧ w.heap.size ≤ c2_ ∧ t3_b = ⟨c3_, 0, none⟩ ∧ Blt w_ c3_ 44 #[Value.bool t3_b_0, t3_b_1.v] ∧ w.heap.size ≤ c3_ ∧ t4 = ⟨c4_, 0, none⟩ ∧ Blt w_ c4_ 44 #[Value.bool t4_0, t4_1.v] ∧ w.heap.size ≤ c4_ ∧ t5 = ⟨c5_, 0, none⟩ ∧ Blt w_ c5_ 44 #[Value.bool t5_0, t5_1.v] ∧ w.heap.size ≤ c5_ ∧ t8_x = ⟨c8_, 0, none⟩ ∧ Blt w_ c8_ 44 #[Value.bool t8_x_0, t8_x_1.v] ∧ w.heap.size ≤ c8_ ∧ c2_ ≠ c3_ ∧ c2_ ≠ c4_ ∧ c2_ ≠ c5_ ∧ c2_ ≠ c8_ ∧ c3_ ≠ c4_ ∧ c3_ ≠ c5_ ∧ c3_ ≠ c8_ ∧ c4_ ≠ c5_ ∧ c4_ ≠ c8_ ∧ c5_ ≠ c8_ ∧ Ahead w w_ ∧ K5 t33 t2_a_0 t2_a_1 t3_b_0 t3_b_1 t4_0 t4_1 t5_0 t5_1 t8_x_0 t8_x_1 w_) (fun t2_a t3_b t4 t5 t8_x w_ => ∃ c2_ : Nat, ∃ c3_ : Nat, ∃ c4_ : Nat, ∃ c5_ : Nat, ∃ c8_ : Nat, ∃ t2_a_0 : Bool, ∃ t2_a_1 : Slc, ∃ t3_b_0 : Bool, ∃ t3_b_1 : Slc, ∃ t4_0 : Bool, ∃ t4_1 : Slc, ∃ t5_0 : Bool, ∃ t5_1 : Slc, ∃ t8_x_0 : Bool, ∃ t8_x_1 : Slc, t2_a = ⟨c2_, 0, none⟩ ∧ Blt w_ c2_ 44 #[Value.bool t2_a_0, t2_a_1.v] ∧ w.heap.size ≤ c2_ ∧ t3_b = ⟨c3_, 0, none⟩ ∧ Blt w_ c3_ 44 #[Value.bool t3_b_0, t3_b_1.v] ∧ w.heap.size ≤ c3_ ∧ t4 = ⟨c4_, 0, none⟩ ∧ Blt w_ c4_ 44 #[Value.bool t4_0, t4_1.v] ∧ w.heap.size ≤ c4_ ∧ t5 = ⟨c5_, 0, none⟩ ∧ Blt w_ c5_ 44 #[Value.bool t5_0, t5_1.v] ∧ w.heap.size ≤ c5_ ∧ t8_x = ⟨c8_, 0, none⟩ ∧ Blt w_ c8_ 44 #[Value.bool t8_x_0, t8_x_1.v] ∧ w.heap.size ≤ c8_ ∧ c2_ ≠ c3_ ∧ c2_ ≠ c4_ ∧ c2_ ≠ c5_ ∧ c2_ ≠ c8_ ∧ c3_ ≠ c4_ ∧ c3_ ≠ c5_ ∧ c3_ ≠ c8_ ∧ c4_ ≠ c5_ ∧ c4_ ≠ c8_ ∧ c5_ ≠ c8_ ∧ Ahead w w_ ∧ K6 t2_a_0 t2_a_1 t3_b_0 t3_b_1 t4_0 t4_1 t5_0 t5_1 t8_x_0 t8_x_1 w_) ?_ ?_ ?_
  · have A : Ahead w w := Ahead.refl w
    have X : Ext w w := Ext.refl w
    refine newC_t fun bk1 u1 hb1 ha_u1 hs B1 => ?_
    have g1 : w.heap.size ≤ bk1 := by have := A.size; omega
    replace A := A.trans ha_u1
    replace X := X.trans (Ext.of_ahead ha_u1)
    clear hs hb1
    refine newC_t fun bk2 u2 hb2 ha_u2 hs B2 => ?_
    have g2 : w.heap.size ≤ bk2 := by have := A.size; omega
    have l1_2 : bk1 < bk2 := by have := B1.lt; omega
    replace B1 := B1.ahead ha_u2
    replace A := A.trans ha_u2
    replace X := X.trans (Ext.of_ahead ha_u2)
    clear hs hb2
    refine newC_t fun bk3 u3 hb3 ha_u3 hs B3 => ?_
    have g3 : w.heap.size ≤ bk3 := by have := A.size; omega
    have l1_3 : bk1 < bk3 := by have := B1.lt; omega
    have l2_3 : bk2 < bk3 := by have := B2.lt; omega
    replace B1 := B1.ahead ha_u3
    replace B2 := B2.ahead ha_u3
    replace A := A.trans ha_u3
    replace X := X.trans (Ext.of_ahead ha_u3)
    clear hs hb3
    refine newC_t fun bk4 u4 hb4 ha_u4 hs B4 => ?_
    have g4 : w.heap.size ≤ bk4 := by have := A.size; omega
    have l1_4 : bk1 < bk4 := by have := B1.lt; omega
    have l2_4 : bk2 < bk4 := by have := B2.lt; omega
    have l3_4 : bk3 < bk4 := by have := B3.lt; omega
    replace B1 := B1.ahead ha_u4
    replace B2 := B2.ahead ha_u4
    replace B3 := B3.ahead ha_u4
    replace A := A.trans ha_u4
    replace X := X.trans (Ext.of_ahead ha_u4)
    clear hs hb4
    refine ldS_t 1 B1 rfl ?_
    refine ldS_t 1 B2 rfl ?_
    replace h := h _ X A
    refine Calls.mono h ?_
    clear h
    rintro e1 w2 ⟨s1, s2, he_, ha_w2, h⟩
    refine ⟨s1, s2, he_, ?_⟩
    clear he_
    replace B1 := B1.ahead ha_w2
    replace B2 := B2.ahead ha_w2
    replace B3 := B3.ahead ha_w2
    replace B4 := B4.ahead ha_w2
    replace A := A.trans ha_w2
    replace X := X.trans (Ext.of_ahead ha_w2)
    replace X : Ext w2 w2 := Ext.refl _
    refine ldB_t 0 B1 rfl ?_
    refine ldB_t 0 B2 rfl ?_
    refine Calls.mono h ?_
    clear h
    rintro e2 w3 ⟨b1, s3, he_, ha_w3, h⟩
    refine ⟨b1, s3, he_, ?_⟩
    clear he_
    replace B1 := B1.ahead ha_w3
    replace B2 := B2.ahead ha_w3
    replace B3 := B3.ahead ha_w3
    replace B4 := B4.ahead ha_w3
    replace A := A.trans ha_w3
    replace X := X.trans (Ext.of_ahead ha_w3)
    replace X : Ext w3 w3 := Ext.refl _
    refine newC_t fun bk5 u5 hb5 ha_u5 hs B5 => ?_
    have g5 : w.heap.size ≤ bk5 := by have := A.size; omega
    have l1_5 : bk1 < bk5 := by have := B1.lt; omega
    have l2_5 : bk2 < bk5 := by have := B2.lt; omega
    have l3_5 : bk3 < bk5 := by have := B3.lt; omega
    have l4_5 : bk4 < bk5 := by have := B4.lt; omega
    replace B1 := B1.ahead ha_u5
    replace B2 := B2.ahead ha_u5
    replace B3 := B3.ahead ha_u5
    replace B4 := B4.ahead ha_u5
    replace A := A.trans ha_u5
    replace X := X.trans (Ext.of_ahead ha_u5)
    clear hs hb5
    refine stC_t 0 B5 rfl rfl rfl fun u6 k_u6 B5_ => ?_
    replace B5 : Blt u6 bk5 44 #[Value.bool b1, (⟨none, 0, 0⟩ : Slc).v] := B5_
    clear B5_
    refine stC_t 1 B5 rfl rfl rfl fun u7 k_u7 B5_ => ?_
    replace B5 : Blt u7 bk5 44 #[Value.bool b1, s3.v] := B5_
    clear B5_
    have kk_u6 := (k_u6.trans k_u7)
    replace B1 := kk_u6.blt B1 (by omega)
    replace B2 := kk_u6.blt B2 (by omega)
    replace B3 := kk_u6.blt B3 (by omega)
    replace B4 := kk_u6.blt B4 (by omega)
    replace A := kk_u6.ahead A g5
    replace X := X.trans kk_u6.ext
    clear k_u7 k_u6
    replace h := h _ X A
    refine Calls.mono h ?_
    clear h
    rintro e3 w5 ⟨b2, he_, ha_w5, h⟩
    refine ⟨b2, he_, ?_⟩
    clear he_
    replace B1 := B1.ahead ha_w5
    replace B2 := B2.ahead ha_w5
    replace B3 := B3.ahead ha_w5
    replace B4 := B4.ahead ha_w5
    replace B5 := B5.ahead ha_w5
    replace A := A.trans ha_w5
    replace X := X.trans (Ext.of_ahead ha_w5)
    replace X : Ext w5 w5 := Ext.refl _
    refine br_map h (fun h_ => ?_) (fun h_ => ?_)
    · skip
      clear h
      have h := h_
      clear h_
      refine ldB_t 0 B1 rfl ?_
      refine ldB_t 0 B2 rfl ?_
      exact ⟨bk1, bk2, bk3, bk4, bk5, a0_a_0, a0_a_1, a1_b_0, a1_b_1, false, (⟨none, 0, 0⟩ : Slc), false, (⟨none, 0, 0⟩ : Slc), b1, s3, rfl, B1, g1, rfl, B2, g2, rfl, B3, g3, rfl, B4, g4, rfl, B5, g5, (by omega), (by omega), (by omega), (by omega), (by omega), (by omega), (by omega), (by omega), (by omega), (by omega), A, h⟩
    · skip
      clear h
      have h := h_
      clear h_
      exact ⟨bk1, bk2, bk3, bk4, bk5, a0_a_0, a0_a_1, a1_b_0, a1_b_1, false, (⟨none, 0, 0⟩ : Slc), false, (⟨none, 0, 0⟩ : Slc), b1, s3, rfl, B1, g1, rfl, B2, g2, rfl, B3, g3, rfl, B4, g4, rfl, B5, g5, (by omega), (by omega), (by omega), (by omega), (by omega), (by omega), (by omega), (by omega), (by omega), (by omega), A, h⟩
  · clear h
    rintro t2_a t3_b t4 t5 t8_x t33 w_ ⟨bk1, bk2, bk3, bk4, bk5, t2_a_0, t2_a_1, t3_b_0, t3_b_1, t4_0, t4_1, t5_0, t5_1, t8_x_0, t8_x_1, rfl, B1, g1, rfl, B2, g2, rfl, B3, g3, rfl, B4, g4, rfl, B5, g5, n1_2, n1_3, n1_4, n1_5, n2_3, n2_4, n2_5, n3_4, n3_5, n4_5, A, hJ3000005⟩
    have h := h3000005  t33 t2_a_0 t2_a_1 t3_b_0 t3_b_1 t4_0 t4_1 t5_0 t5_1 t8_x_0 t8_x_1 w_ A hJ3000005
    have X : Ext w_ w_ := Ext.refl _
    refine br_map h (fun h_ => ?_) (fun h_ => ?_)
    · skip
      clear h
      have h := h_
      clear h_
      have hd_ := Sp.Ahead.drew w_
      replace B1 := B1.ahead hd_
      replace B2 := B2.ahead hd_
      replace B3 := B3.ahead hd_
      replace B4 := B4.ahead hd_
      replace B5 := B5.ahead hd_
      replace A := A.trans hd_
      replace X := X.trans (Ext.of_ahead hd_)
      clear hd_
      refine ldB_t 0 B5 rfl ?_
      refine ldS_t 1 B5 rfl ?_
      replace h := h _ X A
      refine Calls.mono h ?_
      clear h
      rintro e4 w7 ⟨b3, s4, he_, ha_w7, h⟩
      refine ⟨b3, s4, he_, ?_⟩
      clear he_
      replace B1 := B1.ahead ha_w7
      replace B2 := B2.ahead ha_w7
      replace B3 := B3.ahead ha_w7
      replace B4 := B4.ahead ha_w7
      replace B5 := B5.ahead ha_w7
      replace A := A.trans ha_w7
      replace X := X.trans (Ext.of_ahead ha_w7)
      replace X : Ext w7 w7 := Ext.refl _
      refine ⟨ha_w7, ?_⟩
      refine Calls.mono h ?_
      clear h
      rintro e5 w8 ⟨b4, s5, he_, ha_w8, h⟩
      refine ⟨b4, s5, he_, ?_⟩
      clear he_
      replace B1 := B1.ahead ha_w8
      replace B2 := B2.ahead ha_w8
      replace B3 := B3.ahead ha_w8
      replace B4 := B4.ahead ha_w8
      replace B5 := B5.ahead ha_w8
      replace A := A.trans ha_w8
      replace X := X.trans (Ext.of_ahead ha_w8)
      replace X : Ext w8 w8 := Ext.refl _
      refine ⟨ha_w8, ?_⟩
      refine stC_t 0 B5 rfl rfl rfl fun u8 k_u8 B5_ => ?_
      replace B5 : Blt u8 bk5 44 #[Value.bool b4, t8_x_1.v] := B5_
      clear B5_
      refine stC_t 1 B5 rfl rfl rfl fun u9 k_u9 B5_ => ?_
      replace B5 : Blt u9 bk5 44 #[Value.bool b4, s5.v] := B5_
      clear B5_
      have kk_u8 := (k_u8.trans k_u9)
      replace B1 := kk_u8.blt B1 (by omega)
      replace B2 := kk_u8.blt B2 (by omega)
      replace B3 := kk_u8.blt B3 (by omega)
      replace B4 := kk_u8.blt B4 (by omega)
      replace A := kk_u8.ahead A g5
      replace X := X.trans kk_u8.ext
      clear k_u9 k_u8
      replace h := h _ X A
      exact ⟨bk1, bk2, bk3, bk4, bk5, t2_a_0, t2_a_1, t3_b_0, t3_b_1, t4_0, t4_1, t5_0, t5_1, b4, s5, rfl, B1, g1, rfl, B2, g2, rfl, B3, g3, rfl, B4, g4, rfl, B5, g5, (by omega), (by omega), (by omega), (by omega), (by omega), (by omega), (by omega), (by omega), (by omega), (by omega), A, h⟩
    · skip
      clear h
      have h := h_
      clear h_
      exact ⟨bk1, bk2, bk3, bk4, bk5, t2_a_0, t2_a_1, t3_b_0, t3_b_1, t4_0, t4_1, t5_0, t5_1, t8_x_0, t8_x_1, rfl, B1, g1, rfl, B2, g2, rfl, B3, g3, rfl, B4, g4, rfl, B5, g5, (by omega), (by omega), (by omega), (by omega), (by omega), (by omega), (by omega), (by omega), (by omega), (by omega), A, h⟩
  · clear h
    rintro t2_a t3_b t4 t5 t8_x w_ ⟨bk1, bk2, bk3, bk4, bk5, t2_a_0, t2_a_1, t3_b_0, t3_b_1, t4_0, t4_1, t5_0, t5_1, t8_x_0, t8_x_1, rfl, B1, g1, rfl, B2, g2, rfl, B3, g3, rfl, B4, g4, rfl, B5, g5, n1_2, n1_3, n1_4, n1_5, n2_3, n2_4, n2_5, n3_4, n3_5, n4_5, A, hJ3000006⟩
    have h := h3000006  t2_a_0 t2_a_1 t3_b_0 t3_b_1 t4_0 t4_1 t5_0 t5_1 t8_x_0 t8_x_1 w_ A hJ3000006
    have X : Ext w_ w_ := Ext.refl _
    have hd_ := Sp.Ahead.drew w_
    replace B1 := B1.ahead hd_
    replace B2 := B2.ahead hd_
    replace B3 := B3.ahead hd_
    replace B4 := B4.ahead hd_
    replace B5 := B5.ahead hd_
    replace A := A.trans hd_
    replace X := X.trans (Ext.of_ahead hd_)
    clear hd_
    have z1 := B1.lt
    have z2 := B2.lt
    have z3 := B3.lt
    have z4 := B4.lt
    have z5 := B5.lt
    let V_ : Nat → Nat → Prop := fun (q_ k : Nat) => (k = bk3 ∨ k = bk4 ∨ w_.drew.heap.size ≤ k) ∧ 0 ≤ k
    refine ⟨V_, ?_⟩
    have Y_ : w_.drew.heap.size ≤ w_.drew.heap.size := Nat.le_refl _
    refine out_t (b := bk5) (i := 0) (by first | rfl | exact Sp.add_off) (fun hv_ => (by replace hv_ : _ ∧ _ := hv_; omega)) ?_
    refine ldB_t 0 B5 rfl ?_
    refine ldS_t 1 B5 rfl ?_
    refine out_t (b := bk1) (i := 0) (by first | rfl | exact Sp.add_off) (fun hv_ => (by replace hv_ : _ ∧ _ := hv_; omega)) ?_
    refine ldB_t 0 B1 rfl ?_
    refine ldS_t 1 B1 rfl ?_
    refine out_t (b := bk5) (i := 0) (by first | rfl | exact Sp.add_off) (fun hv_ => (by replace hv_ : _ ∧ _ := hv_; omega)) ?_
    refine ldB_t 0 B5 rfl ?_
    refine ldS_t 1 B5 rfl ?_
    refine out_t (b := bk2) (i := 0) (by first | rfl | exact Sp.add_off) (fun hv_ => (by replace hv_ : _ ∧ _ := hv_; omega)) ?_
    refine ldB_t 0 B2 rfl ?_
    refine ldS_t 1 B2 rfl ?_
    replace h := h _ X A
    refine Calls.mono h ?_
    clear h
    rintro e6 w10 ⟨b5, s6, he_, ha_w10, h⟩
    refine ⟨b5, s6, he_, ?_⟩
    clear he_
    replace B1 := B1.ahead ha_w10
    replace B2 := B2.ahead ha_w10
    replace B3 := B3.ahead ha_w10
    replace B4 := B4.ahead ha_w10
    replace B5 := B5.ahead ha_w10
    replace Y_ := Nat.le_trans Y_ ha_w10.size
    replace A := A.trans ha_w10
    replace X := X.trans (Ext.of_ahead ha_w10)
    replace X : Ext w10 w10 := Ext.refl _
    refine ⟨(Bar.of_ahead ha_w10), ?_⟩
    refine ⟨(Bar.of_ahead ha_w10), ?_⟩
    refine Calls.mono h ?_
    clear h
    rintro e7 w11 ⟨b6, s7, he_, ha_w11, h⟩
    refine ⟨b6, s7, he_, ?_⟩
    clear he_
    replace B1 := B1.ahead ha_w11
    replace B2 := B2.ahead ha_w11
    replace B3 := B3.ahead ha_w11
    replace B4 := B4.ahead ha_w11
    replace B5 := B5.ahead ha_w11
    replace Y_ := Nat.le_trans Y_ ha_w11.size
    replace A := A.trans ha_w11
    replace X := X.trans (Ext.of_ahead ha_w11)
    replace X : Ext w11 w11 := Ext.refl _
    refine ⟨(Bar.of_ahead ha_w11), ?_⟩
    refine stC_t 0 B3 rfl rfl rfl fun u10 k_u10 B3_ => ?_
    replace B3 : Blt u10 bk3 44 #[Value.bool t8_x_0, t4_1.v] := B3_
    clear B3_
    refine stC_t 1 B3 rfl rfl rfl fun u11 k_u11 B3_ => ?_
    replace B3 : Blt u11 bk3 44 #[Value.bool t8_x_0, t8_x_1.v] := B3_
    clear B3_
    have kk_u10 := (k_u10.trans k_u11)
    replace B1 := kk_u10.blt B1 (by omega)
    replace B2 := kk_u10.blt B2 (by omega)
    replace B4 := kk_u10.blt B4 (by omega)
    replace B5 := kk_u10.blt B5 (by omega)
    replace A := kk_u10.ahead A g3
    replace X := X.trans kk_u10.ext
    replace Y_ := Nat.le_trans Y_ (Nat.le_of_eq kk_u10.size.symm)
    clear k_u11 k_u10
    refine stC_t 0 B4 rfl rfl rfl fun u12 k_u12 B4_ => ?_
    replace B4 : Blt u12 bk4 44 #[Value.bool b6, t5_1.v] := B4_
    clear B4_
    refine stC_t 1 B4 rfl rfl rfl fun u13 k_u13 B4_ => ?_
    replace B4 : Blt u13 bk4 44 #[Value.bool b6, s7.v] := B4_
    clear B4_
    have kk_u12 := (k_u12.trans k_u13)
    replace B1 := kk_u12.blt B1 (by omega)
    replace B2 := kk_u12.blt B2 (by omega)
    replace B3 := kk_u12.blt B3 (by omega)
    replace B5 := kk_u12.blt B5 (by omega)
    replace A := kk_u12.ahead A g4
    replace X := X.trans kk_u12.ext
    replace Y_ := Nat.le_trans Y_ (Nat.le_of_eq kk_u12.size.symm)
    clear k_u13 k_u12
    refine ldB_t 0 B3 rfl ?_
    refine ldS_t 1 B3 rfl ?_
    refine ldB_t 0 B4 rfl ?_
    refine ldS_t 1 B4 rfl ?_
    replace h := h _ X A
    exact ⟨A, h⟩

/-- surd/surdref06.Ceil: function 82, its local variables as values. -/
theorem surdref06_Ceil_v2 (a0_a_0 : Bool) (a0_a_1 : Slc) (a1_b_0 : Bool) (a1_b_1 : Slc) (w : World) (R : Ending → World → Prop)
    
    (h : ∀ w1, Ext w w1 → Ahead w w1 →
    (Calls Tryd.prog 81 #[Value.agg #[Value.bool a0_a_0, a0_a_1.v], Value.agg #[Value.bool a1_b_0, a1_b_1.v]] w1 fun e1 w2 =>
      ∃ b1 : Bool, ∃ s1 : Slc, ∃ b2 : Bool, ∃ s2 : Slc, e1 = .returned (Value.tuple #[Value.agg #[Value.bool b1, s1.v], Value.agg #[Value.bool b2, s2.v]]) ∧ Ahead w1 w2 ∧
      (∀ w3, Ext w2 w3 → Ahead w w3 →
        (Calls Tryd.prog 28 #[Value.agg #[Value.bool b2, s2.v]] w3 fun e2 w4 =>
          ∃ x1 : Int, e2 = .returned (Value.int .i64 x1) ∧ Ahead w3 w4 ∧
          (br (x1 == 0)
            (∀ w5, Ext w4 w5 → Ahead w w5 →
              (R (.returned (Value.tuple #[Value.agg #[Value.bool b1, s1.v], Value.agg #[Value.bool b2, s2.v]])) w5))
            (∀ w6, Ext w4 w6 → Ahead w w6 →
              (Calls Tryd.prog 77 #[Value.int .i64 1] w6 fun e3 w7 =>
                ∃ b3 : Bool, ∃ s3 : Slc, e3 = .returned (Value.agg #[Value.bool b3, s3.v]) ∧ Ahead w6 w7 ∧
                (Calls Tryd.prog 91 #[Value.agg #[Value.bool b1, s1.v], Value.agg #[Value.bool b3, s3.v]] w7 fun e4 w8 =>
                  ∃ b4 : Bool, ∃ s4 : Slc, e4 = .returned (Value.agg #[Value.bool b4, s4.v]) ∧ Ahead w7 w8 ∧
                  (∀ w9, Ext w8 w9 → Ahead w w9 →
                    (Calls Tryd.prog 105 #[Value.agg #[Value.bool b4, s4.v], Value.agg #[Value.bool a1_b_0, a1_b_1.v]] w9 fun e5 w10 =>
                      ∃ b5 : Bool, ∃ s5 : Slc, e5 = .returned (Value.agg #[Value.bool b5, s5.v]) ∧ Ahead w9 w10 ∧
                      (Calls Tryd.prog 104 #[Value.agg #[Value.bool a0_a_0, a0_a_1.v], Value.agg #[Value.bool b5, s5.v]] w10 fun e6 w11 =>
                        ∃ b6 : Bool, ∃ s6 : Slc, e6 = .returned (Value.agg #[Value.bool b6, s6.v]) ∧ Ahead w10 w11 ∧
                        (∀ w12, Ext w11 w12 → Ahead w w12 →
                          (R (.returned (Value.tuple #[Value.agg #[Value.bool b4, s4.v], Value.agg #[Value.bool b6, s6.v]])) w12)))))))))))))
     :
    Calls Tryd.prog 82 #[Value.agg #[Value.bool a0_a_0, a0_a_1.v], Value.agg #[Value.bool a1_b_0, a1_b_1.v]] w (fun e_ w_ => Ahead w w_ ∧ R e_ w_) := by
  refine surdref06_Ceil_vc a0_a_0 a0_a_1 a1_b_0 a1_b_1 w _  ?_
  · have A : Ahead w w := Ahead.refl w
    have X : Ext w w := Ext.refl w
    refine newC_t fun bk1 u1 hb1 ha_u1 hs B1 => ?_
    have g1 : w.heap.size ≤ bk1 := by have := A.size; omega
    replace A := A.trans ha_u1
    replace X := X.trans (Ext.of_ahead ha_u1)
    clear hs hb1
    refine newC_t fun bk2 u2 hb2 ha_u2 hs B2 => ?_
    have g2 : w.heap.size ≤ bk2 := by have := A.size; omega
    have l1_2 : bk1 < bk2 := by have := B1.lt; omega
    replace B1 := B1.ahead ha_u2
    replace A := A.trans ha_u2
    replace X := X.trans (Ext.of_ahead ha_u2)
    clear hs hb2
    refine newC_t fun bk3 u3 hb3 ha_u3 hs B3 => ?_
    have g3 : w.heap.size ≤ bk3 := by have := A.size; omega
    have l1_3 : bk1 < bk3 := by have := B1.lt; omega
    have l2_3 : bk2 < bk3 := by have := B2.lt; omega
    replace B1 := B1.ahead ha_u3
    replace B2 := B2.ahead ha_u3
    replace A := A.trans ha_u3
    replace X := X.trans (Ext.of_ahead ha_u3)
    clear hs hb3
    refine newC_t fun bk4 u4 hb4 ha_u4 hs B4 => ?_
    have g4 : w.heap.size ≤ bk4 := by have := A.size; omega
    have l1_4 : bk1 < bk4 := by have := B1.lt; omega
    have l2_4 : bk2 < bk4 := by have := B2.lt; omega
    have l3_4 : bk3 < bk4 := by have := B3.lt; omega
    replace B1 := B1.ahead ha_u4
    replace B2 := B2.ahead ha_u4
    replace B3 := B3.ahead ha_u4
    replace A := A.trans ha_u4
    replace X := X.trans (Ext.of_ahead ha_u4)
    clear hs hb4
    refine ldB_t 0 B1 rfl ?_
    refine ldS_t 1 B1 rfl ?_
    refine ldB_t 0 B2 rfl ?_
    refine ldS_t 1 B2 rfl ?_
    replace h := h _ X A
    refine Calls.mono h ?_
    clear h
    rintro e1 w2 ⟨b1, s1, b2, s2, he_, ha_w2, h⟩
    refine ⟨b1, s1, b2, s2, he_, ?_⟩
    clear he_
    replace B1 := B1.ahead ha_w2
    replace B2 := B2.ahead ha_w2
    replace B3 := B3.ahead ha_w2
    replace B4 := B4.ahead ha_w2
    replace A := A.trans ha_w2
    replace X := X.trans (Ext.of_ahead ha_w2)
    replace X : Ext w2 w2 := Ext.refl _
    refine newC_t fun bk5 u5 hb5 ha_u5 hs B5 => ?_
    have g5 : w.heap.size ≤ bk5 := by have := A.size; omega
    have l1_5 : bk1 < bk5 := by have := B1.lt; omega
    have l2_5 : bk2 < bk5 := by have := B2.lt; omega
    have l3_5 : bk3 < bk5 := by have := B3.lt; omega
    have l4_5 : bk4 < bk5 := by have := B4.lt; omega
    replace B1 := B1.ahead ha_u5
    replace B2 := B2.ahead ha_u5
    replace B3 := B3.ahead ha_u5
    replace B4 := B4.ahead ha_u5
    replace A := A.trans ha_u5
    replace X := X.trans (Ext.of_ahead ha_u5)
    clear hs hb5
    refine newC_t fun bk6 u6 hb6 ha_u6 hs B6 => ?_
    have g6 : w.heap.size ≤ bk6 := by have := A.size; omega
    have l1_6 : bk1 < bk6 := by have := B1.lt; omega
    have l2_6 : bk2 < bk6 := by have := B2.lt; omega
    have l3_6 : bk3 < bk6 := by have := B3.lt; omega
    have l4_6 : bk4 < bk6 := by have := B4.lt; omega
    have l5_6 : bk5 < bk6 := by have := B5.lt; omega
    replace B1 := B1.ahead ha_u6
    replace B2 := B2.ahead ha_u6
    replace B3 := B3.ahead ha_u6
    replace B4 := B4.ahead ha_u6
    replace B5 := B5.ahead ha_u6
    replace A := A.trans ha_u6
    replace X := X.trans (Ext.of_ahead ha_u6)
    clear hs hb6
    refine stC_t 0 B5 rfl rfl rfl fun u7 k_u7 B5_ => ?_
    replace B5 : Blt u7 bk5 44 #[Value.bool b1, (⟨none, 0, 0⟩ : Slc).v] := B5_
    clear B5_
    refine stC_t 1 B5 rfl rfl rfl fun u8 k_u8 B5_ => ?_
    replace B5 : Blt u8 bk5 44 #[Value.bool b1, s1.v] := B5_
    clear B5_
    have kk_u7 := (k_u7.trans k_u8)
    replace B1 := kk_u7.blt B1 (by omega)
    replace B2 := kk_u7.blt B2 (by omega)
    replace B3 := kk_u7.blt B3 (by omega)
    replace B4 := kk_u7.blt B4 (by omega)
    replace B6 := kk_u7.blt B6 (by omega)
    replace A := kk_u7.ahead A g5
    replace X := X.trans kk_u7.ext
    clear k_u8 k_u7
    refine stC_t 0 B6 rfl rfl rfl fun u9 k_u9 B6_ => ?_
    replace B6 : Blt u9 bk6 44 #[Value.bool b2, (⟨none, 0, 0⟩ : Slc).v] := B6_
    clear B6_
    refine stC_t 1 B6 rfl rfl rfl fun u10 k_u10 B6_ => ?_
    replace B6 : Blt u10 bk6 44 #[Value.bool b2, s2.v] := B6_
    clear B6_
    have kk_u9 := (k_u9.trans k_u10)
    replace B1 := kk_u9.blt B1 (by omega)
    replace B2 := kk_u9.blt B2 (by omega)
    replace B3 := kk_u9.blt B3 (by omega)
    replace B4 := kk_u9.blt B4 (by omega)
    replace B5 := kk_u9.blt B5 (by omega)
    replace A := kk_u9.ahead A g6
    replace X := X.trans kk_u9.ext
    clear k_u10 k_u9
    refine ldB_t 0 B6 rfl ?_
    refine ldS_t 1 B6 rfl ?_
    replace h := h _ X A
    refine Calls.mono h ?_
    clear h
    rintro e2 w4 ⟨x1, he_, ha_w4, h⟩
    refine ⟨x1, he_, ?_⟩
    clear he_
    replace B1 := B1.ahead ha_w4
    replace B2 := B2.ahead ha_w4
    replace B3 := B3.ahead ha_w4
    replace B4 := B4.ahead ha_w4
    replace B5 := B5.ahead ha_w4
    replace B6 := B6.ahead ha_w4
    replace A := A.trans ha_w4
    replace X := X.trans (Ext.of_ahead ha_w4)
    replace X : Ext w4 w4 := Ext.refl _
    refine br_map h (fun h_ => ?_) (fun h_ => ?_)
    · skip
      clear h
      have h := h_
      clear h_
      have hd_ := Sp.Ahead.drew w4
      replace B1 := B1.ahead hd_
      replace B2 := B2.ahead hd_
      replace B3 := B3.ahead hd_
      replace B4 := B4.ahead hd_
      replace B5 := B5.ahead hd_
      replace B6 := B6.ahead hd_
      replace A := A.trans hd_
      replace X := X.trans (Ext.of_ahead hd_)
      clear hd_
      have z1 := B1.lt
      have z2 := B2.lt
      have z3 := B3.lt
      have z4 := B4.lt
      have z5 := B5.lt
      have z6 := B6.lt
      let V_ : Nat → Nat → Prop := fun (q_ k : Nat) => (k = bk3 ∨ k = bk4 ∨ w4.drew.heap.size ≤ k) ∧ 0 ≤ k
      refine ⟨V_, ?_⟩
      have Y_ : w4.drew.heap.size ≤ w4.drew.heap.size := Nat.le_refl _
      refine out_t (b := bk5) (i := 0) (by first | rfl | exact Sp.add_off) (fun hv_ => (by replace hv_ : _ ∧ _ := hv_; omega)) ?_
      refine ldB_t 0 B5 rfl ?_
      refine ldS_t 1 B5 rfl ?_
      refine out_t (b := bk6) (i := 0) (by first | rfl | exact Sp.add_off) (fun hv_ => (by replace hv_ : _ ∧ _ := hv_; omega)) ?_
      refine ldB_t 0 B6 rfl ?_
      refine ldS_t 1 B6 rfl ?_
      refine stC_t 0 B3 rfl rfl rfl fun u11 k_u11 B3_ => ?_
      replace B3 : Blt u11 bk3 44 #[Value.bool b1, (⟨none, 0, 0⟩ : Slc).v] := B3_
      clear B3_
      refine stC_t 1 B3 rfl rfl rfl fun u12 k_u12 B3_ => ?_
      replace B3 : Blt u12 bk3 44 #[Value.bool b1, s1.v] := B3_
      clear B3_
      have kk_u11 := (k_u11.trans k_u12)
      replace B1 := kk_u11.blt B1 (by omega)
      replace B2 := kk_u11.blt B2 (by omega)
      replace B4 := kk_u11.blt B4 (by omega)
      replace B5 := kk_u11.blt B5 (by omega)
      replace B6 := kk_u11.blt B6 (by omega)
      replace A := kk_u11.ahead A g3
      replace X := X.trans kk_u11.ext
      replace Y_ := Nat.le_trans Y_ (Nat.le_of_eq kk_u11.size.symm)
      clear k_u12 k_u11
      refine ⟨(kk_u11.bar (V := V_ 1) (by show _ ∧ _; omega)), ?_⟩
      refine stC_t 0 B4 rfl rfl rfl fun u13 k_u13 B4_ => ?_
      replace B4 : Blt u13 bk4 44 #[Value.bool b2, (⟨none, 0, 0⟩ : Slc).v] := B4_
      clear B4_
      refine stC_t 1 B4 rfl rfl rfl fun u14 k_u14 B4_ => ?_
      replace B4 : Blt u14 bk4 44 #[Value.bool b2, s2.v] := B4_
      clear B4_
      have kk_u13 := (k_u13.trans k_u14)
      replace B1 := kk_u13.blt B1 (by omega)
      replace B2 := kk_u13.blt B2 (by omega)
      replace B3 := kk_u13.blt B3 (by omega)
      replace B5 := kk_u13.blt B5 (by omega)
      replace B6 := kk_u13.blt B6 (by omega)
      replace A := kk_u13.ahead A g4
      replace X := X.trans kk_u13.ext
      replace Y_ := Nat.le_trans Y_ (Nat.le_of_eq kk_u13.size.symm)
      clear k_u14 k_u13
      refine ldB_t 0 B3 rfl ?_
      refine ldS_t 1 B3 rfl ?_
      refine ldB_t 0 B4 rfl ?_
      refine ldS_t 1 B4 rfl ?_
      replace h := h _ X A
      exact ⟨A, h⟩
    · skip
      clear h
      have h := h_
      clear h_
      have hd_ := Sp.Ahead.drew w4
      replace B1 := B1.ahead hd_
      replace B2 := B2.ahead hd_
      replace B3 := B3.ahead hd_
      replace B4 := B4.ahead hd_
      replace B5 := B5.ahead hd_
      replace B6 := B6.ahead hd_
      replace A := A.trans hd_
      replace X := X.trans (Ext.of_ahead hd_)
      clear hd_
      refine ldB_t 0 B5 rfl ?_
      refine ldS_t 1 B5 rfl ?_
      replace h := h _ X A
      refine Calls.mono h ?_
      clear h
      rintro e3 w7 ⟨b3, s3, he_, ha_w7, h⟩
      refine ⟨b3, s3, he_, ?_⟩
      clear he_
      replace B1 := B1.ahead ha_w7
      replace B2 := B2.ahead ha_w7
      replace B3 := B3.ahead ha_w7
      replace B4 := B4.ahead ha_w7
      replace B5 := B5.ahead ha_w7
      replace B6 := B6.ahead ha_w7
      replace A := A.trans ha_w7
      replace X := X.trans (Ext.of_ahead ha_w7)
      replace X : Ext w7 w7 := Ext.refl _
      refine ⟨ha_w7, ?_⟩
      refine Calls.mono h ?_
      clear h
      rintro e4 w8 ⟨b4, s4, he_, ha_w8, h⟩
      refine ⟨b4, s4, he_, ?_⟩
      clear he_
      replace B1 := B1.ahead ha_w8
      replace B2 := B2.ahead ha_w8
      replace B3 := B3.ahead ha_w8
      replace B4 := B4.ahead ha_w8
      replace B5 := B5.ahead ha_w8
      replace B6 := B6.ahead ha_w8
      replace A := A.trans ha_w8
      replace X := X.trans (Ext.of_ahead ha_w8)
      replace X : Ext w8 w8 := Ext.refl _
      refine ⟨ha_w8, ?_⟩
      refine stC_t 0 B5 rfl rfl rfl fun u15 k_u15 B5_ => ?_
      replace B5 : Blt u15 bk5 44 #[Value.bool b4, s1.v] := B5_
      clear B5_
      refine stC_t 1 B5 rfl rfl rfl fun u16 k_u16 B5_ => ?_
      replace B5 : Blt u16 bk5 44 #[Value.bool b4, s4.v] := B5_
      clear B5_
      have kk_u15 := (k_u15.trans k_u16)
      replace B1 := kk_u15.blt B1 (by omega)
      replace B2 := kk_u15.blt B2 (by omega)
      replace B3 := kk_u15.blt B3 (by omega)
      replace B4 := kk_u15.blt B4 (by omega)
      replace B6 := kk_u15.blt B6 (by omega)
      replace A := kk_u15.ahead A g5
      replace X := X.trans kk_u15.ext
      clear k_u16 k_u15
      have hd_ := Sp.Ahead.drew u16
      replace B1 := B1.ahead hd_
      replace B2 := B2.ahead hd_
      replace B3 := B3.ahead hd_
      replace B4 := B4.ahead hd_
      replace B5 := B5.ahead hd_
      replace B6 := B6.ahead hd_
      replace A := A.trans hd_
      replace X := X.trans (Ext.of_ahead hd_)
      clear hd_
      have z1 := B1.lt
      have z2 := B2.lt
      have z3 := B3.lt
      have z4 := B4.lt
      have z5 := B5.lt
      have z6 := B6.lt
      let V_ : Nat → Nat → Prop := fun (q_ k : Nat) => (k = bk3 ∨ k = bk4 ∨ u16.drew.heap.size ≤ k) ∧ 0 ≤ k
      refine ⟨V_, ?_⟩
      have Y_ : u16.drew.heap.size ≤ u16.drew.heap.size := Nat.le_refl _
      refine out_t (b := bk5) (i := 0) (by first | rfl | exact Sp.add_off) (fun hv_ => (by replace hv_ : _ ∧ _ := hv_; omega)) ?_
      refine ldB_t 0 B5 rfl ?_
      refine ldS_t 1 B5 rfl ?_
      refine out_t (b := bk1) (i := 0) (by first | rfl | exact Sp.add_off) (fun hv_ => (by replace hv_ : _ ∧ _ := hv_; omega)) ?_
      refine ldB_t 0 B1 rfl ?_
      refine ldS_t 1 B1 rfl ?_
      refine out_t (b := bk5) (i := 0) (by first | rfl | exact Sp.add_off) (fun hv_ => (by replace hv_ : _ ∧ _ := hv_; omega)) ?_
      refine ldB_t 0 B5 rfl ?_
      refine ldS_t 1 B5 rfl ?_
      refine out_t (b := bk2) (i := 0) (by first | rfl | exact Sp.add_off) (fun hv_ => (by replace hv_ : _ ∧ _ := hv_; omega)) ?_
      refine ldB_t 0 B2 rfl ?_
      refine ldS_t 1 B2 rfl ?_
      replace h := h _ X A
      refine Calls.mono h ?_
      clear h
      rintro e5 w10 ⟨b5, s5, he_, ha_w10, h⟩
      refine ⟨b5, s5, he_, ?_⟩
      clear he_
      replace B1 := B1.ahead ha_w10
      replace B2 := B2.ahead ha_w10
      replace B3 := B3.ahead ha_w10
      replace B4 := B4.ahead ha_w10
      replace B5 := B5.ahead ha_w10
      replace B6 := B6.ahead ha_w10
      replace Y_ := Nat.le_trans Y_ ha_w10.size
      replace A := A.trans ha_w10
      replace X := X.trans (Ext.of_ahead ha_w10)
      replace X : Ext w10 w10 := Ext.refl _
      refine ⟨(Bar.of_ahead ha_w10), ?_⟩
      refine ⟨(Bar.of_ahead ha_w10), ?_⟩
      refine Calls.mono h ?_
      clear h
      rintro e6 w11 ⟨b6, s6, he_, ha_w11, h⟩
      refine ⟨b6, s6, he_, ?_⟩
      clear he_
      replace B1 := B1.ahead ha_w11
      replace B2 := B2.ahead ha_w11
      replace B3 := B3.ahead ha_w11
      replace B4 := B4.ahead ha_w11
      replace B5 := B5.ahead ha_w11
      replace B6 := B6.ahead ha_w11
      replace Y_ := Nat.le_trans Y_ ha_w11.size
      replace A := A.trans ha_w11
      replace X := X.trans (Ext.of_ahead ha_w11)
      replace X : Ext w11 w11 := Ext.refl _
      refine ⟨(Bar.of_ahead ha_w11), ?_⟩
      refine stC_t 0 B3 rfl rfl rfl fun u17 k_u17 B3_ => ?_
      replace B3 : Blt u17 bk3 44 #[Value.bool b4, (⟨none, 0, 0⟩ : Slc).v] := B3_
      clear B3_
      refine stC_t 1 B3 rfl rfl rfl fun u18 k_u18 B3_ => ?_
      replace B3 : Blt u18 bk3 44 #[Value.bool b4, s4.v] := B3_
      clear B3_
      have kk_u17 := (k_u17.trans k_u18)
      replace B1 := kk_u17.blt B1 (by omega)
      replace B2 := kk_u17.blt B2 (by omega)
      replace B4 := kk_u17.blt B4 (by omega)
      replace B5 := kk_u17.blt B5 (by omega)
      replace B6 := kk_u17.blt B6 (by omega)
      replace A := kk_u17.ahead A g3
      replace X := X.trans kk_u17.ext
      replace Y_ := Nat.le_trans Y_ (Nat.le_of_eq kk_u17.size.symm)
      clear k_u18 k_u17
      refine stC_t 0 B4 rfl rfl rfl fun u19 k_u19 B4_ => ?_
      replace B4 : Blt u19 bk4 44 #[Value.bool b6, (⟨none, 0, 0⟩ : Slc).v] := B4_
      clear B4_
      refine stC_t 1 B4 rfl rfl rfl fun u20 k_u20 B4_ => ?_
      replace B4 : Blt u20 bk4 44 #[Value.bool b6, s6.v] := B4_
      clear B4_
      have kk_u19 := (k_u19.trans k_u20)
      replace B1 := kk_u19.blt B1 (by omega)
      replace B2 := kk_u19.blt B2 (by omega)
      replace B3 := kk_u19.blt B3 (by omega)
      replace B5 := kk_u19.blt B5 (by omega)
      replace B6 := kk_u19.blt B6 (by omega)
      replace A := kk_u19.ahead A g4
      replace X := X.trans kk_u19.ext
      replace Y_ := Nat.le_trans Y_ (Nat.le_of_eq kk_u19.size.symm)
      clear k_u20 k_u19
      refine ldB_t 0 B3 rfl ?_
      refine ldS_t 1 B3 rfl ?_
      refine ldB_t 0 B4 rfl ?_
      refine ldS_t 1 B4 rfl ?_
      replace h := h _ X A
      exact ⟨A, h⟩

/-- surd/surdref06.Near: function 83, its local variables as values. -/
theorem surdref06_Near_v2 (a0_a_0 : Bool) (a0_a_1 : Slc) (a1_b_0 : Bool) (a1_b_1 : Slc) (w : World) (R : Ending → World → Prop)
    (K5 : Bool → Bool → Slc → Bool → Slc → Bool → Slc → Bool → Slc → Bool → Slc → World → Prop) (K6 : Bool → Slc → Bool → Slc → Bool → Slc → Bool → Slc → Bool → Slc → World → Prop)
    (h : ∀ w1, Ext w w1 → Ahead w w1 →
    (Calls Tryd.prog 81 #[Value.agg #[Value.bool a0_a_0, a0_a_1.v], Value.agg #[Value.bool a1_b_0, a1_b_1.v]] w1 fun e1 w2 =>
      ∃ b1 : Bool, ∃ s1 : Slc, ∃ b2 : Bool, ∃ s2 : Slc, e1 = .returned (Value.tuple #[Value.agg #[Value.bool b1, s1.v], Value.agg #[Value.bool b2, s2.v]]) ∧ Ahead w1 w2 ∧
      (∀ w3, Ext w2 w3 → Ahead w w3 →
        (Calls Tryd.prog 54 #[s2.v, Value.int .i64 1] w3 fun e2 w4 =>
          ∃ s3 : Slc, e2 = .returned s3.v ∧ Ahead w3 w4 ∧
          (Calls Tryd.prog 106 #[s3.v, a1_b_1.v] w4 fun e3 w5 =>
            ∃ x1 : Int, e3 = .returned (Value.int .i64 x1) ∧ Ahead w4 w5 ∧
            (br (decide (x1 > 0))
              (K5 true a0_a_0 a0_a_1 a1_b_0 a1_b_1 false (⟨none, 0, 0⟩ : Slc) false (⟨none, 0, 0⟩ : Slc) b1 s1 w5)
              (br (x1 == 0)
                (Calls Tryd.prog 99 #[s1.v, Value.int .i64 0] w5 fun e8 w14 =>
                  ∃ x2 : Int, e8 = .returned (Value.int .i64 x2) ∧ Ahead w5 w14 ∧
                  (K5 (x2 == 1) a0_a_0 a0_a_1 a1_b_0 a1_b_1 false (⟨none, 0, 0⟩ : Slc) false (⟨none, 0, 0⟩ : Slc) b1 s1 w14))
                (K5 false a0_a_0 a0_a_1 a1_b_0 a1_b_1 false (⟨none, 0, 0⟩ : Slc) false (⟨none, 0, 0⟩ : Slc) b1 s1 w5))))))))
    (h3000005 : ∀ (t32 : Bool) (t2_a_0 : Bool) (t2_a_1 : Slc) (t3_b_0 : Bool) (t3_b_1 : Slc) (t4_0 : Bool) (t4_1 : Slc) (t5_0 : Bool) (t5_1 : Slc) (t6_q_0 : Bool) (t6_q_1 : Slc) (w_ : World), Ahead w w_ → K5 t32 t2_a_0 t2_a_1 t3_b_0 t3_b_1 t4_0 t4_1 t5_0 t5_1 t6_q_0 t6_q_1 w_ → 
    br t32
    (∀ w6, Ext w_ w6 → Ahead w w6 →
      (Calls Tryd.prog 77 #[Value.int .i64 1] w6 fun e4 w7 =>
        ∃ b3 : Bool, ∃ s4 : Slc, e4 = .returned (Value.agg #[Value.bool b3, s4.v]) ∧ Ahead w6 w7 ∧
        (Calls Tryd.prog 91 #[Value.agg #[Value.bool t6_q_0, t6_q_1.v], Value.agg #[Value.bool b3, s4.v]] w7 fun e5 w8 =>
          ∃ b4 : Bool, ∃ s5 : Slc, e5 = .returned (Value.agg #[Value.bool b4, s5.v]) ∧ Ahead w7 w8 ∧
          (∀ w13, Ext w8 w13 → Ahead w w13 →
            (K6 t2_a_0 t2_a_1 t3_b_0 t3_b_1 t4_0 t4_1 t5_0 t5_1 b4 s5 w13)))))
    (K6 t2_a_0 t2_a_1 t3_b_0 t3_b_1 t4_0 t4_1 t5_0 t5_1 t6_q_0 t6_q_1 w_))
    (h3000006 : ∀ (t2_a_0 : Bool) (t2_a_1 : Slc) (t3_b_0 : Bool) (t3_b_1 : Slc) (t4_0 : Bool) (t4_1 : Slc) (t5_0 : Bool) (t5_1 : Slc) (t6_q_0 : Bool) (t6_q_1 : Slc) (w_ : World), Ahead w w_ → K6 t2_a_0 t2_a_1 t3_b_0 t3_b_1 t4_0 t4_1 t5_0 t5_1 t6_q_0 t6_q_1 w_ → 
    ∀ w9, Ext w_ w9 → Ahead w w9 →
    (Calls Tryd.prog 105 #[Value.agg #[Value.bool t6_q_0, t6_q_1.v], Value.agg #[Value.bool t3_b_0, t3_b_1.v]] w9 fun e6 w10 =>
      ∃ b5 : Bool, ∃ s6 : Slc, e6 = .returned (Value.agg #[Value.bool b5, s6.v]) ∧ Ahead w9 w10 ∧
      (Calls Tryd.prog 104 #[Value.agg #[Value.bool t2_a_0, t2_a_1.v], Value.agg #[Value.bool b5, s6.v]] w10 fun e7 w11 =>
        ∃ b6 : Bool, ∃ s7 : Slc, e7 = .returned (Value.agg #[Value.bool b6, s7.v]) ∧ Ahead w10 w11 ∧
        (∀ w12, Ext w11 w12 → Ahead w w12 →
          (R (.returned (Value.tuple #[Value.agg #[Value.bool t6_q_0, t6_q_1.v], Value.agg #[Value.bool b6, s7.v]])) w12))))) :
    Calls Tryd.prog 83 #[Value.agg #[Value.bool a0_a_0, a0_a_1.v], Value.agg #[Value.bool a1_b_0, a1_b_1.v]] w (fun e_ w_ => Ahead w w_ ∧ R e_ w_) := by
  refine surdref06_Near_vc a0_a_0 a0_a_1 a1_b_0 a1_b_1 w _ (fun t2_a t3_b t4 t5 t6_q t32 w_ => ∃ c2_ : Nat, ∃ c3_ : Nat, ∃ c4_ : Nat, ∃ c5_ : Nat, ∃ c6_ : Nat, ∃ t2_a_0 : Bool, ∃ t2_a_1 : Slc, ∃ t3_b_0 : Bool, ∃ t3_b_1 : Slc, ∃ t4_0 : Bool, ∃ t4_1 : Slc, ∃ t5_0 : Bool, ∃ t5_1 : Slc, ∃ t6_q_0 : Bool, ∃ t6_q_1 : Slc, t2_a = ⟨c2_, 0, none⟩ ∧ Blt w_ c2_ 44 #[Value.bool t2_a_0, t2_a_1.v] ∧ w.heap.size ≤ c2_ ∧ t3_b = ⟨c3_, 0, none⟩ ∧ Blt w_ c3_ 44 #[Value.bool t3_b_0, t3_b_1.v] ∧ w.heap.size ≤ c3_ ∧ t4 = ⟨c4_, 0, none⟩ ∧ Blt w_ c4_ 44 #[Value.bool t4_0, t4_1.v] ∧ w.heap.size ≤ c4_ ∧ t5 = ⟨c5_, 0, none⟩ ∧ Blt w_ c5_ 44 #[Value.bool t5_0, t5_1.v] ∧ w.heap.size ≤ c5_ ∧ t6_q = ⟨c6_, 0, none⟩ ∧ Blt w_ c6_ 44 #[Value.bool t6_q_0, t6_q_1.v] ∧ w.heap.size ≤ c6_ ∧ c2_ ≠ c3_ ∧ c2_ ≠ c4_ ∧ c2_ ≠ c5_ ∧ c2_ ≠ c6_ ∧ c3_ ≠ c4_ ∧ c3_ ≠ c5_ ∧ c3_ ≠ c6_ ∧ c4_ ≠ c5_ ∧ c4_ ≠ c6_ ∧ c5_ ≠ c6_ ∧ Ahead w w_ ∧ K5 t32 t2_a_0 t2_a_1 t3_b_0 t3_b_1 t4_0 t4_1 t5_0 t5_1 t6_q_0 t6_q_1 w_) (fun t2_a t3_b t4 t5 t6_q w_ => ∃ c2_ : Nat, ∃ c3_ : Nat, ∃ c4_ : Nat, ∃ c5_ : Nat, ∃ c6_ : Nat, ∃ t2_a_0 : Bool, ∃ t2_a_1 : Slc, ∃ t3_b_0 : Bool, ∃ t3_b_1 : Slc, ∃ t4_0 : Bool, ∃ t4_1 : Slc, ∃ t5_0 : Bool, ∃ t5_1 : Slc, ∃ t6_q_0 : Bool, ∃ t6_q_1 : Slc, t2_a = ⟨c2_, 0, none⟩ ∧ Blt w_ c2_ 44 #[Value.bool t2_a_0, t2_a_1.v] ∧ w.heap.size ≤ c2_ ∧ t3_b = ⟨c3_, 0, none⟩ ∧ Blt w_ c3_ 44 #[Value.bool t3_b_0, t3_b_1.v] ∧ w.heap.size ≤ c3_ ∧ t4 = ⟨c4_, 0, none⟩ ∧ Blt w_ c4_ 44 #[Value.bool t4_0, t4_1.v] ∧ w.heap.size ≤ c4_ ∧ t5 = ⟨c5_, 0, none⟩ ∧ Blt w_ c5_ 44 #[Value.bool t5_0, t5_1.v] ∧ w.heap.size ≤ c5_ ∧ t6_q = ⟨c6_, 0, none⟩ ∧ Blt w_ c6_ 44 #[Value.bool t6_q_0, t6_q_1.v] ∧ w.heap.size ≤ c6_ ∧ c2_ ≠ c3_ ∧ c2_ ≠ c4_ ∧ c2_ ≠ c5_ ∧ c2_ ≠ c6_ ∧ c3_ ≠ c4_ ∧ c3_ ≠ c5_ ∧ c3_ ≠ c6_ ∧ c4_ ≠ c5_ ∧ c4_ ≠ c6_ ∧ c5_ ≠ c6_ ∧ Ahead w w_ ∧ K6 t2_a_0 t2_a_1 t3_b_0 t3_b_1 t4_0 t4_1 t5_0 t5_1 t6_q_0 t6_q_1 w_) ?_ ?_ ?_
  · have A : Ahead w w := Ahead.refl w
    have X : Ext w w := Ext.refl w
    refine newC_t fun bk1 u1 hb1 ha_u1 hs B1 => ?_
    have g1 : w.heap.size ≤ bk1 := by have := A.size; omega
    replace A := A.trans ha_u1
    replace X := X.trans (Ext.of_ahead ha_u1)
    clear hs hb1
    refine newC_t fun bk2 u2 hb2 ha_u2 hs B2 => ?_
    have g2 : w.heap.size ≤ bk2 := by have := A.size; omega
    have l1_2 : bk1 < bk2 := by have := B1.lt; omega
    replace B1 := B1.ahead ha_u2
    replace A := A.trans ha_u2
    replace X := X.trans (Ext.of_ahead ha_u2)
    clear hs hb2
    refine newC_t fun bk3 u3 hb3 ha_u3 hs B3 => ?_
    have g3 : w.heap.size ≤ bk3 := by have := A.size; omega
    have l1_3 : bk1 < bk3 := by have := B1.lt; omega
    have l2_3 : bk2 < bk3 := by have := B2.lt; omega
    replace B1 := B1.ahead ha_u3
    replace B2 := B2.ahead ha_u3
    replace A := A.trans ha_u3
    replace X := X.trans (Ext.of_ahead ha_u3)
    clear hs hb3
    refine newC_t fun bk4 u4 hb4 ha_u4 hs B4 => ?_
    have g4 : w.heap.size ≤ bk4 := by have := A.size; omega
    have l1_4 : bk1 < bk4 := by have := B1.lt; omega
    have l2_4 : bk2 < bk4 := by have := B2.lt; omega
    have l3_4 : bk3 < bk4 := by have := B3.lt; omega
    replace B1 := B1.ahead ha_u4
    replace B2 := B2.ahead ha_u4
    replace B3 := B3.ahead ha_u4
    replace A := A.trans ha_u4
    replace X := X.trans (Ext.of_ahead ha_u4)
    clear hs hb4
    refine ldB_t 0 B1 rfl ?_
    refine ldS_t 1 B1 rfl ?_
    refine ldB_t 0 B2 rfl ?_
    refine ldS_t 1 B2 rfl ?_
    replace h := h _ X A
    refine Calls.mono h ?_
    clear h
    rintro e1 w2 ⟨b1, s1, b2, s2, he_, ha_w2, h⟩
    refine ⟨b1, s1, b2, s2, he_, ?_⟩
    clear he_
    replace B1 := B1.ahead ha_w2
    replace B2 := B2.ahead ha_w2
    replace B3 := B3.ahead ha_w2
    replace B4 := B4.ahead ha_w2
    replace A := A.trans ha_w2
    replace X := X.trans (Ext.of_ahead ha_w2)
    replace X : Ext w2 w2 := Ext.refl _
    refine newC_t fun bk5 u5 hb5 ha_u5 hs B5 => ?_
    have g5 : w.heap.size ≤ bk5 := by have := A.size; omega
    have l1_5 : bk1 < bk5 := by have := B1.lt; omega
    have l2_5 : bk2 < bk5 := by have := B2.lt; omega
    have l3_5 : bk3 < bk5 := by have := B3.lt; omega
    have l4_5 : bk4 < bk5 := by have := B4.lt; omega
    replace B1 := B1.ahead ha_u5
    replace B2 := B2.ahead ha_u5
    replace B3 := B3.ahead ha_u5
    replace B4 := B4.ahead ha_u5
    replace A := A.trans ha_u5
    replace X := X.trans (Ext.of_ahead ha_u5)
    clear hs hb5
    refine newC_t fun bk6 u6 hb6 ha_u6 hs B6 => ?_
    have g6 : w.heap.size ≤ bk6 := by have := A.size; omega
    have l1_6 : bk1 < bk6 := by have := B1.lt; omega
    have l2_6 : bk2 < bk6 := by have := B2.lt; omega
    have l3_6 : bk3 < bk6 := by have := B3.lt; omega
    have l4_6 : bk4 < bk6 := by have := B4.lt; omega
    have l5_6 : bk5 < bk6 := by have := B5.lt; omega
    replace B1 := B1.ahead ha_u6
    replace B2 := B2.ahead ha_u6
    replace B3 := B3.ahead ha_u6
    replace B4 := B4.ahead ha_u6
    replace B5 := B5.ahead ha_u6
    replace A := A.trans ha_u6
    replace X := X.trans (Ext.of_ahead ha_u6)
    clear hs hb6
    refine stC_t 0 B5 rfl rfl rfl fun u7 k_u7 B5_ => ?_
    replace B5 : Blt u7 bk5 44 #[Value.bool b1, (⟨none, 0, 0⟩ : Slc).v] := B5_
    clear B5_
    refine stC_t 1 B5 rfl rfl rfl fun u8 k_u8 B5_ => ?_
    replace B5 : Blt u8 bk5 44 #[Value.bool b1, s1.v] := B5_
    clear B5_
    have kk_u7 := (k_u7.trans k_u8)
    replace B1 := kk_u7.blt B1 (by omega)
    replace B2 := kk_u7.blt B2 (by omega)
    replace B3 := kk_u7.blt B3 (by omega)
    replace B4 := kk_u7.blt B4 (by omega)
    replace B6 := kk_u7.blt B6 (by omega)
    replace A := kk_u7.ahead A g5
    replace X := X.trans kk_u7.ext
    clear k_u8 k_u7
    refine stC_t 0 B6 rfl rfl rfl fun u9 k_u9 B6_ => ?_
    replace B6 : Blt u9 bk6 44 #[Value.bool b2, (⟨none, 0, 0⟩ : Slc).v] := B6_
    clear B6_
    refine stC_t 1 B6 rfl rfl rfl fun u10 k_u10 B6_ => ?_
    replace B6 : Blt u10 bk6 44 #[Value.bool b2, s2.v] := B6_
    clear B6_
    have kk_u9 := (k_u9.trans k_u10)
    replace B1 := kk_u9.blt B1 (by omega)
    replace B2 := kk_u9.blt B2 (by omega)
    replace B3 := kk_u9.blt B3 (by omega)
    replace B4 := kk_u9.blt B4 (by omega)
    replace B5 := kk_u9.blt B5 (by omega)
    replace A := kk_u9.ahead A g6
    replace X := X.trans kk_u9.ext
    clear k_u10 k_u9
    have hd_ := Sp.Ahead.drew u10
    replace B1 := B1.ahead hd_
    replace B2 := B2.ahead hd_
    replace B3 := B3.ahead hd_
    replace B4 := B4.ahead hd_
    replace B5 := B5.ahead hd_
    replace B6 := B6.ahead hd_
    replace A := A.trans hd_
    replace X := X.trans (Ext.of_ahead hd_)
    clear hd_
    refine ldS_t 1 B6 rfl ?_
    refine ldS_t 1 B2 rfl ?_
    replace h := h _ X A
    refine Calls.mono h ?_
    clear h
    rintro e2 w4 ⟨s3, he_, ha_w4, h⟩
    refine ⟨s3, he_, ?_⟩
    clear he_
    replace B1 := B1.ahead ha_w4
    replace B2 := B2.ahead ha_w4
    replace B3 := B3.ahead ha_w4
    replace B4 := B4.ahead ha_w4
    replace B5 := B5.ahead ha_w4
    replace B6 := B6.ahead ha_w4
    replace A := A.trans ha_w4
    replace X := X.trans (Ext.of_ahead ha_w4)
    replace X : Ext w4 w4 := Ext.refl _
    refine ⟨ha_w4, ?_⟩
    refine Calls.mono h ?_
    clear h
    rintro e3 w5 ⟨x1, he_, ha_w5, h⟩
    refine ⟨x1, he_, ?_⟩
    clear he_
    replace B1 := B1.ahead ha_w5
    replace B2 := B2.ahead ha_w5
    replace B3 := B3.ahead ha_w5
    replace B4 := B4.ahead ha_w5
    replace B5 := B5.ahead ha_w5
    replace B6 := B6.ahead ha_w5
    replace A := A.trans ha_w5
    replace X := X.trans (Ext.of_ahead ha_w5)
    replace X : Ext w5 w5 := Ext.refl _
    refine ⟨ha_w5, ?_⟩
    refine br_map h (fun h_ => ?_) (fun h_ => ?_)
    · skip
      clear h
      have h := h_
      clear h_
      exact ⟨bk1, bk2, bk3, bk4, bk5, a0_a_0, a0_a_1, a1_b_0, a1_b_1, false, (⟨none, 0, 0⟩ : Slc), false, (⟨none, 0, 0⟩ : Slc), b1, s1, rfl, B1, g1, rfl, B2, g2, rfl, B3, g3, rfl, B4, g4, rfl, B5, g5, (by omega), (by omega), (by omega), (by omega), (by omega), (by omega), (by omega), (by omega), (by omega), (by omega), A, h⟩
    · skip
      clear h
      have h := h_
      clear h_
      refine br_map h (fun h_ => ?_) (fun h_ => ?_)
      · skip
        clear h
        have h := h_
        clear h_
        refine ldS_t 1 B5 rfl ?_
        refine Calls.mono h ?_
        clear h
        rintro e8 w14 ⟨x2, he_, ha_w14, h⟩
        refine ⟨x2, he_, ?_⟩
        clear he_
        replace B1 := B1.ahead ha_w14
        replace B2 := B2.ahead ha_w14
        replace B3 := B3.ahead ha_w14
        replace B4 := B4.ahead ha_w14
        replace B5 := B5.ahead ha_w14
        replace B6 := B6.ahead ha_w14
        replace A := A.trans ha_w14
        replace X := X.trans (Ext.of_ahead ha_w14)
        replace X : Ext w14 w14 := Ext.refl _
        exact ⟨bk1, bk2, bk3, bk4, bk5, a0_a_0, a0_a_1, a1_b_0, a1_b_1, false, (⟨none, 0, 0⟩ : Slc), false, (⟨none, 0, 0⟩ : Slc), b1, s1, rfl, B1, g1, rfl, B2, g2, rfl, B3, g3, rfl, B4, g4, rfl, B5, g5, (by omega), (by omega), (by omega), (by omega), (by omega), (by omega), (by omega), (by omega), (by omega), (by omega), A, h⟩
      · skip
        clear h
        have h := h_
        clear h_
        exact ⟨bk1, bk2, bk3, bk4, bk5, a0_a_0, a0_a_1, a1_b_0, a1_b_1, false, (⟨none, 0, 0⟩ : Slc), false, (⟨none, 0, 0⟩ : Slc), b1, s1, rfl, B1, g1, rfl, B2, g2, rfl, B3, g3, rfl, B4, g4, rfl, B5, g5, (by omega), (by omega), (by omega), (by omega), (by omega), (by omega), (by omega), (by omega), (by omega), (by omega), A, h⟩
  · clear h
    rintro t2_a t3_b t4 t5 t6_q t32 w_ ⟨bk1, bk2, bk3, bk4, bk5, t2_a_0, t2_a_1, t3_b_0, t3_b_1, t4_0, t4_1, t5_0, t5_1, t6_q_0, t6_q_1, rfl, B1, g1, rfl, B2, g2, rfl, B3, g3, rfl, B4, g4, rfl, B5, g5, n1_2, n1_3, n1_4, n1_5, n2_3, n2_4, n2_5, n3_4, n3_5, n4_5, A, hJ3000005⟩
    have h := h3000005  t32 t2_a_0 t2_a_1 t3_b_0 t3_b_1 t4_0 t4_1 t5_0 t5_1 t6_q_0 t6_q_1 w_ A hJ3000005
    have X : Ext w_ w_ := Ext.refl _
    refine br_map h (fun h_ => ?_) (fun h_ => ?_)
    · skip
      clear h
      have h := h_
      clear h_
      have hd_ := Sp.Ahead.drew w_
      replace B1 := B1.ahead hd_
      replace B2 := B2.ahead hd_
      replace B3 := B3.ahead hd_
      replace B4 := B4.ahead hd_
      replace B5 := B5.ahead hd_
      replace A := A.trans hd_
      replace X := X.trans (Ext.of_ahead hd_)
      clear hd_
      refine ldB_t 0 B5 rfl ?_
      refine ldS_t 1 B5 rfl ?_
      replace h := h _ X A
      refine Calls.mono h ?_
      clear h
      rintro e4 w7 ⟨b3, s4, he_, ha_w7, h⟩
      refine ⟨b3, s4, he_, ?_⟩
      clear he_
      replace B1 := B1.ahead ha_w7
      replace B2 := B2.ahead ha_w7
      replace B3 := B3.ahead ha_w7
      replace B4 := B4.ahead ha_w7
      replace B5 := B5.ahead ha_w7
      replace A := A.trans ha_w7
      replace X := X.trans (Ext.of_ahead ha_w7)
      replace X : Ext w7 w7 := Ext.refl _
      refine ⟨ha_w7, ?_⟩
      refine Calls.mono h ?_
      clear h
      rintro e5 w8 ⟨b4, s5, he_, ha_w8, h⟩
      refine ⟨b4, s5, he_, ?_⟩
      clear he_
      replace B1 := B1.ahead ha_w8
      replace B2 := B2.ahead ha_w8
      replace B3 := B3.ahead ha_w8
      replace B4 := B4.ahead ha_w8
      replace B5 := B5.ahead ha_w8
      replace A := A.trans ha_w8
      replace X := X.trans (Ext.of_ahead ha_w8)
      replace X : Ext w8 w8 := Ext.refl _
      refine ⟨ha_w8, ?_⟩
      refine stC_t 0 B5 rfl rfl rfl fun u11 k_u11 B5_ => ?_
      replace B5 : Blt u11 bk5 44 #[Value.bool b4, t6_q_1.v] := B5_
      clear B5_
      refine stC_t 1 B5 rfl rfl rfl fun u12 k_u12 B5_ => ?_
      replace B5 : Blt u12 bk5 44 #[Value.bool b4, s5.v] := B5_
      clear B5_
      have kk_u11 := (k_u11.trans k_u12)
      replace B1 := kk_u11.blt B1 (by omega)
      replace B2 := kk_u11.blt B2 (by omega)
      replace B3 := kk_u11.blt B3 (by omega)
      replace B4 := kk_u11.blt B4 (by omega)
      replace A := kk_u11.ahead A g5
      replace X := X.trans kk_u11.ext
      clear k_u12 k_u11
      replace h := h _ X A
      exact ⟨bk1, bk2, bk3, bk4, bk5, t2_a_0, t2_a_1, t3_b_0, t3_b_1, t4_0, t4_1, t5_0, t5_1, b4, s5, rfl, B1, g1, rfl, B2, g2, rfl, B3, g3, rfl, B4, g4, rfl, B5, g5, (by omega), (by omega), (by omega), (by omega), (by omega), (by omega), (by omega), (by omega), (by omega), (by omega), A, h⟩
    · skip
      clear h
      have h := h_
      clear h_
      exact ⟨bk1, bk2, bk3, bk4, bk5, t2_a_0, t2_a_1, t3_b_0, t3_b_1, t4_0, t4_1, t5_0, t5_1, t6_q_0, t6_q_1, rfl, B1, g1, rfl, B2, g2, rfl, B3, g3, rfl, B4, g4, rfl, B5, g5, (by omega), (by omega), (by omega), (by omega), (by omega), (by omega), (by omega), (by omega), (by omega), (by omega), A, h⟩
  · clear h
    rintro t2_a t3_b t4 t5 t6_q w_ ⟨bk1, bk2, bk3, bk4, bk5, t2_a_0, t2_a_1, t3_b_0, t3_b_1, t4_0, t4_1, t5_0, t5_1, t6_q_0, t6_q_1, rfl, B1, g1, rfl, B2, g2, rfl, B3, g3, rfl, B4, g4, rfl, B5, g5, n1_2, n1_3, n1_4, n1_5, n2_3, n2_4, n2_5, n3_4, n3_5, n4_5, A, hJ3000006⟩
    have h := h3000006  t2_a_0 t2_a_1 t3_b_0 t3_b_1 t4_0 t4_1 t5_0 t5_1 t6_q_0 t6_q_1 w_ A hJ3000006
    have X : Ext w_ w_ := Ext.refl _
    have hd_ := Sp.Ahead.drew w_
    replace B1 := B1.ahead hd_
    replace B2 := B2.ahead hd_
    replace B3 := B3.ahead hd_
    replace B4 := B4.ahead hd_
    replace B5 := B5.ahead hd_
    replace A := A.trans hd_
    replace X := X.trans (Ext.of_ahead hd_)
    clear hd_
    have z1 := B1.lt
    have z2 := B2.lt
    have z3 := B3.lt
    have z4 := B4.lt
    have z5 := B5.lt
    let V_ : Nat → Nat → Prop := fun (q_ k : Nat) => (k = bk3 ∨ k = bk4 ∨ w_.drew.heap.size ≤ k) ∧ 0 ≤ k
    refine ⟨V_, ?_⟩
    have Y_ : w_.drew.heap.size ≤ w_.drew.heap.size := Nat.le_refl _
    refine out_t (b := bk5) (i := 0) (by first | rfl | exact Sp.add_off) (fun hv_ => (by replace hv_ : _ ∧ _ := hv_; omega)) ?_
    refine ldB_t 0 B5 rfl ?_
    refine ldS_t 1 B5 rfl ?_
    refine out_t (b := bk1) (i := 0) (by first | rfl | exact Sp.add_off) (fun hv_ => (by replace hv_ : _ ∧ _ := hv_; omega)) ?_
    refine ldB_t 0 B1 rfl ?_
    refine ldS_t 1 B1 rfl ?_
    refine out_t (b := bk5) (i := 0) (by first | rfl | exact Sp.add_off) (fun hv_ => (by replace hv_ : _ ∧ _ := hv_; omega)) ?_
    refine ldB_t 0 B5 rfl ?_
    refine ldS_t 1 B5 rfl ?_
    refine out_t (b := bk2) (i := 0) (by first | rfl | exact Sp.add_off) (fun hv_ => (by replace hv_ : _ ∧ _ := hv_; omega)) ?_
    refine ldB_t 0 B2 rfl ?_
    refine ldS_t 1 B2 rfl ?_
    replace h := h _ X A
    refine Calls.mono h ?_
    clear h
    rintro e6 w10 ⟨b5, s6, he_, ha_w10, h⟩
    refine ⟨b5, s6, he_, ?_⟩
    clear he_
    replace B1 := B1.ahead ha_w10
    replace B2 := B2.ahead ha_w10
    replace B3 := B3.ahead ha_w10
    replace B4 := B4.ahead ha_w10
    replace B5 := B5.ahead ha_w10
    replace Y_ := Nat.le_trans Y_ ha_w10.size
    replace A := A.trans ha_w10
    replace X := X.trans (Ext.of_ahead ha_w10)
    replace X : Ext w10 w10 := Ext.refl _
    refine ⟨(Bar.of_ahead ha_w10), ?_⟩
    refine ⟨(Bar.of_ahead ha_w10), ?_⟩
    refine Calls.mono h ?_
    clear h
    rintro e7 w11 ⟨b6, s7, he_, ha_w11, h⟩
    refine ⟨b6, s7, he_, ?_⟩
    clear he_
    replace B1 := B1.ahead ha_w11
    replace B2 := B2.ahead ha_w11
    replace B3 := B3.ahead ha_w11
    replace B4 := B4.ahead ha_w11
    replace B5 := B5.ahead ha_w11
    replace Y_ := Nat.le_trans Y_ ha_w11.size
    replace A := A.trans ha_w11
    replace X := X.trans (Ext.of_ahead ha_w11)
    replace X : Ext w11 w11 := Ext.refl _
    refine ⟨(Bar.of_ahead ha_w11), ?_⟩
    refine stC_t 0 B3 rfl rfl rfl fun u13 k_u13 B3_ => ?_
    replace B3 : Blt u13 bk3 44 #[Value.bool t6_q_0, t4_1.v] := B3_
    clear B3_
    refine stC_t 1 B3 rfl rfl rfl fun u14 k_u14 B3_ => ?_
    replace B3 : Blt u14 bk3 44 #[Value.bool t6_q_0, t6_q_1.v] := B3_
    clear B3_
    have kk_u13 := (k_u13.trans k_u14)
    replace B1 := kk_u13.blt B1 (by omega)
    replace B2 := kk_u13.blt B2 (by omega)
    replace B4 := kk_u13.blt B4 (by omega)
    replace B5 := kk_u13.blt B5 (by omega)
    replace A := kk_u13.ahead A g3
    replace X := X.trans kk_u13.ext
    replace Y_ := Nat.le_trans Y_ (Nat.le_of_eq kk_u13.size.symm)
    clear k_u14 k_u13
    refine stC_t 0 B4 rfl rfl rfl fun u15 k_u15 B4_ => ?_
    replace B4 : Blt u15 bk4 44 #[Value.bool b6, t5_1.v] := B4_
    clear B4_
    refine stC_t 1 B4 rfl rfl rfl fun u16 k_u16 B4_ => ?_
    replace B4 : Blt u16 bk4 44 #[Value.bool b6, s7.v] := B4_
    clear B4_
    have kk_u15 := (k_u15.trans k_u16)
    replace B1 := kk_u15.blt B1 (by omega)
    replace B2 := kk_u15.blt B2 (by omega)
    replace B3 := kk_u15.blt B3 (by omega)
    replace B5 := kk_u15.blt B5 (by omega)
    replace A := kk_u15.ahead A g4
    replace X := X.trans kk_u15.ext
    replace Y_ := Nat.le_trans Y_ (Nat.le_of_eq kk_u15.size.symm)
    clear k_u16 k_u15
    refine ldB_t 0 B3 rfl ?_
    refine ldS_t 1 B3 rfl ?_
    refine ldB_t 0 B4 rfl ?_
    refine ldS_t 1 B4 rfl ?_
    replace h := h _ X A
    exact ⟨A, h⟩

/-- surd/surdref08.Round: function 38, its local variables as values. -/
theorem surdref08_Round_v2 (a0_0 : Bool) (a0_1 : Slc) (a0_2 : Int) (a1 : Int) (a2 : Int) (w : World) (R : Ending → World → Prop)
    
    (h : ∀ w1, Ext w w1 → Ahead w w1 →
    (Calls Tryd.prog 28 #[Value.agg #[Value.bool a0_0, a0_1.v]] w1 fun e1 w2 =>
      ∃ x1 : Int, e1 = .returned (Value.int .i64 x1) ∧ Ahead w1 w2 ∧
      (br (x1 == 0)
        (∀ w3, Ext w2 w3 → Ahead w w3 →
          (R (.returned (Value.agg #[Value.bool a0_0, a0_1.v, Value.int .i64 a0_2])) w3))
        (br (decide (a1 ≤ a0_2))
          (∀ w4, Ext w2 w4 → Ahead w w4 →
            (R (.returned (Value.agg #[Value.bool a0_0, a0_1.v, Value.int .i64 a0_2])) w4))
          (Calls Tryd.prog 34 #[a0_1.v] w2 fun e2 w5 =>
            ∃ x2 : Int, e2 = .returned (Value.int .i64 x2) ∧ Ahead w2 w5 ∧
            (br (decide ((IntKind.i64.wrap (a1 - a0_2)) > (IntKind.i64.wrap (x2 + 2))))
              (br (a2 == 0)
                (br a0_0
                  (Calls Tryd.prog 29 #[Value.int .i64 (-1), Value.int .i64 a1] w5 fun e3 w6 =>
                    ∃ b1 : Bool, ∃ s1 : Slc, ∃ x3 : Int, e3 = .returned (Value.agg #[Value.bool b1, s1.v, Value.int .i64 x3]) ∧ Ahead w5 w6 ∧
                    (∀ w7, Ext w6 w7 → Ahead w w7 →
                      (R (.returned (Value.agg #[Value.bool b1, s1.v, Value.int .i64 x3])) w7)))
                  (br (a2 == 1)
                    (br (!a0_0)
                      (Calls Tryd.prog 29 #[Value.int .i64 1, Value.int .i64 a1] w5 fun e4 w8 =>
                        ∃ b2 : Bool, ∃ s2 : Slc, ∃ x4 : Int, e4 = .returned (Value.agg #[Value.bool b2, s2.v, Value.int .i64 x4]) ∧ Ahead w5 w8 ∧
                        (∀ w9, Ext w8 w9 → Ahead w w9 →
                          (R (.returned (Value.agg #[Value.bool b2, s2.v, Value.int .i64 x4])) w9)))
                      (∀ w10, Ext w5 w10 → Ahead w w10 →
                        (R (.returned (Value.agg #[Value.bool (false), ((⟨none, 0, 0⟩ : Slc)).v, Value.int .i64 (0 : Int)])) w10)))
                    (∀ w11, Ext w5 w11 → Ahead w w11 →
                      (R (.returned (Value.agg #[Value.bool (false), ((⟨none, 0, 0⟩ : Slc)).v, Value.int .i64 (0 : Int)])) w11))))
                (br (a2 == 1)
                  (br (!a0_0)
                    (Calls Tryd.prog 29 #[Value.int .i64 1, Value.int .i64 a1] w5 fun e5 w12 =>
                      ∃ b3 : Bool, ∃ s3 : Slc, ∃ x5 : Int, e5 = .returned (Value.agg #[Value.bool b3, s3.v, Value.int .i64 x5]) ∧ Ahead w5 w12 ∧
                      (∀ w13, Ext w12 w13 → Ahead w w13 →
                        (R (.returned (Value.agg #[Value.bool b3, s3.v, Value.int .i64 x5])) w13)))
                    (∀ w14, Ext w5 w14 → Ahead w w14 →
                      (R (.returned (Value.agg #[Value.bool (false), ((⟨none, 0, 0⟩ : Slc)).v, Value.int .i64 (0 : Int)])) w14)))
                  (∀ w15, Ext w5 w15 → Ahead w w15 →
                    (R (.returned (Value.agg #[Value.bool (false), ((⟨none, 0, 0⟩ : Slc)).v, Value.int .i64 (0 : Int)])) w15))))
              (Calls Tryd.prog 52 #[Value.int .i64 1] w5 fun e6 w16 =>
                ∃ s4 : Slc, e6 = .returned s4.v ∧ Ahead w5 w16 ∧
                (Calls Tryd.prog 54 #[s4.v, Value.int .i64 (IntKind.i64.wrap (a1 - a0_2))] w16 fun e7 w17 =>
                  ∃ s5 : Slc, e7 = .returned s5.v ∧ Ahead w16 w17 ∧
                  (br (a2 == 0)
                    (∀ w18, Ext w17 w18 → Ahead w w18 →
                      (Calls Tryd.prog 81 #[Value.agg #[Value.bool a0_0, a0_1.v], Value.agg #[Value.bool (false), s5.v]] w18 fun e8 w19 =>
                        ∃ b4 : Bool, ∃ s6 : Slc, ∃ b5 : Bool, ∃ s7 : Slc, e8 = .returned (Value.tuple #[Value.agg #[Value.bool b4, s6.v], Value.agg #[Value.bool b5, s7.v]]) ∧ Ahead w18 w19 ∧
                        (∀ w20, Ext w19 w20 → Ahead w w20 →
                          (Calls Tryd.prog 22 #[Value.agg #[Value.bool b4, s6.v], Value.int .i64 a1] w20 fun e9 w21 =>
                            ∃ b6 : Bool, ∃ s8 : Slc, ∃ x6 : Int, e9 = .returned (Value.agg #[Value.bool b6, s8.v, Value.int .i64 x6]) ∧ Ahead w20 w21 ∧
                            (∀ w22, Ext w21 w22 → Ahead w w22 →
                              (R (.returned (Value.agg #[Value.bool b6, s8.v, Value.int .i64 x6])) w22))))))
                    (br (a2 == 1)
                      (∀ w23, Ext w17 w23 → Ahead w w23 →
                        (Calls Tryd.prog 82 #[Value.agg #[Value.bool a0_0, a0_1.v], Value.agg #[Value.bool (false), s5.v]] w23 fun e10 w24 =>
                          ∃ b7 : Bool, ∃ s9 : Slc, ∃ b8 : Bool, ∃ s10 : Slc, e10 = .returned (Value.tuple #[Value.agg #[Value.bool b7, s9.v], Value.agg #[Value.bool b8, s10.v]]) ∧ Ahead w23 w24 ∧
                          (∀ w25, Ext w24 w25 → Ahead w w25 →
                            (Calls Tryd.prog 22 #[Value.agg #[Value.bool b7, s9.v], Value.int .i64 a1] w25 fun e11 w26 =>
                              ∃ b9 : Bool, ∃ s11 : Slc, ∃ x7 : Int, e11 = .returned (Value.agg #[Value.bool b9, s11.v, Value.int .i64 x7]) ∧ Ahead w25 w26 ∧
                              (∀ w27, Ext w26 w27 → Ahead w w27 →
                                (R (.returned (Value.agg #[Value.bool b9, s11.v, Value.int .i64 x7])) w27))))))
                      (∀ w28, Ext w17 w28 → Ahead w w28 →
                        (Calls Tryd.prog 83 #[Value.agg #[Value.bool a0_0, a0_1.v], Value.agg #[Value.bool (false), s5.v]] w28 fun e12 w29 =>
                          ∃ b10 : Bool, ∃ s12 : Slc, ∃ b11 : Bool, ∃ s13 : Slc, e12 = .returned (Value.tuple #[Value.agg #[Value.bool b10, s12.v], Value.agg #[Value.bool b11, s13.v]]) ∧ Ahead w28 w29 ∧
                          (∀ w30, Ext w29 w30 → Ahead w w30 →
                            (Calls Tryd.prog 22 #[Value.agg #[Value.bool b10, s12.v], Value.int .i64 a1] w30 fun e13 w31 =>
                              ∃ b12 : Bool, ∃ s14 : Slc, ∃ x8 : Int, e13 = .returned (Value.agg #[Value.bool b12, s14.v, Value.int .i64 x8]) ∧ Ahead w30 w31 ∧
                              (∀ w32, Ext w31 w32 → Ahead w w32 →
                                (R (.returned (Value.agg #[Value.bool b12, s14.v, Value.int .i64 x8])) w32))))))))))))))))
     :
    Calls Tryd.prog 38 #[Value.agg #[Value.bool a0_0, a0_1.v, Value.int .i64 a0_2], Value.int .i64 a1, Value.int .i64 a2] w (fun e_ w_ => Ahead w w_ ∧ R e_ w_) := by
  refine surdref08_Round_vc a0_0 a0_1 a0_2 a1 a2 w _  ?_
  · have A : Ahead w w := Ahead.refl w
    have X : Ext w w := Ext.refl w
    refine newC_t fun bk1 u1 hb1 ha_u1 hs B1 => ?_
    have g1 : w.heap.size ≤ bk1 := by have := A.size; omega
    replace A := A.trans ha_u1
    replace X := X.trans (Ext.of_ahead ha_u1)
    clear hs hb1
    refine newC_t fun bk2 u2 hb2 ha_u2 hs B2 => ?_
    have g2 : w.heap.size ≤ bk2 := by have := A.size; omega
    have l1_2 : bk1 < bk2 := by have := B1.lt; omega
    replace B1 := B1.ahead ha_u2
    replace A := A.trans ha_u2
    replace X := X.trans (Ext.of_ahead ha_u2)
    clear hs hb2
    refine ldB_t 0 B1 rfl ?_
    refine ldS_t 1 B1 rfl ?_
    replace h := h _ X A
    refine Calls.mono h ?_
    clear h
    rintro e1 w2 ⟨x1, he_, ha_w2, h⟩
    refine ⟨x1, he_, ?_⟩
    clear he_
    replace B1 := B1.ahead ha_w2
    replace B2 := B2.ahead ha_w2
    replace A := A.trans ha_w2
    replace X := X.trans (Ext.of_ahead ha_w2)
    replace X : Ext w2 w2 := Ext.refl _
    refine br_map h (fun h_ => ?_) (fun h_ => ?_)
    · skip
      clear h
      have h := h_
      clear h_
      refine ldB_t 0 B1 rfl ?_
      refine ldS_t 1 B1 rfl ?_
      refine ldI_t 2 B1 rfl ?_
      refine stC_t 0 B2 rfl rfl rfl fun u3 k_u3 B2_ => ?_
      replace B2 : Blt u3 bk2 47 #[Value.bool a0_0, (⟨none, 0, 0⟩ : Slc).v, Value.int .i64 0] := B2_
      clear B2_
      refine stC_t 1 B2 rfl rfl rfl fun u4 k_u4 B2_ => ?_
      replace B2 : Blt u4 bk2 47 #[Value.bool a0_0, a0_1.v, Value.int .i64 0] := B2_
      clear B2_
      refine stC_t 2 B2 rfl rfl rfl fun u5 k_u5 B2_ => ?_
      replace B2 : Blt u5 bk2 47 #[Value.bool a0_0, a0_1.v, Value.int .i64 a0_2] := B2_
      clear B2_
      have kk_u3 := ((k_u3.trans k_u4).trans k_u5)
      replace B1 := kk_u3.blt B1 (by omega)
      replace A := kk_u3.ahead A g2
      replace X := X.trans kk_u3.ext
      clear k_u5 k_u4 k_u3
      refine ldB_t 0 B2 rfl ?_
      refine ldS_t 1 B2 rfl ?_
      refine ldI_t 2 B2 rfl ?_
      replace h := h _ X A
      exact ⟨A, h⟩
    · skip
      clear h
      have h := h_
      clear h_
      refine ldI_t 2 B1 rfl ?_
      refine br_map h (fun h_ => ?_) (fun h_ => ?_)
      · skip
        clear h
        have h := h_
        clear h_
        refine ldB_t 0 B1 rfl ?_
        refine ldS_t 1 B1 rfl ?_
        refine ldI_t 2 B1 rfl ?_
        refine stC_t 0 B2 rfl rfl rfl fun u6 k_u6 B2_ => ?_
        replace B2 : Blt u6 bk2 47 #[Value.bool a0_0, (⟨none, 0, 0⟩ : Slc).v, Value.int .i64 0] := B2_
        clear B2_
        refine stC_t 1 B2 rfl rfl rfl fun u7 k_u7 B2_ => ?_
        replace B2 : Blt u7 bk2 47 #[Value.bool a0_0, a0_1.v, Value.int .i64 0] := B2_
        clear B2_
        refine stC_t 2 B2 rfl rfl rfl fun u8 k_u8 B2_ => ?_
        replace B2 : Blt u8 bk2 47 #[Value.bool a0_0, a0_1.v, Value.int .i64 a0_2] := B2_
        clear B2_
        have kk_u6 := ((k_u6.trans k_u7).trans k_u8)
        replace B1 := kk_u6.blt B1 (by omega)
        replace A := kk_u6.ahead A g2
        replace X := X.trans kk_u6.ext
        clear k_u8 k_u7 k_u6
        refine ldB_t 0 B2 rfl ?_
        refine ldS_t 1 B2 rfl ?_
        refine ldI_t 2 B2 rfl ?_
        replace h := h _ X A
        exact ⟨A, h⟩
      · skip
        clear h
        have h := h_
        clear h_
        refine ldI_t 2 B1 rfl ?_
        refine ldS_t 1 B1 rfl ?_
        refine Calls.mono h ?_
        clear h
        rintro e2 w5 ⟨x2, he_, ha_w5, h⟩
        refine ⟨x2, he_, ?_⟩
        clear he_
        replace B1 := B1.ahead ha_w5
        replace B2 := B2.ahead ha_w5
        replace A := A.trans ha_w5
        replace X := X.trans (Ext.of_ahead ha_w5)
        replace X : Ext w5 w5 := Ext.refl _
        refine br_map h (fun h_ => ?_) (fun h_ => ?_)
        · skip
          clear h
          have h := h_
          clear h_
          refine br_map h (fun h_ => ?_) (fun h_ => ?_)
          · skip
            clear h
            have h := h_
            clear h_
            refine ldB_t 0 B1 rfl ?_
            refine br_map h (fun h_ => ?_) (fun h_ => ?_)
            · skip
              clear h
              have h := h_
              clear h_
              refine Calls.mono h ?_
              clear h
              rintro e3 w6 ⟨b1, s1, x3, he_, ha_w6, h⟩
              refine ⟨b1, s1, x3, he_, ?_⟩
              clear he_
              replace B1 := B1.ahead ha_w6
              replace B2 := B2.ahead ha_w6
              replace A := A.trans ha_w6
              replace X := X.trans (Ext.of_ahead ha_w6)
              replace X : Ext w6 w6 := Ext.refl _
              refine stC_t 0 B2 rfl rfl rfl fun u9 k_u9 B2_ => ?_
              replace B2 : Blt u9 bk2 47 #[Value.bool b1, (⟨none, 0, 0⟩ : Slc).v, Value.int .i64 0] := B2_
              clear B2_
              refine stC_t 1 B2 rfl rfl rfl fun u10 k_u10 B2_ => ?_
              replace B2 : Blt u10 bk2 47 #[Value.bool b1, s1.v, Value.int .i64 0] := B2_
              clear B2_
              refine stC_t 2 B2 rfl rfl rfl fun u11 k_u11 B2_ => ?_
              replace B2 : Blt u11 bk2 47 #[Value.bool b1, s1.v, Value.int .i64 x3] := B2_
              clear B2_
              have kk_u9 := ((k_u9.trans k_u10).trans k_u11)
              replace B1 := kk_u9.blt B1 (by omega)
              replace A := kk_u9.ahead A g2
              replace X := X.trans kk_u9.ext
              clear k_u11 k_u10 k_u9
              refine ldB_t 0 B2 rfl ?_
              refine ldS_t 1 B2 rfl ?_
              refine ldI_t 2 B2 rfl ?_
              replace h := h _ X A
              exact ⟨A, h⟩
            · skip
              clear h
              have h := h_
              clear h_
              refine br_map h (fun h_ => ?_) (fun h_ => ?_)
              · skip
                clear h
                have h := h_
                clear h_
                refine ldB_t 0 B1 rfl ?_
                refine br_map h (fun h_ => ?_) (fun h_ => ?_)
                · skip
                  clear h
                  have h := h_
                  clear h_
                  refine Calls.mono h ?_
                  clear h
                  rintro e4 w8 ⟨b2, s2, x4, he_, ha_w8, h⟩
                  refine ⟨b2, s2, x4, he_, ?_⟩
                  clear he_
                  replace B1 := B1.ahead ha_w8
                  replace B2 := B2.ahead ha_w8
                  replace A := A.trans ha_w8
                  replace X := X.trans (Ext.of_ahead ha_w8)
                  replace X : Ext w8 w8 := Ext.refl _
                  refine stC_t 0 B2 rfl rfl rfl fun u12 k_u12 B2_ => ?_
                  replace B2 : Blt u12 bk2 47 #[Value.bool b2, (⟨none, 0, 0⟩ : Slc).v, Value.int .i64 0] := B2_
                  clear B2_
                  refine stC_t 1 B2 rfl rfl rfl fun u13 k_u13 B2_ => ?_
                  replace B2 : Blt u13 bk2 47 #[Value.bool b2, s2.v, Value.int .i64 0] := B2_
                  clear B2_
                  refine stC_t 2 B2 rfl rfl rfl fun u14 k_u14 B2_ => ?_
                  replace B2 : Blt u14 bk2 47 #[Value.bool b2, s2.v, Value.int .i64 x4] := B2_
                  clear B2_
                  have kk_u12 := ((k_u12.trans k_u13).trans k_u14)
                  replace B1 := kk_u12.blt B1 (by omega)
                  replace A := kk_u12.ahead A g2
                  replace X := X.trans kk_u12.ext
                  clear k_u14 k_u13 k_u12
                  refine ldB_t 0 B2 rfl ?_
                  refine ldS_t 1 B2 rfl ?_
                  refine ldI_t 2 B2 rfl ?_
                  replace h := h _ X A
                  exact ⟨A, h⟩
                · skip
                  clear h
                  have h := h_
                  clear h_
                  refine stC_t 0 B2 rfl rfl rfl fun u15 k_u15 B2_ => ?_
                  replace B2 : Blt u15 bk2 47 #[Value.bool false, (⟨none, 0, 0⟩ : Slc).v, Value.int .i64 0] := B2_
                  clear B2_
                  refine stC_t 1 B2 rfl rfl rfl fun u16 k_u16 B2_ => ?_
                  replace B2 : Blt u16 bk2 47 #[Value.bool false, (⟨none, 0, 0⟩ : Slc).v, Value.int .i64 0] := B2_
                  clear B2_
                  refine stC_t 2 B2 rfl rfl rfl fun u17 k_u17 B2_ => ?_
                  replace B2 : Blt u17 bk2 47 #[Value.bool false, (⟨none, 0, 0⟩ : Slc).v, Value.int .i64 0] := B2_
                  clear B2_
                  have kk_u15 := ((k_u15.trans k_u16).trans k_u17)
                  replace B1 := kk_u15.blt B1 (by omega)
                  replace A := kk_u15.ahead A g2
                  replace X := X.trans kk_u15.ext
                  clear k_u17 k_u16 k_u15
                  refine ldB_t 0 B2 rfl ?_
                  refine ldS_t 1 B2 rfl ?_
                  refine ldI_t 2 B2 rfl ?_
                  replace h := h _ X A
                  exact ⟨A, h⟩
              · skip
                clear h
                have h := h_
                clear h_
                refine stC_t 0 B2 rfl rfl rfl fun u18 k_u18 B2_ => ?_
                replace B2 : Blt u18 bk2 47 #[Value.bool false, (⟨none, 0, 0⟩ : Slc).v, Value.int .i64 0] := B2_
                clear B2_
                refine stC_t 1 B2 rfl rfl rfl fun u19 k_u19 B2_ => ?_
                replace B2 : Blt u19 bk2 47 #[Value.bool false, (⟨none, 0, 0⟩ : Slc).v, Value.int .i64 0] := B2_
                clear B2_
                refine stC_t 2 B2 rfl rfl rfl fun u20 k_u20 B2_ => ?_
                replace B2 : Blt u20 bk2 47 #[Value.bool false, (⟨none, 0, 0⟩ : Slc).v, Value.int .i64 0] := B2_
                clear B2_
                have kk_u18 := ((k_u18.trans k_u19).trans k_u20)
                replace B1 := kk_u18.blt B1 (by omega)
                replace A := kk_u18.ahead A g2
                replace X := X.trans kk_u18.ext
                clear k_u20 k_u19 k_u18
                refine ldB_t 0 B2 rfl ?_
                refine ldS_t 1 B2 rfl ?_
                refine ldI_t 2 B2 rfl ?_
                replace h := h _ X A
                exact ⟨A, h⟩
          · skip
            clear h
            have h := h_
            clear h_
            refine br_map h (fun h_ => ?_) (fun h_ => ?_)
            · skip
              clear h
              have h := h_
              clear h_
              refine ldB_t 0 B1 rfl ?_
              refine br_map h (fun h_ => ?_) (fun h_ => ?_)
              · skip
                clear h
                have h := h_
                clear h_
                refine Calls.mono h ?_
                clear h
                rintro e5 w12 ⟨b3, s3, x5, he_, ha_w12, h⟩
                refine ⟨b3, s3, x5, he_, ?_⟩
                clear he_
                replace B1 := B1.ahead ha_w12
                replace B2 := B2.ahead ha_w12
                replace A := A.trans ha_w12
                replace X := X.trans (Ext.of_ahead ha_w12)
                replace X : Ext w12 w12 := Ext.refl _
                refine stC_t 0 B2 rfl rfl rfl fun u21 k_u21 B2_ => ?_
                replace B2 : Blt u21 bk2 47 #[Value.bool b3, (⟨none, 0, 0⟩ : Slc).v, Value.int .i64 0] := B2_
                clear B2_
                refine stC_t 1 B2 rfl rfl rfl fun u22 k_u22 B2_ => ?_
                replace B2 : Blt u22 bk2 47 #[Value.bool b3, s3.v, Value.int .i64 0] := B2_
                clear B2_
                refine stC_t 2 B2 rfl rfl rfl fun u23 k_u23 B2_ => ?_
                replace B2 : Blt u23 bk2 47 #[Value.bool b3, s3.v, Value.int .i64 x5] := B2_
                clear B2_
                have kk_u21 := ((k_u21.trans k_u22).trans k_u23)
                replace B1 := kk_u21.blt B1 (by omega)
                replace A := kk_u21.ahead A g2
                replace X := X.trans kk_u21.ext
                clear k_u23 k_u22 k_u21
                refine ldB_t 0 B2 rfl ?_
                refine ldS_t 1 B2 rfl ?_
                refine ldI_t 2 B2 rfl ?_
                replace h := h _ X A
                exact ⟨A, h⟩
              · skip
                clear h
                have h := h_
                clear h_
                refine stC_t 0 B2 rfl rfl rfl fun u24 k_u24 B2_ => ?_
                replace B2 : Blt u24 bk2 47 #[Value.bool false, (⟨none, 0, 0⟩ : Slc).v, Value.int .i64 0] := B2_
                clear B2_
                refine stC_t 1 B2 rfl rfl rfl fun u25 k_u25 B2_ => ?_
                replace B2 : Blt u25 bk2 47 #[Value.bool false, (⟨none, 0, 0⟩ : Slc).v, Value.int .i64 0] := B2_
                clear B2_
                refine stC_t 2 B2 rfl rfl rfl fun u26 k_u26 B2_ => ?_
                replace B2 : Blt u26 bk2 47 #[Value.bool false, (⟨none, 0, 0⟩ : Slc).v, Value.int .i64 0] := B2_
                clear B2_
                have kk_u24 := ((k_u24.trans k_u25).trans k_u26)
                replace B1 := kk_u24.blt B1 (by omega)
                replace A := kk_u24.ahead A g2
                replace X := X.trans kk_u24.ext
                clear k_u26 k_u25 k_u24
                refine ldB_t 0 B2 rfl ?_
                refine ldS_t 1 B2 rfl ?_
                refine ldI_t 2 B2 rfl ?_
                replace h := h _ X A
                exact ⟨A, h⟩
            · skip
              clear h
              have h := h_
              clear h_
              refine stC_t 0 B2 rfl rfl rfl fun u27 k_u27 B2_ => ?_
              replace B2 : Blt u27 bk2 47 #[Value.bool false, (⟨none, 0, 0⟩ : Slc).v, Value.int .i64 0] := B2_
              clear B2_
              refine stC_t 1 B2 rfl rfl rfl fun u28 k_u28 B2_ => ?_
              replace B2 : Blt u28 bk2 47 #[Value.bool false, (⟨none, 0, 0⟩ : Slc).v, Value.int .i64 0] := B2_
              clear B2_
              refine stC_t 2 B2 rfl rfl rfl fun u29 k_u29 B2_ => ?_
              replace B2 : Blt u29 bk2 47 #[Value.bool false, (⟨none, 0, 0⟩ : Slc).v, Value.int .i64 0] := B2_
              clear B2_
              have kk_u27 := ((k_u27.trans k_u28).trans k_u29)
              replace B1 := kk_u27.blt B1 (by omega)
              replace A := kk_u27.ahead A g2
              replace X := X.trans kk_u27.ext
              clear k_u29 k_u28 k_u27
              refine ldB_t 0 B2 rfl ?_
              refine ldS_t 1 B2 rfl ?_
              refine ldI_t 2 B2 rfl ?_
              replace h := h _ X A
              exact ⟨A, h⟩
        · skip
          clear h
          have h := h_
          clear h_
          refine Calls.mono h ?_
          clear h
          rintro e6 w16 ⟨s4, he_, ha_w16, h⟩
          refine ⟨s4, he_, ?_⟩
          clear he_
          replace B1 := B1.ahead ha_w16
          replace B2 := B2.ahead ha_w16
          replace A := A.trans ha_w16
          replace X := X.trans (Ext.of_ahead ha_w16)
          replace X : Ext w16 w16 := Ext.refl _
          refine Calls.mono h ?_
          clear h
          rintro e7 w17 ⟨s5, he_, ha_w17, h⟩
          refine ⟨s5, he_, ?_⟩
          clear he_
          replace B1 := B1.ahead ha_w17
          replace B2 := B2.ahead ha_w17
          replace A := A.trans ha_w17
          replace X := X.trans (Ext.of_ahead ha_w17)
          replace X : Ext w17 w17 := Ext.refl _
          refine newC_t fun bk3 u30 hb3 ha_u30 hs B3 => ?_
          have g3 : w.heap.size ≤ bk3 := by have := A.size; omega
          have l1_3 : bk1 < bk3 := by have := B1.lt; omega
          have l2_3 : bk2 < bk3 := by have := B2.lt; omega
          replace B1 := B1.ahead ha_u30
          replace B2 := B2.ahead ha_u30
          replace A := A.trans ha_u30
          replace X := X.trans (Ext.of_ahead ha_u30)
          clear hs hb3
          refine stC_t 0 B3 rfl rfl rfl fun u31 k_u31 B3_ => ?_
          replace B3 : Blt u31 bk3 44 #[Value.bool false, (⟨none, 0, 0⟩ : Slc).v] := B3_
          clear B3_
          refine stC_t 1 B3 rfl rfl rfl fun u32 k_u32 B3_ => ?_
          replace B3 : Blt u32 bk3 44 #[Value.bool false, s5.v] := B3_
          clear B3_
          have kk_u31 := (k_u31.trans k_u32)
          replace B1 := kk_u31.blt B1 (by omega)
          replace B2 := kk_u31.blt B2 (by omega)
          replace A := kk_u31.ahead A g3
          replace X := X.trans kk_u31.ext
          clear k_u32 k_u31
          refine newC_t fun bk4 u33 hb4 ha_u33 hs B4 => ?_
          have g4 : w.heap.size ≤ bk4 := by have := A.size; omega
          have l1_4 : bk1 < bk4 := by have := B1.lt; omega
          have l2_4 : bk2 < bk4 := by have := B2.lt; omega
          have l3_4 : bk3 < bk4 := by have := B3.lt; omega
          replace B1 := B1.ahead ha_u33
          replace B2 := B2.ahead ha_u33
          replace B3 := B3.ahead ha_u33
          replace A := A.trans ha_u33
          replace X := X.trans (Ext.of_ahead ha_u33)
          clear hs hb4
          refine stC_t 0 B4 rfl rfl rfl fun u34 k_u34 B4_ => ?_
          replace B4 : Blt u34 bk4 44 #[Value.bool false, (⟨none, 0, 0⟩ : Slc).v] := B4_
          clear B4_
          refine stC_t 1 B4 rfl rfl rfl fun u35 k_u35 B4_ => ?_
          replace B4 : Blt u35 bk4 44 #[Value.bool false, (⟨none, 0, 0⟩ : Slc).v] := B4_
          clear B4_
          have kk_u34 := (k_u34.trans k_u35)
          replace B1 := kk_u34.blt B1 (by omega)
          replace B2 := kk_u34.blt B2 (by omega)
          replace B3 := kk_u34.blt B3 (by omega)
          replace A := kk_u34.ahead A g4
          replace X := X.trans kk_u34.ext
          clear k_u35 k_u34
          refine br_map h (fun h_ => ?_) (fun h_ => ?_)
          · skip
            clear h
            have h := h_
            clear h_
            refine ldB_t 0 B1 rfl ?_
            refine ldS_t 1 B1 rfl ?_
            refine ldB_t 0 B3 rfl ?_
            refine ldS_t 1 B3 rfl ?_
            replace h := h _ X A
            refine Calls.mono h ?_
            clear h
            rintro e8 w19 ⟨b4, s6, b5, s7, he_, ha_w19, h⟩
            refine ⟨b4, s6, b5, s7, he_, ?_⟩
            clear he_
            replace B1 := B1.ahead ha_w19
            replace B2 := B2.ahead ha_w19
            replace B3 := B3.ahead ha_w19
            replace B4 := B4.ahead ha_w19
            replace A := A.trans ha_w19
            replace X := X.trans (Ext.of_ahead ha_w19)
            replace X : Ext w19 w19 := Ext.refl _
            refine stC_t 0 B4 rfl rfl rfl fun u36 k_u36 B4_ => ?_
            replace B4 : Blt u36 bk4 44 #[Value.bool b4, (⟨none, 0, 0⟩ : Slc).v] := B4_
            clear B4_
            refine stC_t 1 B4 rfl rfl rfl fun u37 k_u37 B4_ => ?_
            replace B4 : Blt u37 bk4 44 #[Value.bool b4, s6.v] := B4_
            clear B4_
            have kk_u36 := (k_u36.trans k_u37)
            replace B1 := kk_u36.blt B1 (by omega)
            replace B2 := kk_u36.blt B2 (by omega)
            replace B3 := kk_u36.blt B3 (by omega)
            replace A := kk_u36.ahead A g4
            replace X := X.trans kk_u36.ext
            clear k_u37 k_u36
            refine ldB_t 0 B4 rfl ?_
            refine ldS_t 1 B4 rfl ?_
            replace h := h _ X A
            refine Calls.mono h ?_
            clear h
            rintro e9 w21 ⟨b6, s8, x6, he_, ha_w21, h⟩
            refine ⟨b6, s8, x6, he_, ?_⟩
            clear he_
            replace B1 := B1.ahead ha_w21
            replace B2 := B2.ahead ha_w21
            replace B3 := B3.ahead ha_w21
            replace B4 := B4.ahead ha_w21
            replace A := A.trans ha_w21
            replace X := X.trans (Ext.of_ahead ha_w21)
            replace X : Ext w21 w21 := Ext.refl _
            refine stC_t 0 B2 rfl rfl rfl fun u38 k_u38 B2_ => ?_
            replace B2 : Blt u38 bk2 47 #[Value.bool b6, (⟨none, 0, 0⟩ : Slc).v, Value.int .i64 0] := B2_
            clear B2_
            refine stC_t 1 B2 rfl rfl rfl fun u39 k_u39 B2_ => ?_
            replace B2 : Blt u39 bk2 47 #[Value.bool b6, s8.v, Value.int .i64 0] := B2_
            clear B2_
            refine stC_t 2 B2 rfl rfl rfl fun u40 k_u40 B2_ => ?_
            replace B2 : Blt u40 bk2 47 #[Value.bool b6, s8.v, Value.int .i64 x6] := B2_
            clear B2_
            have kk_u38 := ((k_u38.trans k_u39).trans k_u40)
            replace B1 := kk_u38.blt B1 (by omega)
            replace B3 := kk_u38.blt B3 (by omega)
            replace B4 := kk_u38.blt B4 (by omega)
            replace A := kk_u38.ahead A g2
            replace X := X.trans kk_u38.ext
            clear k_u40 k_u39 k_u38
            refine ldB_t 0 B2 rfl ?_
            refine ldS_t 1 B2 rfl ?_
            refine ldI_t 2 B2 rfl ?_
            replace h := h _ X A
            exact ⟨A, h⟩
          · skip
            clear h
            have h := h_
            clear h_
            refine br_map h (fun h_ => ?_) (fun h_ => ?_)
            · skip
              clear h
              have h := h_
              clear h_
              refine ldB_t 0 B1 rfl ?_
              refine ldS_t 1 B1 rfl ?_
              refine ldB_t 0 B3 rfl ?_
              refine ldS_t 1 B3 rfl ?_
              replace h := h _ X A
              refine Calls.mono h ?_
              clear h
              rintro e10 w24 ⟨b7, s9, b8, s10, he_, ha_w24, h⟩
              refine ⟨b7, s9, b8, s10, he_, ?_⟩
              clear he_
              replace B1 := B1.ahead ha_w24
              replace B2 := B2.ahead ha_w24
              replace B3 := B3.ahead ha_w24
              replace B4 := B4.ahead ha_w24
              replace A := A.trans ha_w24
              replace X := X.trans (Ext.of_ahead ha_w24)
              replace X : Ext w24 w24 := Ext.refl _
              refine stC_t 0 B4 rfl rfl rfl fun u41 k_u41 B4_ => ?_
              replace B4 : Blt u41 bk4 44 #[Value.bool b7, (⟨none, 0, 0⟩ : Slc).v] := B4_
              clear B4_
              refine stC_t 1 B4 rfl rfl rfl fun u42 k_u42 B4_ => ?_
              replace B4 : Blt u42 bk4 44 #[Value.bool b7, s9.v] := B4_
              clear B4_
              have kk_u41 := (k_u41.trans k_u42)
              replace B1 := kk_u41.blt B1 (by omega)
              replace B2 := kk_u41.blt B2 (by omega)
              replace B3 := kk_u41.blt B3 (by omega)
              replace A := kk_u41.ahead A g4
              replace X := X.trans kk_u41.ext
              clear k_u42 k_u41
              refine ldB_t 0 B4 rfl ?_
              refine ldS_t 1 B4 rfl ?_
              replace h := h _ X A
              refine Calls.mono h ?_
              clear h
              rintro e11 w26 ⟨b9, s11, x7, he_, ha_w26, h⟩
              refine ⟨b9, s11, x7, he_, ?_⟩
              clear he_
              replace B1 := B1.ahead ha_w26
              replace B2 := B2.ahead ha_w26
              replace B3 := B3.ahead ha_w26
              replace B4 := B4.ahead ha_w26
              replace A := A.trans ha_w26
              replace X := X.trans (Ext.of_ahead ha_w26)
              replace X : Ext w26 w26 := Ext.refl _
              refine stC_t 0 B2 rfl rfl rfl fun u43 k_u43 B2_ => ?_
              replace B2 : Blt u43 bk2 47 #[Value.bool b9, (⟨none, 0, 0⟩ : Slc).v, Value.int .i64 0] := B2_
              clear B2_
              refine stC_t 1 B2 rfl rfl rfl fun u44 k_u44 B2_ => ?_
              replace B2 : Blt u44 bk2 47 #[Value.bool b9, s11.v, Value.int .i64 0] := B2_
              clear B2_
              refine stC_t 2 B2 rfl rfl rfl fun u45 k_u45 B2_ => ?_
              replace B2 : Blt u45 bk2 47 #[Value.bool b9, s11.v, Value.int .i64 x7] := B2_
              clear B2_
              have kk_u43 := ((k_u43.trans k_u44).trans k_u45)
              replace B1 := kk_u43.blt B1 (by omega)
              replace B3 := kk_u43.blt B3 (by omega)
              replace B4 := kk_u43.blt B4 (by omega)
              replace A := kk_u43.ahead A g2
              replace X := X.trans kk_u43.ext
              clear k_u45 k_u44 k_u43
              refine ldB_t 0 B2 rfl ?_
              refine ldS_t 1 B2 rfl ?_
              refine ldI_t 2 B2 rfl ?_
              replace h := h _ X A
              exact ⟨A, h⟩
            · skip
              clear h
              have h := h_
              clear h_
              refine ldB_t 0 B1 rfl ?_
              refine ldS_t 1 B1 rfl ?_
              refine ldB_t 0 B3 rfl ?_
              refine ldS_t 1 B3 rfl ?_
              replace h := h _ X A
              refine Calls.mono h ?_
              clear h
              rintro e12 w29 ⟨b10, s12, b11, s13, he_, ha_w29, h⟩
              refine ⟨b10, s12, b11, s13, he_, ?_⟩
              clear he_
              replace B1 := B1.ahead ha_w29
              replace B2 := B2.ahead ha_w29
              replace B3 := B3.ahead ha_w29
              replace B4 := B4.ahead ha_w29
              replace A := A.trans ha_w29
              replace X := X.trans (Ext.of_ahead ha_w29)
              replace X : Ext w29 w29 := Ext.refl _
              refine stC_t 0 B4 rfl rfl rfl fun u46 k_u46 B4_ => ?_
              replace B4 : Blt u46 bk4 44 #[Value.bool b10, (⟨none, 0, 0⟩ : Slc).v] := B4_
              clear B4_
              refine stC_t 1 B4 rfl rfl rfl fun u47 k_u47 B4_ => ?_
              replace B4 : Blt u47 bk4 44 #[Value.bool b10, s12.v] := B4_
              clear B4_
              have kk_u46 := (k_u46.trans k_u47)
              replace B1 := kk_u46.blt B1 (by omega)
              replace B2 := kk_u46.blt B2 (by omega)
              replace B3 := kk_u46.blt B3 (by omega)
              replace A := kk_u46.ahead A g4
              replace X := X.trans kk_u46.ext
              clear k_u47 k_u46
              refine ldB_t 0 B4 rfl ?_
              refine ldS_t 1 B4 rfl ?_
              replace h := h _ X A
              refine Calls.mono h ?_
              clear h
              rintro e13 w31 ⟨b12, s14, x8, he_, ha_w31, h⟩
              refine ⟨b12, s14, x8, he_, ?_⟩
              clear he_
              replace B1 := B1.ahead ha_w31
              replace B2 := B2.ahead ha_w31
              replace B3 := B3.ahead ha_w31
              replace B4 := B4.ahead ha_w31
              replace A := A.trans ha_w31
              replace X := X.trans (Ext.of_ahead ha_w31)
              replace X : Ext w31 w31 := Ext.refl _
              refine stC_t 0 B2 rfl rfl rfl fun u48 k_u48 B2_ => ?_
              replace B2 : Blt u48 bk2 47 #[Value.bool b12, (⟨none, 0, 0⟩ : Slc).v, Value.int .i64 0] := B2_
              clear B2_
              refine stC_t 1 B2 rfl rfl rfl fun u49 k_u49 B2_ => ?_
              replace B2 : Blt u49 bk2 47 #[Value.bool b12, s14.v, Value.int .i64 0] := B2_
              clear B2_
              refine stC_t 2 B2 rfl rfl rfl fun u50 k_u50 B2_ => ?_
              replace B2 : Blt u50 bk2 47 #[Value.bool b12, s14.v, Value.int .i64 x8] := B2_
              clear B2_
              have kk_u48 := ((k_u48.trans k_u49).trans k_u50)
              replace B1 := kk_u48.blt B1 (by omega)
              replace B3 := kk_u48.blt B3 (by omega)
              replace B4 := kk_u48.blt B4 (by omega)
              replace A := kk_u48.ahead A g2
              replace X := X.trans kk_u48.ext
              clear k_u50 k_u49 k_u48
              refine ldB_t 0 B2 rfl ?_
              refine ldS_t 1 B2 rfl ?_
              refine ldI_t 2 B2 rfl ?_
              replace h := h _ X A
              exact ⟨A, h⟩

/-- surd/surdlaw08.of: function 35, its local variables as values. -/
theorem surdlaw08_of_v2 (a0_a_0 : Bool) (a0_a_1 : Slc) (a0_a_2 : Int) (w : World) (R : Ending → World → Prop)
    
    (h : ∀ w1, Ext w w1 → Ahead w w1 →
    (Calls Tryd.prog 78 #[Value.int .i64 a0_a_2] w1 fun e1 w2 =>
      ∃ b1 : Bool, e1 = .returned (Value.bool b1) ∧ Ahead w1 w2 ∧
      (br (!b1)
        (∀ w3, Ext w2 w3 → Ahead w w3 →
          (R (.returned (Value.tuple #[Value.agg #[Value.bool (false), ((⟨none, 0, 0⟩ : Slc)).v, Value.int .i64 (0 : Int)], Value.bool false])) w3))
        (∀ w4, Ext w2 w4 → Ahead w w4 →
          (Calls Tryd.prog 21 #[Value.bool a0_a_0, a0_a_1.v] w4 fun e2 w5 =>
            ∃ b2 : Bool, ∃ s1 : Slc, e2 = .returned (Value.agg #[Value.bool b2, s1.v]) ∧ Ahead w4 w5 ∧
            (Calls Tryd.prog 22 #[Value.agg #[Value.bool b2, s1.v], Value.int .i64 a0_a_2] w5 fun e3 w6 =>
              ∃ b3 : Bool, ∃ s2 : Slc, ∃ x1 : Int, e3 = .returned (Value.agg #[Value.bool b3, s2.v, Value.int .i64 x1]) ∧ Ahead w5 w6 ∧
              (∀ w7, Ext w6 w7 → Ahead w w7 →
                (R (.returned (Value.tuple #[Value.agg #[Value.bool b3, s2.v, Value.int .i64 x1], Value.bool true])) w7))))))))
     :
    Calls Tryd.prog 35 #[Value.agg #[Value.bool a0_a_0, a0_a_1.v, Value.int .i64 a0_a_2]] w (fun e_ w_ => Ahead w w_ ∧ R e_ w_) := by
  refine surdlaw08_of_vc a0_a_0 a0_a_1 a0_a_2 w _  ?_
  · have A : Ahead w w := Ahead.refl w
    have X : Ext w w := Ext.refl w
    refine newC_t fun bk1 u1 hb1 ha_u1 hs B1 => ?_
    have g1 : w.heap.size ≤ bk1 := by have := A.size; omega
    replace A := A.trans ha_u1
    replace X := X.trans (Ext.of_ahead ha_u1)
    clear hs hb1
    refine newC_t fun bk2 u2 hb2 ha_u2 hs B2 => ?_
    have g2 : w.heap.size ≤ bk2 := by have := A.size; omega
    have l1_2 : bk1 < bk2 := by have := B1.lt; omega
    replace B1 := B1.ahead ha_u2
    replace A := A.trans ha_u2
    replace X := X.trans (Ext.of_ahead ha_u2)
    clear hs hb2
    refine ldI_t 2 B1 rfl ?_
    replace h := h _ X A
    refine Calls.mono h ?_
    clear h
    rintro e1 w2 ⟨b1, he_, ha_w2, h⟩
    refine ⟨b1, he_, ?_⟩
    clear he_
    replace B1 := B1.ahead ha_w2
    replace B2 := B2.ahead ha_w2
    replace A := A.trans ha_w2
    replace X := X.trans (Ext.of_ahead ha_w2)
    replace X : Ext w2 w2 := Ext.refl _
    refine br_map h (fun h_ => ?_) (fun h_ => ?_)
    · skip
      clear h
      have h := h_
      clear h_
      refine stC_t 0 B2 rfl rfl rfl fun u3 k_u3 B2_ => ?_
      replace B2 : Blt u3 bk2 47 #[Value.bool false, (⟨none, 0, 0⟩ : Slc).v, Value.int .i64 0] := B2_
      clear B2_
      refine stC_t 1 B2 rfl rfl rfl fun u4 k_u4 B2_ => ?_
      replace B2 : Blt u4 bk2 47 #[Value.bool false, (⟨none, 0, 0⟩ : Slc).v, Value.int .i64 0] := B2_
      clear B2_
      refine stC_t 2 B2 rfl rfl rfl fun u5 k_u5 B2_ => ?_
      replace B2 : Blt u5 bk2 47 #[Value.bool false, (⟨none, 0, 0⟩ : Slc).v, Value.int .i64 0] := B2_
      clear B2_
      have kk_u3 := ((k_u3.trans k_u4).trans k_u5)
      replace B1 := kk_u3.blt B1 (by omega)
      replace A := kk_u3.ahead A g2
      replace X := X.trans kk_u3.ext
      clear k_u5 k_u4 k_u3
      refine ldB_t 0 B2 rfl ?_
      refine ldS_t 1 B2 rfl ?_
      refine ldI_t 2 B2 rfl ?_
      replace h := h _ X A
      exact ⟨A, h⟩
    · skip
      clear h
      have h := h_
      clear h_
      have hd_ := Sp.Ahead.drew w2
      replace B1 := B1.ahead hd_
      replace B2 := B2.ahead hd_
      replace A := A.trans hd_
      replace X := X.trans (Ext.of_ahead hd_)
      clear hd_
      refine ldB_t 0 B1 rfl ?_
      refine ldS_t 1 B1 rfl ?_
      refine ldI_t 2 B1 rfl ?_
      replace h := h _ X A
      refine Calls.mono h ?_
      clear h
      rintro e2 w5 ⟨b2, s1, he_, ha_w5, h⟩
      refine ⟨b2, s1, he_, ?_⟩
      clear he_
      replace B1 := B1.ahead ha_w5
      replace B2 := B2.ahead ha_w5
      replace A := A.trans ha_w5
      replace X := X.trans (Ext.of_ahead ha_w5)
      replace X : Ext w5 w5 := Ext.refl _
      refine ⟨ha_w5, ?_⟩
      refine Calls.mono h ?_
      clear h
      rintro e3 w6 ⟨b3, s2, x1, he_, ha_w6, h⟩
      refine ⟨b3, s2, x1, he_, ?_⟩
      clear he_
      replace B1 := B1.ahead ha_w6
      replace B2 := B2.ahead ha_w6
      replace A := A.trans ha_w6
      replace X := X.trans (Ext.of_ahead ha_w6)
      replace X : Ext w6 w6 := Ext.refl _
      refine ⟨ha_w6, ?_⟩
      refine stC_t 0 B2 rfl rfl rfl fun u6 k_u6 B2_ => ?_
      replace B2 : Blt u6 bk2 47 #[Value.bool b3, (⟨none, 0, 0⟩ : Slc).v, Value.int .i64 0] := B2_
      clear B2_
      refine stC_t 1 B2 rfl rfl rfl fun u7 k_u7 B2_ => ?_
      replace B2 : Blt u7 bk2 47 #[Value.bool b3, s2.v, Value.int .i64 0] := B2_
      clear B2_
      refine stC_t 2 B2 rfl rfl rfl fun u8 k_u8 B2_ => ?_
      replace B2 : Blt u8 bk2 47 #[Value.bool b3, s2.v, Value.int .i64 x1] := B2_
      clear B2_
      have kk_u6 := ((k_u6.trans k_u7).trans k_u8)
      replace B1 := kk_u6.blt B1 (by omega)
      replace A := kk_u6.ahead A g2
      replace X := X.trans kk_u6.ext
      clear k_u8 k_u7 k_u6
      refine ldB_t 0 B2 rfl ?_
      refine ldS_t 1 B2 rfl ?_
      refine ldI_t 2 B2 rfl ?_
      replace h := h _ X A
      exact ⟨A, h⟩

/-- surd/surdlaw08.DyadicRounds: function 6, its local variables as values. -/
theorem surdlaw08_DyadicRounds_v2 (a0_0 : Bool) (a0_1 : Slc) (a0_2 : Int) (a1 : Int) (a2 : Int) (w : World) (R : Ending → World → Prop)
    (K14 : Slc → Int → Int → Bool → Slc → Int → Bool → Slc → Int → Bool → Slc → Int → World → Prop)
    (h : ∀ w1, Ext w w1 → Ahead w w1 →
    (Calls Tryd.prog 19 #[Value.agg #[Value.bool a0_0, a0_1.v, Value.int .i64 a0_2]] w1 fun e1 w2 =>
      ∃ s1 : Slc, ∃ b1 : Bool, ∃ s2 : Slc, ∃ x1 : Int, e1 = .returned (Value.tuple #[s1.v, Value.agg #[Value.bool b1, s2.v, Value.int .i64 x1]]) ∧ Ahead w1 w2 ∧
      (∀ w3, Ext w2 w3 → Ahead w w3 →
        (Calls Tryd.prog 35 #[Value.agg #[Value.bool a0_0, a0_1.v, Value.int .i64 a0_2]] w3 fun e2 w4 =>
          ∃ b2 : Bool, ∃ s3 : Slc, ∃ x2 : Int, ∃ b3 : Bool, e2 = .returned (Value.tuple #[Value.agg #[Value.bool b2, s3.v, Value.int .i64 x2], Value.bool b3]) ∧ Ahead w3 w4 ∧
          (∀ w5, Ext w4 w5 → Ahead w w5 →
            (Calls Tryd.prog 36 #[Value.agg #[Value.bool b1, s2.v, Value.int .i64 x1], Value.int .i64 a1, Value.int .i64 a2] w5 fun e3 w6 =>
              ∃ b4 : Bool, ∃ s4 : Slc, ∃ x3 : Int, ∃ x4 : Int, e3 = .returned (Value.tuple #[Value.agg #[Value.bool b4, s4.v, Value.int .i64 x3], Value.int .i64 x4]) ∧ Ahead w5 w6 ∧
              (br (!b3)
                (∀ w12, Ext w6 w12 → Ahead w w12 →
                  (K14 s1 x4 80 a0_0 a0_1 a0_2 b4 s4 x3 false (⟨none, 0, 0⟩ : Slc) 0 w12))
                (∀ w13, Ext w6 w13 → Ahead w w13 →
                  (Calls Tryd.prog 15 #[Value.int .i64 a1] w13 fun e8 w14 =>
                    ∃ b9 : Bool, e8 = .returned (Value.bool b9) ∧ Ahead w13 w14 ∧
                    (br (!b9)
                      (K14 s1 x4 1 a0_0 a0_1 a0_2 b4 s4 x3 false (⟨none, 0, 0⟩ : Slc) 0 w14)
                      (Calls Tryd.prog 37 #[Value.int .i64 a2] w14 fun e9 w15 =>
                        ∃ b10 : Bool, e9 = .returned (Value.bool b10) ∧ Ahead w14 w15 ∧
                        (br (!b10)
                          (K14 s1 x4 81 a0_0 a0_1 a0_2 b4 s4 x3 false (⟨none, 0, 0⟩ : Slc) 0 w15)
                          (Calls Tryd.prog 38 #[Value.agg #[Value.bool b2, s3.v, Value.int .i64 x2], Value.int .i64 a1, Value.int .i64 a2] w15 fun e10 w16 =>
                            ∃ b11 : Bool, ∃ s5 : Slc, ∃ x5 : Int, e10 = .returned (Value.agg #[Value.bool b11, s5.v, Value.int .i64 x5]) ∧ Ahead w15 w16 ∧
                            (∀ w17, Ext w16 w17 → Ahead w w17 →
                              (K14 s1 x4 0 a0_0 a0_1 a0_2 b4 s4 x3 b11 s5 x5 w17)))))))))))))))
    (h3000014 : ∀ (t7 : Slc) (t12 : Int) (t13 : Int) (t3_0 : Bool) (t3_1 : Slc) (t3_2 : Int) (t11_0 : Bool) (t11_1 : Slc) (t11_2 : Int) (t14_0 : Bool) (t14_1 : Slc) (t14_2 : Int) (w_ : World), Ahead w w_ → K14 t7 t12 t13 t3_0 t3_1 t3_2 t11_0 t11_1 t11_2 t14_0 t14_1 t14_2 w_ → 
    Calls Tryd.prog 26 #[Value.agg #[Value.bool t11_0, t11_1.v, Value.int .i64 t11_2], Value.int .i64 t12, Value.agg #[Value.bool t14_0, t14_1.v, Value.int .i64 t14_2], Value.int .i64 t13] w_ fun e4 w7 =>
    ∃ b5 : Bool, e4 = .returned (Value.bool b5) ∧ Ahead w_ w7 ∧
    (br b5
      (newC w7 #[t11_1.v] 25 fun ad1 w8 =>
        Calls Tryd.prog 31 #[(⟨some ad1, 1, 1⟩ : Slc).v] w8 fun e5 w9 =>
        ∃ b6 : Bool, e5 = .returned (Value.bool b6) ∧ OwnStep w w8 w9 ∧
        (br b6
          (Calls Tryd.prog 32 #[t7.v, t3_1.v] w9 fun e6 w10 =>
            ∃ b7 : Bool, e6 = .returned (Value.bool b7) ∧ Ahead w9 w10 ∧
            (br b7
              (Calls Tryd.prog 14 #[] w10 fun e7 w11 =>
                ∃ b8 : Bool, e7 = .returned (Value.bool b8) ∧ Ahead w10 w11 ∧
                (R (.returned (Value.bool b8)) w11))
              (R (.returned (Value.bool false)) w10)))
          (R (.returned (Value.bool false)) w9)))
      (R (.returned (Value.bool false)) w7))) :
    Calls Tryd.prog 6 #[Value.agg #[Value.bool a0_0, a0_1.v, Value.int .i64 a0_2], Value.int .i64 a1, Value.int .i64 a2] w (fun e_ w_ => Ahead w w_ ∧ R e_ w_) := by
  refine surdlaw08_DyadicRounds_vc a0_0 a0_1 a0_2 a1 a2 w _ (fun t3 t7 t11 t12 t13 t14 w_ => ∃ c3_ : Nat, ∃ c11_ : Nat, ∃ c14_ : Nat, ∃ t3_0 : Bool, ∃ t3_1 : Slc, ∃ t3_2 : Int, ∃ t11_0 : Bool, ∃ t11_1 : Slc, ∃ t11_2 : Int, ∃ t14_0 : Bool, ∃ t14_1 : Slc, ∃ t14_2 : Int, t3 = ⟨c3_, 0, none⟩ ∧ Blt w_ c3_ 27 #[Value.bool t3_0, t3_1.v, Value.int .i64 t3_2] ∧ w.heap.size ≤ c3_ ∧ t11 = ⟨c11_, 0, none⟩ ∧ Blt w_ c11_ 33 #[Value.bool t11_0, t11_1.v, Value.int .i64 t11_2] ∧ w.heap.size ≤ c11_ ∧ t14 = ⟨c14_, 0, none⟩ ∧ Blt w_ c14_ 47 #[Value.bool t14_0, t14_1.v, Value.int .i64 t14_2] ∧ w.heap.size ≤ c14_ ∧ c3_ ≠ c11_ ∧ c3_ ≠ c14_ ∧ c11_ ≠ c14_ ∧ Ahead w w_ ∧ K14 t7 t12 t13 t3_0 t3_1 t3_2 t11_0 t11_1 t11_2 t14_0 t14_1 t14_2 w_) ?_ ?_
  · have A : Ahead w w := Ahead.refl w
    have X : Ext w w := Ext.refl w
    refine newC_t fun bk1 u1 hb1 ha_u1 hs B1 => ?_
    have g1 : w.heap.size ≤ bk1 := by have := A.size; omega
    replace A := A.trans ha_u1
    replace X := X.trans (Ext.of_ahead ha_u1)
    clear hs hb1
    refine ldB_t 0 B1 rfl ?_
    refine ldS_t 1 B1 rfl ?_
    refine ldI_t 2 B1 rfl ?_
    replace h := h _ X A
    refine Calls.mono h ?_
    clear h
    rintro e1 w2 ⟨s1, b1, s2, x1, he_, ha_w2, h⟩
    refine ⟨s1, b1, s2, x1, he_, ?_⟩
    clear he_
    replace B1 := B1.ahead ha_w2
    replace A := A.trans ha_w2
    replace X := X.trans (Ext.of_ahead ha_w2)
    replace X : Ext w2 w2 := Ext.refl _
    refine newC_t fun bk2 u2 hb2 ha_u2 hs B2 => ?_
    have g2 : w.heap.size ≤ bk2 := by have := A.size; omega
    have l1_2 : bk1 < bk2 := by have := B1.lt; omega
    replace B1 := B1.ahead ha_u2
    replace A := A.trans ha_u2
    replace X := X.trans (Ext.of_ahead ha_u2)
    clear hs hb2
    refine stC_t 0 B2 rfl rfl rfl fun u3 k_u3 B2_ => ?_
    replace B2 : Blt u3 bk2 33 #[Value.bool b1, (⟨none, 0, 0⟩ : Slc).v, Value.int .i64 0] := B2_
    clear B2_
    refine stC_t 1 B2 rfl rfl rfl fun u4 k_u4 B2_ => ?_
    replace B2 : Blt u4 bk2 33 #[Value.bool b1, s2.v, Value.int .i64 0] := B2_
    clear B2_
    refine stC_t 2 B2 rfl rfl rfl fun u5 k_u5 B2_ => ?_
    replace B2 : Blt u5 bk2 33 #[Value.bool b1, s2.v, Value.int .i64 x1] := B2_
    clear B2_
    have kk_u3 := ((k_u3.trans k_u4).trans k_u5)
    replace B1 := kk_u3.blt B1 (by omega)
    replace A := kk_u3.ahead A g2
    replace X := X.trans kk_u3.ext
    clear k_u5 k_u4 k_u3
    refine ldB_t 0 B1 rfl ?_
    refine ldS_t 1 B1 rfl ?_
    refine ldI_t 2 B1 rfl ?_
    replace h := h _ X A
    refine Calls.mono h ?_
    clear h
    rintro e2 w4 ⟨b2, s3, x2, b3, he_, ha_w4, h⟩
    refine ⟨b2, s3, x2, b3, he_, ?_⟩
    clear he_
    replace B1 := B1.ahead ha_w4
    replace B2 := B2.ahead ha_w4
    replace A := A.trans ha_w4
    replace X := X.trans (Ext.of_ahead ha_w4)
    replace X : Ext w4 w4 := Ext.refl _
    refine newC_t fun bk3 u6 hb3 ha_u6 hs B3 => ?_
    have g3 : w.heap.size ≤ bk3 := by have := A.size; omega
    have l1_3 : bk1 < bk3 := by have := B1.lt; omega
    have l2_3 : bk2 < bk3 := by have := B2.lt; omega
    replace B1 := B1.ahead ha_u6
    replace B2 := B2.ahead ha_u6
    replace A := A.trans ha_u6
    replace X := X.trans (Ext.of_ahead ha_u6)
    clear hs hb3
    refine stC_t 0 B3 rfl rfl rfl fun u7 k_u7 B3_ => ?_
    replace B3 : Blt u7 bk3 47 #[Value.bool b2, (⟨none, 0, 0⟩ : Slc).v, Value.int .i64 0] := B3_
    clear B3_
    refine stC_t 1 B3 rfl rfl rfl fun u8 k_u8 B3_ => ?_
    replace B3 : Blt u8 bk3 47 #[Value.bool b2, s3.v, Value.int .i64 0] := B3_
    clear B3_
    refine stC_t 2 B3 rfl rfl rfl fun u9 k_u9 B3_ => ?_
    replace B3 : Blt u9 bk3 47 #[Value.bool b2, s3.v, Value.int .i64 x2] := B3_
    clear B3_
    have kk_u7 := ((k_u7.trans k_u8).trans k_u9)
    replace B1 := kk_u7.blt B1 (by omega)
    replace B2 := kk_u7.blt B2 (by omega)
    replace A := kk_u7.ahead A g3
    replace X := X.trans kk_u7.ext
    clear k_u9 k_u8 k_u7
    refine ldB_t 0 B2 rfl ?_
    refine ldS_t 1 B2 rfl ?_
    refine ldI_t 2 B2 rfl ?_
    replace h := h _ X A
    refine Calls.mono h ?_
    clear h
    rintro e3 w6 ⟨b4, s4, x3, x4, he_, ha_w6, h⟩
    refine ⟨b4, s4, x3, x4, he_, ?_⟩
    clear he_
    replace B1 := B1.ahead ha_w6
    replace B2 := B2.ahead ha_w6
    replace B3 := B3.ahead ha_w6
    replace A := A.trans ha_w6
    replace X := X.trans (Ext.of_ahead ha_w6)
    replace X : Ext w6 w6 := Ext.refl _
    refine newC_t fun bk4 u10 hb4 ha_u10 hs B4 => ?_
    have g4 : w.heap.size ≤ bk4 := by have := A.size; omega
    have l1_4 : bk1 < bk4 := by have := B1.lt; omega
    have l2_4 : bk2 < bk4 := by have := B2.lt; omega
    have l3_4 : bk3 < bk4 := by have := B3.lt; omega
    replace B1 := B1.ahead ha_u10
    replace B2 := B2.ahead ha_u10
    replace B3 := B3.ahead ha_u10
    replace A := A.trans ha_u10
    replace X := X.trans (Ext.of_ahead ha_u10)
    clear hs hb4
    refine stC_t 0 B4 rfl rfl rfl fun u11 k_u11 B4_ => ?_
    replace B4 : Blt u11 bk4 33 #[Value.bool b4, (⟨none, 0, 0⟩ : Slc).v, Value.int .i64 0] := B4_
    clear B4_
    refine stC_t 1 B4 rfl rfl rfl fun u12 k_u12 B4_ => ?_
    replace B4 : Blt u12 bk4 33 #[Value.bool b4, s4.v, Value.int .i64 0] := B4_
    clear B4_
    refine stC_t 2 B4 rfl rfl rfl fun u13 k_u13 B4_ => ?_
    replace B4 : Blt u13 bk4 33 #[Value.bool b4, s4.v, Value.int .i64 x3] := B4_
    clear B4_
    have kk_u11 := ((k_u11.trans k_u12).trans k_u13)
    replace B1 := kk_u11.blt B1 (by omega)
    replace B2 := kk_u11.blt B2 (by omega)
    replace B3 := kk_u11.blt B3 (by omega)
    replace A := kk_u11.ahead A g4
    replace X := X.trans kk_u11.ext
    clear k_u13 k_u12 k_u11
    refine newC_t fun bk5 u14 hb5 ha_u14 hs B5 => ?_
    have g5 : w.heap.size ≤ bk5 := by have := A.size; omega
    have l1_5 : bk1 < bk5 := by have := B1.lt; omega
    have l2_5 : bk2 < bk5 := by have := B2.lt; omega
    have l3_5 : bk3 < bk5 := by have := B3.lt; omega
    have l4_5 : bk4 < bk5 := by have := B4.lt; omega
    replace B1 := B1.ahead ha_u14
    replace B2 := B2.ahead ha_u14
    replace B3 := B3.ahead ha_u14
    replace B4 := B4.ahead ha_u14
    replace A := A.trans ha_u14
    replace X := X.trans (Ext.of_ahead ha_u14)
    clear hs hb5
    refine stC_t 0 B5 rfl rfl rfl fun u15 k_u15 B5_ => ?_
    replace B5 : Blt u15 bk5 47 #[Value.bool false, (⟨none, 0, 0⟩ : Slc).v, Value.int .i64 0] := B5_
    clear B5_
    refine stC_t 1 B5 rfl rfl rfl fun u16 k_u16 B5_ => ?_
    replace B5 : Blt u16 bk5 47 #[Value.bool false, (⟨none, 0, 0⟩ : Slc).v, Value.int .i64 0] := B5_
    clear B5_
    refine stC_t 2 B5 rfl rfl rfl fun u17 k_u17 B5_ => ?_
    replace B5 : Blt u17 bk5 47 #[Value.bool false, (⟨none, 0, 0⟩ : Slc).v, Value.int .i64 0] := B5_
    clear B5_
    have kk_u15 := ((k_u15.trans k_u16).trans k_u17)
    replace B1 := kk_u15.blt B1 (by omega)
    replace B2 := kk_u15.blt B2 (by omega)
    replace B3 := kk_u15.blt B3 (by omega)
    replace B4 := kk_u15.blt B4 (by omega)
    replace A := kk_u15.ahead A g5
    replace X := X.trans kk_u15.ext
    clear k_u17 k_u16 k_u15
    refine br_map h (fun h_ => ?_) (fun h_ => ?_)
    · skip
      clear h
      have h := h_
      clear h_
      replace h := h _ X A
      exact ⟨bk1, bk4, bk5, a0_0, a0_1, a0_2, b4, s4, x3, false, (⟨none, 0, 0⟩ : Slc), 0, rfl, B1, g1, rfl, B4, g4, rfl, B5, g5, (by omega), (by omega), (by omega), A, h⟩
    · skip
      clear h
      have h := h_
      clear h_
      replace h := h _ X A
      refine Calls.mono h ?_
      clear h
      rintro e8 w14 ⟨b9, he_, ha_w14, h⟩
      refine ⟨b9, he_, ?_⟩
      clear he_
      replace B1 := B1.ahead ha_w14
      replace B2 := B2.ahead ha_w14
      replace B3 := B3.ahead ha_w14
      replace B4 := B4.ahead ha_w14
      replace B5 := B5.ahead ha_w14
      replace A := A.trans ha_w14
      replace X := X.trans (Ext.of_ahead ha_w14)
      replace X : Ext w14 w14 := Ext.refl _
      refine br_map h (fun h_ => ?_) (fun h_ => ?_)
      · skip
        clear h
        have h := h_
        clear h_
        exact ⟨bk1, bk4, bk5, a0_0, a0_1, a0_2, b4, s4, x3, false, (⟨none, 0, 0⟩ : Slc), 0, rfl, B1, g1, rfl, B4, g4, rfl, B5, g5, (by omega), (by omega), (by omega), A, h⟩
      · skip
        clear h
        have h := h_
        clear h_
        refine Calls.mono h ?_
        clear h
        rintro e9 w15 ⟨b10, he_, ha_w15, h⟩
        refine ⟨b10, he_, ?_⟩
        clear he_
        replace B1 := B1.ahead ha_w15
        replace B2 := B2.ahead ha_w15
        replace B3 := B3.ahead ha_w15
        replace B4 := B4.ahead ha_w15
        replace B5 := B5.ahead ha_w15
        replace A := A.trans ha_w15
        replace X := X.trans (Ext.of_ahead ha_w15)
        replace X : Ext w15 w15 := Ext.refl _
        refine br_map h (fun h_ => ?_) (fun h_ => ?_)
        · skip
          clear h
          have h := h_
          clear h_
          exact ⟨bk1, bk4, bk5, a0_0, a0_1, a0_2, b4, s4, x3, false, (⟨none, 0, 0⟩ : Slc), 0, rfl, B1, g1, rfl, B4, g4, rfl, B5, g5, (by omega), (by omega), (by omega), A, h⟩
        · skip
          clear h
          have h := h_
          clear h_
          refine ldB_t 0 B3 rfl ?_
          refine ldS_t 1 B3 rfl ?_
          refine ldI_t 2 B3 rfl ?_
          refine Calls.mono h ?_
          clear h
          rintro e10 w16 ⟨b11, s5, x5, he_, ha_w16, h⟩
          refine ⟨b11, s5, x5, he_, ?_⟩
          clear he_
          replace B1 := B1.ahead ha_w16
          replace B2 := B2.ahead ha_w16
          replace B3 := B3.ahead ha_w16
          replace B4 := B4.ahead ha_w16
          replace B5 := B5.ahead ha_w16
          replace A := A.trans ha_w16
          replace X := X.trans (Ext.of_ahead ha_w16)
          replace X : Ext w16 w16 := Ext.refl _
          refine stC_t 0 B5 rfl rfl rfl fun u18 k_u18 B5_ => ?_
          replace B5 : Blt u18 bk5 47 #[Value.bool b11, (⟨none, 0, 0⟩ : Slc).v, Value.int .i64 0] := B5_
          clear B5_
          refine stC_t 1 B5 rfl rfl rfl fun u19 k_u19 B5_ => ?_
          replace B5 : Blt u19 bk5 47 #[Value.bool b11, s5.v, Value.int .i64 0] := B5_
          clear B5_
          refine stC_t 2 B5 rfl rfl rfl fun u20 k_u20 B5_ => ?_
          replace B5 : Blt u20 bk5 47 #[Value.bool b11, s5.v, Value.int .i64 x5] := B5_
          clear B5_
          have kk_u18 := ((k_u18.trans k_u19).trans k_u20)
          replace B1 := kk_u18.blt B1 (by omega)
          replace B2 := kk_u18.blt B2 (by omega)
          replace B3 := kk_u18.blt B3 (by omega)
          replace B4 := kk_u18.blt B4 (by omega)
          replace A := kk_u18.ahead A g5
          replace X := X.trans kk_u18.ext
          clear k_u20 k_u19 k_u18
          replace h := h _ X A
          exact ⟨bk1, bk4, bk5, a0_0, a0_1, a0_2, b4, s4, x3, b11, s5, x5, rfl, B1, g1, rfl, B4, g4, rfl, B5, g5, (by omega), (by omega), (by omega), A, h⟩
  · clear h
    rintro t3 t7 t11 t12 t13 t14 w_ ⟨bk1, bk4, bk5, t3_0, t3_1, t3_2, t11_0, t11_1, t11_2, t14_0, t14_1, t14_2, rfl, B1, g1, rfl, B4, g4, rfl, B5, g5, n1_4, n1_5, n4_5, A, hJ3000014⟩
    have h := h3000014  t7 t12 t13 t3_0 t3_1 t3_2 t11_0 t11_1 t11_2 t14_0 t14_1 t14_2 w_ A hJ3000014
    have X : Ext w_ w_ := Ext.refl _
    refine ldB_t 0 B4 rfl ?_
    refine ldS_t 1 B4 rfl ?_
    refine ldI_t 2 B4 rfl ?_
    refine ldB_t 0 B5 rfl ?_
    refine ldS_t 1 B5 rfl ?_
    refine ldI_t 2 B5 rfl ?_
    refine Calls.mono h ?_
    clear h
    rintro e4 w7 ⟨b5, he_, ha_w7, h⟩
    refine ⟨b5, he_, ?_⟩
    clear he_
    replace B1 := B1.ahead ha_w7
    replace B4 := B4.ahead ha_w7
    replace B5 := B5.ahead ha_w7
    replace A := A.trans ha_w7
    replace X := X.trans (Ext.of_ahead ha_w7)
    replace X : Ext w7 w7 := Ext.refl _
    refine br_map h (fun h_ => ?_) (fun h_ => ?_)
    · skip
      clear h
      have h := h_
      clear h_
      refine ldS_t 1 B4 rfl ?_
      refine newC_map h fun ad1 w8 ha_w8 h_ => ?_
      clear h
      have h := h_
      clear h_
      replace B1 := B1.ahead ha_w8
      replace B4 := B4.ahead ha_w8
      replace B5 := B5.ahead ha_w8
      replace A := A.trans ha_w8
      replace X := X.trans (Ext.of_ahead ha_w8)
      replace X : Ext w8 w8 := Ext.refl _
      refine Calls.mono h ?_
      clear h
      rintro e5 w9 ⟨b6, he_, ⟨V_, ha_w9, hV_⟩, h⟩
      refine ⟨b6, he_, ?_⟩
      clear he_
      replace B1 := B1.bar ha_w9 (fun hv_ => (hV_ _ hv_).2 _ _ B1 rfl)
      replace B4 := B4.bar ha_w9 (fun hv_ => (hV_ _ hv_).2 _ _ B4 rfl)
      replace B5 := B5.bar ha_w9 (fun hv_ => (hV_ _ hv_).2 _ _ B5 rfl)
      replace A := bar_ahead2 A ha_w9 (fun _ hv_ => (hV_ _ hv_).1)
      replace X : Ext w9 w9 := Ext.refl _
      refine br_map h (fun h_ => ?_) (fun h_ => ?_)
      · skip
        clear h
        have h := h_
        clear h_
        refine ldS_t 1 B1 rfl ?_
        refine Calls.mono h ?_
        clear h
        rintro e6 w10 ⟨b7, he_, ha_w10, h⟩
        refine ⟨b7, he_, ?_⟩
        clear he_
        replace B1 := B1.ahead ha_w10
        replace B4 := B4.ahead ha_w10
        replace B5 := B5.ahead ha_w10
        replace A := A.trans ha_w10
        replace X := X.trans (Ext.of_ahead ha_w10)
        replace X : Ext w10 w10 := Ext.refl _
        refine br_map h (fun h_ => ?_) (fun h_ => ?_)
        · skip
          clear h
          have h := h_
          clear h_
          refine Calls.mono h ?_
          clear h
          rintro e7 w11 ⟨b8, he_, ha_w11, h⟩
          refine ⟨b8, he_, ?_⟩
          clear he_
          replace B1 := B1.ahead ha_w11
          replace B4 := B4.ahead ha_w11
          replace B5 := B5.ahead ha_w11
          replace A := A.trans ha_w11
          replace X := X.trans (Ext.of_ahead ha_w11)
          replace X : Ext w11 w11 := Ext.refl _
          exact ⟨A, h⟩
        · skip
          clear h
          have h := h_
          clear h_
          exact ⟨A, h⟩
      · skip
        clear h
        have h := h_
        clear h_
        exact ⟨A, h⟩
    · skip
      clear h
      have h := h_
      clear h_
      exact ⟨A, h⟩

end Go.Proofs.YthhbjhdnaopcnaaDoor
