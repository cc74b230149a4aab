/- What the law leans on, part 4. No condition. -/
import Derived.Test.YthhbjhdnaopcnaaDoorZDyadicShort3
namespace Go.Proofs.YthhbjhdnaopcnaaDoor
open Go Go.RowKit Eng L2
set_option linter.unusedVariables false
set_option maxRecDepth 100000

/-- surd/dyadic.Cut: function 39, its local variables as values. -/
theorem dyadic_Cut_v2 (a0_a_0 : Bool) (a0_a_1 : Slc) (a0_a_2 : Int) (a1_bits : Int) (a2_m : Int) (w : World) (R : Ending → World → Prop)
    
    (h : ∀ w1, Ext w w1 → Ahead w w1 →
    (Calls Tryd.prog 62 #[Value.agg #[Value.bool a0_a_0, a0_a_1.v, Value.int .i64 a0_a_2]] w1 fun e1 w2 =>
     ∃ b1 : Bool, ∃ s1 : Slc, ∃ x1 : Int, ∃ x2 : Int, e1 = .returned (Value.tuple #[Value.agg #[Value.bool b1, s1.v, Value.int .i64 x1], Value.int .i64 x2]) ∧ Ahead w1 w2 ∧
     (br (x2 != 0)
      (∀ w3, Ext w2 w3 → Ahead w w3 →
       (R (.returned (Value.tuple #[Value.agg #[Value.bool (false), ((⟨none, 0, 0⟩ : Slc)).v, Value.int .i64 (0 : Int)], Value.int .i64 x2])) w3))
      (br (decide (a1_bits < 1))
       (∀ w4, Ext w2 w4 → Ahead w w4 →
        (R (.returned (Value.tuple #[Value.agg #[Value.bool (false), ((⟨none, 0, 0⟩ : Slc)).v, Value.int .i64 (0 : Int)], Value.int .i64 1])) w4))
       (∀ w5, Ext w2 w5 → Ahead w w5 →
        (Calls Tryd.prog 79 #[Value.int .i64 a2_m] w5 fun e2 w6 =>
         ∃ b2 : Bool, e2 = .returned (Value.bool b2) ∧ Ahead w5 w6 ∧
         (br (!b2)
          (∀ w7, Ext w6 w7 → Ahead w w7 →
           (R (.returned (Value.tuple #[Value.agg #[Value.bool (false), ((⟨none, 0, 0⟩ : Slc)).v, Value.int .i64 (0 : Int)], Value.int .i64 81])) w7))
          (Calls Tryd.prog 73 #[Value.agg #[Value.bool b1, s1.v]] w6 fun e3 w8 =>
           ∃ x3 : Int, e3 = .returned (Value.int .i64 x3) ∧ Ahead w6 w8 ∧
           (br (decide (a1_bits ≥ x3))
            (Calls Tryd.prog 64 #[Value.agg #[Value.bool b1, s1.v], Value.int .i64 x1] w8 fun e4 w9 =>
             ∃ b3 : Bool, ∃ s2 : Slc, ∃ x4 : Int, ∃ x5 : Int, e4 = .returned (Value.tuple #[Value.agg #[Value.bool b3, s2.v, Value.int .i64 x4], Value.int .i64 x5]) ∧ Ahead w8 w9 ∧
             (∀ w10, Ext w9 w10 → Ahead w w10 →
              (R (.returned (Value.tuple #[Value.agg #[Value.bool b3, s2.v, Value.int .i64 x4], Value.int .i64 x5])) w10)))
            (∀ w11, Ext w8 w11 → Ahead w w11 →
             (Calls Tryd.prog 72 #[Value.agg #[Value.bool b1, s1.v, Value.int .i64 x1]] w11 fun e5 w12 =>
              ∃ x6 : Int, e5 = .returned (Value.int .i64 x6) ∧ Ahead w11 w12 ∧
              (Calls Tryd.prog 80 #[Value.agg #[Value.bool b1, s1.v, Value.int .i64 x1], Value.int .i64 (IntKind.i64.wrap (x6 - (IntKind.i64.wrap (a1_bits - 1)))), Value.int .i64 a2_m] w12 fun e6 w13 =>
               ∃ b4 : Bool, ∃ s3 : Slc, ∃ x7 : Int, ∃ x8 : Int, e6 = .returned (Value.tuple #[Value.agg #[Value.bool b4, s3.v, Value.int .i64 x7], Value.int .i64 x8]) ∧ Ahead w12 w13 ∧
               (∀ w14, Ext w13 w14 → Ahead w w14 →
                (R (.returned (Value.tuple #[Value.agg #[Value.bool b4, s3.v, Value.int .i64 x7], Value.int .i64 x8])) w14))))))))))))))
     :
    Calls Tryd.prog 39 #[Value.agg #[Value.bool a0_a_0, a0_a_1.v, Value.int .i64 a0_a_2], Value.int .i64 a1_bits, Value.int .i64 a2_m] w (fun e_ w_ => Ahead w w_ ∧ R e_ w_) := by
  refine dyadic_Cut_vc a0_a_0 a0_a_1 a0_a_2 a1_bits a2_m w _  ?_
  · have A : Ahead w w := Ahead.refl w
    have X : Ext w w := Ext.refl w
    refine newC_t fun bk1 u1 hb1 ha_u1 hs B1 => ?_
    have g1 : w.heap.size ≤ bk1 := by have := A.size; omega
    replace A := A.trans ha_u1
    replace X := X.trans (Ext.of_ahead ha_u1)
    clear hs hb1
    refine newC_t fun bk2 u2 hb2 ha_u2 hs B2 => ?_
    have g2 : w.heap.size ≤ bk2 := by have := A.size; omega
    have l1_2 : bk1 < bk2 := by have := B1.lt; omega
    replace B1 := B1.ahead ha_u2
    replace A := A.trans ha_u2
    replace X := X.trans (Ext.of_ahead ha_u2)
    clear hs hb2
    refine ldB_t 0 B1 rfl ?_
    refine ldS_t 1 B1 rfl ?_
    refine ldI_t 2 B1 rfl ?_
    replace h := h _ X A
    refine Calls.mono h ?_
    clear h
    rintro e1 w2 ⟨b1, s1, x1, x2, he_, ha_w2, h⟩
    refine ⟨b1, s1, x1, x2, he_, ?_⟩
    clear he_
    replace B1 := B1.ahead ha_w2
    replace B2 := B2.ahead ha_w2
    replace A := A.trans ha_w2
    replace X := X.trans (Ext.of_ahead ha_w2)
    replace X : Ext w2 w2 := Ext.refl _
    refine newC_t fun bk3 u3 hb3 ha_u3 hs B3 => ?_
    have g3 : w.heap.size ≤ bk3 := by have := A.size; omega
    have l1_3 : bk1 < bk3 := by have := B1.lt; omega
    have l2_3 : bk2 < bk3 := by have := B2.lt; omega
    replace B1 := B1.ahead ha_u3
    replace B2 := B2.ahead ha_u3
    replace A := A.trans ha_u3
    replace X := X.trans (Ext.of_ahead ha_u3)
    clear hs hb3
    refine stC_t 0 B3 rfl rfl rfl fun u4 k_u4 B3_ => ?_
    replace B3 : Blt u4 bk3 98 #[Value.bool b1, (⟨none, 0, 0⟩ : Slc).v, Value.int .i64 0] := B3_
    clear B3_
    refine stC_t 1 B3 rfl rfl rfl fun u5 k_u5 B3_ => ?_
    replace B3 : Blt u5 bk3 98 #[Value.bool b1, s1.v, Value.int .i64 0] := B3_
    clear B3_
    refine stC_t 2 B3 rfl rfl rfl fun u6 k_u6 B3_ => ?_
    replace B3 : Blt u6 bk3 98 #[Value.bool b1, s1.v, Value.int .i64 x1] := B3_
    clear B3_
    have kk_u4 := ((k_u4.trans k_u5).trans k_u6)
    replace B1 := kk_u4.blt B1 (by omega)
    replace B2 := kk_u4.blt B2 (by omega)
    replace A := kk_u4.ahead A g3
    replace X := X.trans kk_u4.ext
    clear k_u6 k_u5 k_u4
    refine br_map h (fun h_ => ?_) (fun h_ => ?_)
    · skip
      clear h
      have h := h_
      clear h_
      refine stC_t 0 B2 rfl rfl rfl fun u7 k_u7 B2_ => ?_
      replace B2 : Blt u7 bk2 33 #[Value.bool false, (⟨none, 0, 0⟩ : Slc).v, Value.int .i64 0] := B2_
      clear B2_
      refine stC_t 1 B2 rfl rfl rfl fun u8 k_u8 B2_ => ?_
      replace B2 : Blt u8 bk2 33 #[Value.bool false, (⟨none, 0, 0⟩ : Slc).v, Value.int .i64 0] := B2_
      clear B2_
      refine stC_t 2 B2 rfl rfl rfl fun u9 k_u9 B2_ => ?_
      replace B2 : Blt u9 bk2 33 #[Value.bool false, (⟨none, 0, 0⟩ : Slc).v, Value.int .i64 0] := B2_
      clear B2_
      have kk_u7 := ((k_u7.trans k_u8).trans k_u9)
      replace B1 := kk_u7.blt B1 (by omega)
      replace B3 := kk_u7.blt B3 (by omega)
      replace A := kk_u7.ahead A g2
      replace X := X.trans kk_u7.ext
      clear k_u9 k_u8 k_u7
      refine ldB_t 0 B2 rfl ?_
      refine ldS_t 1 B2 rfl ?_
      refine ldI_t 2 B2 rfl ?_
      replace h := h _ X A
      exact ⟨A, h⟩
    · skip
      clear h
      have h := h_
      clear h_
      refine br_map h (fun h_ => ?_) (fun h_ => ?_)
      · skip
        clear h
        have h := h_
        clear h_
        refine stC_t 0 B2 rfl rfl rfl fun u10 k_u10 B2_ => ?_
        replace B2 : Blt u10 bk2 33 #[Value.bool false, (⟨none, 0, 0⟩ : Slc).v, Value.int .i64 0] := B2_
        clear B2_
        refine stC_t 1 B2 rfl rfl rfl fun u11 k_u11 B2_ => ?_
        replace B2 : Blt u11 bk2 33 #[Value.bool false, (⟨none, 0, 0⟩ : Slc).v, Value.int .i64 0] := B2_
        clear B2_
        refine stC_t 2 B2 rfl rfl rfl fun u12 k_u12 B2_ => ?_
        replace B2 : Blt u12 bk2 33 #[Value.bool false, (⟨none, 0, 0⟩ : Slc).v, Value.int .i64 0] := B2_
        clear B2_
        have kk_u10 := ((k_u10.trans k_u11).trans k_u12)
        replace B1 := kk_u10.blt B1 (by omega)
        replace B3 := kk_u10.blt B3 (by omega)
        replace A := kk_u10.ahead A g2
        replace X := X.trans kk_u10.ext
        clear k_u12 k_u11 k_u10
        refine ldB_t 0 B2 rfl ?_
        refine ldS_t 1 B2 rfl ?_
        refine ldI_t 2 B2 rfl ?_
        replace h := h _ X A
        exact ⟨A, h⟩
      · skip
        clear h
        have h := h_
        clear h_
        replace h := h _ X A
        refine Calls.mono h ?_
        clear h
        rintro e2 w6 ⟨b2, he_, ha_w6, h⟩
        refine ⟨b2, he_, ?_⟩
        clear he_
        replace B1 := B1.ahead ha_w6
        replace B2 := B2.ahead ha_w6
        replace B3 := B3.ahead ha_w6
        replace A := A.trans ha_w6
        replace X := X.trans (Ext.of_ahead ha_w6)
        replace X : Ext w6 w6 := Ext.refl _
        refine br_map h (fun h_ => ?_) (fun h_ => ?_)
        · skip
          clear h
          have h := h_
          clear h_
          refine stC_t 0 B2 rfl rfl rfl fun u13 k_u13 B2_ => ?_
          replace B2 : Blt u13 bk2 33 #[Value.bool false, (⟨none, 0, 0⟩ : Slc).v, Value.int .i64 0] := B2_
          clear B2_
          refine stC_t 1 B2 rfl rfl rfl fun u14 k_u14 B2_ => ?_
          replace B2 : Blt u14 bk2 33 #[Value.bool false, (⟨none, 0, 0⟩ : Slc).v, Value.int .i64 0] := B2_
          clear B2_
          refine stC_t 2 B2 rfl rfl rfl fun u15 k_u15 B2_ => ?_
          replace B2 : Blt u15 bk2 33 #[Value.bool false, (⟨none, 0, 0⟩ : Slc).v, Value.int .i64 0] := B2_
          clear B2_
          have kk_u13 := ((k_u13.trans k_u14).trans k_u15)
          replace B1 := kk_u13.blt B1 (by omega)
          replace B3 := kk_u13.blt B3 (by omega)
          replace A := kk_u13.ahead A g2
          replace X := X.trans kk_u13.ext
          clear k_u15 k_u14 k_u13
          refine ldB_t 0 B2 rfl ?_
          refine ldS_t 1 B2 rfl ?_
          refine ldI_t 2 B2 rfl ?_
          replace h := h _ X A
          exact ⟨A, h⟩
        · skip
          clear h
          have h := h_
          clear h_
          refine ldB_t 0 B3 rfl ?_
          refine ldS_t 1 B3 rfl ?_
          refine Calls.mono h ?_
          clear h
          rintro e3 w8 ⟨x3, he_, ha_w8, h⟩
          refine ⟨x3, he_, ?_⟩
          clear he_
          replace B1 := B1.ahead ha_w8
          replace B2 := B2.ahead ha_w8
          replace B3 := B3.ahead ha_w8
          replace A := A.trans ha_w8
          replace X := X.trans (Ext.of_ahead ha_w8)
          replace X : Ext w8 w8 := Ext.refl _
          refine br_map h (fun h_ => ?_) (fun h_ => ?_)
          · skip
            clear h
            have h := h_
            clear h_
            refine ldB_t 0 B3 rfl ?_
            refine ldS_t 1 B3 rfl ?_
            refine ldI_t 2 B3 rfl ?_
            refine Calls.mono h ?_
            clear h
            rintro e4 w9 ⟨b3, s2, x4, x5, he_, ha_w9, h⟩
            refine ⟨b3, s2, x4, x5, he_, ?_⟩
            clear he_
            replace B1 := B1.ahead ha_w9
            replace B2 := B2.ahead ha_w9
            replace B3 := B3.ahead ha_w9
            replace A := A.trans ha_w9
            replace X := X.trans (Ext.of_ahead ha_w9)
            replace X : Ext w9 w9 := Ext.refl _
            refine stC_t 0 B2 rfl rfl rfl fun u16 k_u16 B2_ => ?_
            replace B2 : Blt u16 bk2 33 #[Value.bool b3, (⟨none, 0, 0⟩ : Slc).v, Value.int .i64 0] := B2_
            clear B2_
            refine stC_t 1 B2 rfl rfl rfl fun u17 k_u17 B2_ => ?_
            replace B2 : Blt u17 bk2 33 #[Value.bool b3, s2.v, Value.int .i64 0] := B2_
            clear B2_
            refine stC_t 2 B2 rfl rfl rfl fun u18 k_u18 B2_ => ?_
            replace B2 : Blt u18 bk2 33 #[Value.bool b3, s2.v, Value.int .i64 x4] := B2_
            clear B2_
            have kk_u16 := ((k_u16.trans k_u17).trans k_u18)
            replace B1 := kk_u16.blt B1 (by omega)
            replace B3 := kk_u16.blt B3 (by omega)
            replace A := kk_u16.ahead A g2
            replace X := X.trans kk_u16.ext
            clear k_u18 k_u17 k_u16
            refine ldB_t 0 B2 rfl ?_
            refine ldS_t 1 B2 rfl ?_
            refine ldI_t 2 B2 rfl ?_
            replace h := h _ X A
            exact ⟨A, h⟩
          · skip
            clear h
            have h := h_
            clear h_
            have hd_ := Sp.Ahead.drew w8
            replace B1 := B1.ahead hd_
            replace B2 := B2.ahead hd_
            replace B3 := B3.ahead hd_
            replace A := A.trans hd_
            replace X := X.trans (Ext.of_ahead hd_)
            clear hd_
            refine ldB_t 0 B3 rfl ?_
            refine ldS_t 1 B3 rfl ?_
            refine ldI_t 2 B3 rfl ?_
            refine ldB_t 0 B3 rfl ?_
            refine ldS_t 1 B3 rfl ?_
            refine ldI_t 2 B3 rfl ?_
            replace h := h _ X A
            refine Calls.mono h ?_
            clear h
            rintro e5 w12 ⟨x6, he_, ha_w12, h⟩
            refine ⟨x6, he_, ?_⟩
            clear he_
            replace B1 := B1.ahead ha_w12
            replace B2 := B2.ahead ha_w12
            replace B3 := B3.ahead ha_w12
            replace A := A.trans ha_w12
            replace X := X.trans (Ext.of_ahead ha_w12)
            replace X : Ext w12 w12 := Ext.refl _
            refine ⟨ha_w12, ?_⟩
            refine Calls.mono h ?_
            clear h
            rintro e6 w13 ⟨b4, s3, x7, x8, he_, ha_w13, h⟩
            refine ⟨b4, s3, x7, x8, he_, ?_⟩
            clear he_
            replace B1 := B1.ahead ha_w13
            replace B2 := B2.ahead ha_w13
            replace B3 := B3.ahead ha_w13
            replace A := A.trans ha_w13
            replace X := X.trans (Ext.of_ahead ha_w13)
            replace X : Ext w13 w13 := Ext.refl _
            refine ⟨ha_w13, ?_⟩
            refine stC_t 0 B2 rfl rfl rfl fun u19 k_u19 B2_ => ?_
            replace B2 : Blt u19 bk2 33 #[Value.bool b4, (⟨none, 0, 0⟩ : Slc).v, Value.int .i64 0] := B2_
            clear B2_
            refine stC_t 1 B2 rfl rfl rfl fun u20 k_u20 B2_ => ?_
            replace B2 : Blt u20 bk2 33 #[Value.bool b4, s3.v, Value.int .i64 0] := B2_
            clear B2_
            refine stC_t 2 B2 rfl rfl rfl fun u21 k_u21 B2_ => ?_
            replace B2 : Blt u21 bk2 33 #[Value.bool b4, s3.v, Value.int .i64 x7] := B2_
            clear B2_
            have kk_u19 := ((k_u19.trans k_u20).trans k_u21)
            replace B1 := kk_u19.blt B1 (by omega)
            replace B3 := kk_u19.blt B3 (by omega)
            replace A := kk_u19.ahead A g2
            replace X := X.trans kk_u19.ext
            clear k_u21 k_u20 k_u19
            refine ldB_t 0 B2 rfl ?_
            refine ldS_t 1 B2 rfl ?_
            refine ldI_t 2 B2 rfl ?_
            replace h := h _ X A
            exact ⟨A, h⟩

/-- surd/surdref06.Shift: function 53, its local variables as values. -/
theorem surdref06_Shift_v2 (a0_a_0 : Bool) (a0_a_1 : Slc) (a1_n : Int) (w : World) (R : Ending → World → Prop)
    
    (h : br (decide (a1_n ≥ 0))
    (∀ w1, Ext w w1 → Ahead w w1 →
     (Calls Tryd.prog 54 #[a0_a_1.v, Value.int .i64 a1_n] w1 fun e1 w2 =>
      ∃ s1 : Slc, e1 = .returned s1.v ∧ Ahead w1 w2 ∧
      (Calls Tryd.prog 66 #[Value.bool a0_a_0, s1.v] w2 fun e2 w3 =>
       ∃ b1 : Bool, ∃ s2 : Slc, e2 = .returned (Value.agg #[Value.bool b1, s2.v]) ∧ Ahead w2 w3 ∧
       (∀ w4, Ext w3 w4 → Ahead w w4 →
        (R (.returned (Value.agg #[Value.bool b1, s2.v])) w4)))))
    (∀ w5, Ext w w5 → Ahead w w5 →
     (Calls Tryd.prog 34 #[a0_a_1.v] w5 fun e3 w6 =>
      ∃ x1 : Int, e3 = .returned (Value.int .i64 x1) ∧ Ahead w5 w6 ∧
      (br (decide (a1_n < (IntKind.i64.wrap (0 - x1))))
       (br a0_a_0
        (Calls Tryd.prog 77 #[Value.int .i64 (-1)] w6 fun e4 w7 =>
         ∃ b2 : Bool, ∃ s3 : Slc, e4 = .returned (Value.agg #[Value.bool b2, s3.v]) ∧ Ahead w6 w7 ∧
         (∀ w8, Ext w7 w8 → Ahead w w8 →
          (R (.returned (Value.agg #[Value.bool b2, s3.v])) w8)))
        (∀ w9, Ext w6 w9 → Ahead w w9 →
         (R (.returned (Value.agg #[Value.bool (false), ((⟨none, 0, 0⟩ : Slc)).v])) w9)))
       (∀ w10, Ext w6 w10 → Ahead w w10 →
        (Calls Tryd.prog 52 #[Value.int .i64 1] w10 fun e5 w11 =>
         ∃ s4 : Slc, e5 = .returned s4.v ∧ Ahead w10 w11 ∧
         (∀ w12, Ext w11 w12 → Ahead w w12 →
          (Calls Tryd.prog 54 #[s4.v, Value.int .i64 (IntKind.i64.wrap (0 - a1_n))] w12 fun e6 w13 =>
           ∃ s5 : Slc, e6 = .returned s5.v ∧ Ahead w12 w13 ∧
           (∀ w14, Ext w13 w14 → Ahead w w14 →
            (Calls Tryd.prog 66 #[Value.bool false, s5.v] w14 fun e7 w15 =>
             ∃ b3 : Bool, ∃ s6 : Slc, e7 = .returned (Value.agg #[Value.bool b3, s6.v]) ∧ Ahead w14 w15 ∧
             (∀ w16, Ext w15 w16 → Ahead w w16 →
              (Calls Tryd.prog 81 #[Value.agg #[Value.bool a0_a_0, a0_a_1.v], Value.agg #[Value.bool b3, s6.v]] w16 fun e8 w17 =>
               ∃ b4 : Bool, ∃ s7 : Slc, ∃ b5 : Bool, ∃ s8 : Slc, e8 = .returned (Value.tuple #[Value.agg #[Value.bool b4, s7.v], Value.agg #[Value.bool b5, s8.v]]) ∧ Ahead w16 w17 ∧
               (∀ w18, Ext w17 w18 → Ahead w w18 →
                (R (.returned (Value.agg #[Value.bool b4, s7.v])) w18))))))))))))))
     :
    Calls Tryd.prog 53 #[Value.agg #[Value.bool a0_a_0, a0_a_1.v], Value.int .i64 a1_n] w (fun e_ w_ => Ahead w w_ ∧ R e_ w_) := by
  refine surdref06_Shift_vc a0_a_0 a0_a_1 a1_n w _  ?_
  · have A : Ahead w w := Ahead.refl w
    have X : Ext w w := Ext.refl w
    refine newC_t fun bk1 u1 hb1 ha_u1 hs B1 => ?_
    have g1 : w.heap.size ≤ bk1 := by have := A.size; omega
    replace A := A.trans ha_u1
    replace X := X.trans (Ext.of_ahead ha_u1)
    clear hs hb1
    refine newC_t fun bk2 u2 hb2 ha_u2 hs B2 => ?_
    have g2 : w.heap.size ≤ bk2 := by have := A.size; omega
    have l1_2 : bk1 < bk2 := by have := B1.lt; omega
    replace B1 := B1.ahead ha_u2
    replace A := A.trans ha_u2
    replace X := X.trans (Ext.of_ahead ha_u2)
    clear hs hb2
    refine br_map h (fun h_ => ?_) (fun h_ => ?_)
    · skip
      clear h
      have h := h_
      clear h_
      have hd_ := Sp.Ahead.drew u2
      replace B1 := B1.ahead hd_
      replace B2 := B2.ahead hd_
      replace A := A.trans hd_
      replace X := X.trans (Ext.of_ahead hd_)
      clear hd_
      refine ldB_t 0 B1 rfl ?_
      refine ldS_t 1 B1 rfl ?_
      replace h := h _ X A
      refine Calls.mono h ?_
      clear h
      rintro e1 w2 ⟨s1, he_, ha_w2, h⟩
      refine ⟨s1, he_, ?_⟩
      clear he_
      replace B1 := B1.ahead ha_w2
      replace B2 := B2.ahead ha_w2
      replace A := A.trans ha_w2
      replace X := X.trans (Ext.of_ahead ha_w2)
      replace X : Ext w2 w2 := Ext.refl _
      refine ⟨ha_w2, ?_⟩
      refine Calls.mono h ?_
      clear h
      rintro e2 w3 ⟨b1, s2, he_, ha_w3, h⟩
      refine ⟨b1, s2, he_, ?_⟩
      clear he_
      replace B1 := B1.ahead ha_w3
      replace B2 := B2.ahead ha_w3
      replace A := A.trans ha_w3
      replace X := X.trans (Ext.of_ahead ha_w3)
      replace X : Ext w3 w3 := Ext.refl _
      refine ⟨ha_w3, ?_⟩
      refine stC_t 0 B2 rfl rfl rfl fun u3 k_u3 B2_ => ?_
      replace B2 : Blt u3 bk2 44 #[Value.bool b1, (⟨none, 0, 0⟩ : Slc).v] := B2_
      clear B2_
      refine stC_t 1 B2 rfl rfl rfl fun u4 k_u4 B2_ => ?_
      replace B2 : Blt u4 bk2 44 #[Value.bool b1, s2.v] := B2_
      clear B2_
      have kk_u3 := (k_u3.trans k_u4)
      replace B1 := kk_u3.blt B1 (by omega)
      replace A := kk_u3.ahead A g2
      replace X := X.trans kk_u3.ext
      clear k_u4 k_u3
      refine ldB_t 0 B2 rfl ?_
      refine ldS_t 1 B2 rfl ?_
      replace h := h _ X A
      exact ⟨A, h⟩
    · skip
      clear h
      have h := h_
      clear h_
      refine ldS_t 1 B1 rfl ?_
      replace h := h _ X A
      refine Calls.mono h ?_
      clear h
      rintro e3 w6 ⟨x1, he_, ha_w6, h⟩
      refine ⟨x1, he_, ?_⟩
      clear he_
      replace B1 := B1.ahead ha_w6
      replace B2 := B2.ahead ha_w6
      replace A := A.trans ha_w6
      replace X := X.trans (Ext.of_ahead ha_w6)
      replace X : Ext w6 w6 := Ext.refl _
      refine br_map h (fun h_ => ?_) (fun h_ => ?_)
      · skip
        clear h
        have h := h_
        clear h_
        refine ldB_t 0 B1 rfl ?_
        refine br_map h (fun h_ => ?_) (fun h_ => ?_)
        · skip
          clear h
          have h := h_
          clear h_
          refine Calls.mono h ?_
          clear h
          rintro e4 w7 ⟨b2, s3, he_, ha_w7, h⟩
          refine ⟨b2, s3, he_, ?_⟩
          clear he_
          replace B1 := B1.ahead ha_w7
          replace B2 := B2.ahead ha_w7
          replace A := A.trans ha_w7
          replace X := X.trans (Ext.of_ahead ha_w7)
          replace X : Ext w7 w7 := Ext.refl _
          refine stC_t 0 B2 rfl rfl rfl fun u5 k_u5 B2_ => ?_
          replace B2 : Blt u5 bk2 44 #[Value.bool b2, (⟨none, 0, 0⟩ : Slc).v] := B2_
          clear B2_
          refine stC_t 1 B2 rfl rfl rfl fun u6 k_u6 B2_ => ?_
          replace B2 : Blt u6 bk2 44 #[Value.bool b2, s3.v] := B2_
          clear B2_
          have kk_u5 := (k_u5.trans k_u6)
          replace B1 := kk_u5.blt B1 (by omega)
          replace A := kk_u5.ahead A g2
          replace X := X.trans kk_u5.ext
          clear k_u6 k_u5
          refine ldB_t 0 B2 rfl ?_
          refine ldS_t 1 B2 rfl ?_
          replace h := h _ X A
          exact ⟨A, h⟩
        · skip
          clear h
          have h := h_
          clear h_
          refine stC_t 0 B2 rfl rfl rfl fun u7 k_u7 B2_ => ?_
          replace B2 : Blt u7 bk2 44 #[Value.bool false, (⟨none, 0, 0⟩ : Slc).v] := B2_
          clear B2_
          refine stC_t 1 B2 rfl rfl rfl fun u8 k_u8 B2_ => ?_
          replace B2 : Blt u8 bk2 44 #[Value.bool false, (⟨none, 0, 0⟩ : Slc).v] := B2_
          clear B2_
          have kk_u7 := (k_u7.trans k_u8)
          replace B1 := kk_u7.blt B1 (by omega)
          replace A := kk_u7.ahead A g2
          replace X := X.trans kk_u7.ext
          clear k_u8 k_u7
          refine ldB_t 0 B2 rfl ?_
          refine ldS_t 1 B2 rfl ?_
          replace h := h _ X A
          exact ⟨A, h⟩
      · skip
        clear h
        have h := h_
        clear h_
        have hd_ := Sp.Ahead.drew w6
        replace B1 := B1.ahead hd_
        replace B2 := B2.ahead hd_
        replace A := A.trans hd_
        replace X := X.trans (Ext.of_ahead hd_)
        clear hd_
        have z1 := B1.lt
        have z2 := B2.lt
        let V_ : Nat → Nat → Prop := fun (q_ k : Nat) => (k < 0 ∨ w6.drew.heap.size ≤ k) ∧ 0 ≤ k
        refine ⟨V_, ?_⟩
        have Y_ : w6.drew.heap.size ≤ w6.drew.heap.size := Nat.le_refl _
        refine out_t (b := bk1) (i := 0) (by first | rfl | exact Sp.add_off) (fun hv_ => (by replace hv_ : _ ∧ _ := hv_; omega)) ?_
        refine ldB_t 0 B1 rfl ?_
        refine ldS_t 1 B1 rfl ?_
        refine ⟨?_, ?_⟩
        · skip
          replace h := h _ X A
          refine Calls.mono h ?_
          clear h
          rintro e5 w11 ⟨s4, he_, ha_w11, h⟩
          refine ⟨s4, he_, ?_⟩
          clear he_
          replace B1 := B1.ahead ha_w11
          replace B2 := B2.ahead ha_w11
          replace Y_ := Nat.le_trans Y_ ha_w11.size
          replace A := A.trans ha_w11
          replace X := X.trans (Ext.of_ahead ha_w11)
          replace X : Ext w11 w11 := Ext.refl _
          refine ⟨(Bar.of_ahead ha_w11), ?_⟩
          refine ⟨?_, ?_⟩
          · skip
            replace h := h _ X A
            refine Calls.mono h ?_
            clear h
            rintro e6 w13 ⟨s5, he_, ha_w13, h⟩
            refine ⟨s5, he_, ?_⟩
            clear he_
            replace B1 := B1.ahead ha_w13
            replace B2 := B2.ahead ha_w13
            replace Y_ := Nat.le_trans Y_ ha_w13.size
            replace A := A.trans ha_w13
            replace X := X.trans (Ext.of_ahead ha_w13)
            replace X : Ext w13 w13 := Ext.refl _
            refine ⟨(Bar.of_ahead ha_w13), ?_⟩
            refine ⟨?_, ?_⟩
            · skip
              replace h := h _ X A
              refine Calls.mono h ?_
              clear h
              rintro e7 w15 ⟨b3, s6, he_, ha_w15, h⟩
              refine ⟨b3, s6, he_, ?_⟩
              clear he_
              replace B1 := B1.ahead ha_w15
              replace B2 := B2.ahead ha_w15
              replace Y_ := Nat.le_trans Y_ ha_w15.size
              replace A := A.trans ha_w15
              replace X := X.trans (Ext.of_ahead ha_w15)
              replace X : Ext w15 w15 := Ext.refl _
              refine ⟨(Bar.of_ahead ha_w15), ?_⟩
              refine ⟨?_, ?_⟩
              · skip
                replace h := h _ X A
                refine Calls.mono h ?_
                clear h
                rintro e8 w17 ⟨b4, s7, b5, s8, he_, ha_w17, h⟩
                refine ⟨b4, s7, b5, s8, he_, ?_⟩
                clear he_
                replace B1 := B1.ahead ha_w17
                replace B2 := B2.ahead ha_w17
                replace Y_ := Nat.le_trans Y_ ha_w17.size
                replace A := A.trans ha_w17
                replace X := X.trans (Ext.of_ahead ha_w17)
                replace X : Ext w17 w17 := Ext.refl _
                refine ⟨?_, ?_⟩
                · skip
                  refine newC_t fun bk3 u9 hb3 ha_u9 hs B3 => ?_
                  have g3 : w.heap.size ≤ bk3 := by have := A.size; omega
                  have l1_3 : bk1 < bk3 := by have := B1.lt; omega
                  have l2_3 : bk2 < bk3 := by have := B2.lt; omega
                  have y3 : w6.drew.heap.size ≤ bk3 := by omega
                  replace B1 := B1.ahead ha_u9
                  replace B2 := B2.ahead ha_u9
                  replace Y_ := Nat.le_trans Y_ ha_u9.size
                  replace A := A.trans ha_u9
                  replace X := X.trans (Ext.of_ahead ha_u9)
                  clear hs hb3
                  refine ⟨(Bar.of_ahead ha_u9), ?_⟩
                  refine newC_t fun bk4 u10 hb4 ha_u10 hs B4 => ?_
                  have g4 : w.heap.size ≤ bk4 := by have := A.size; omega
                  have l1_4 : bk1 < bk4 := by have := B1.lt; omega
                  have l2_4 : bk2 < bk4 := by have := B2.lt; omega
                  have l3_4 : bk3 < bk4 := by have := B3.lt; omega
                  have y4 : w6.drew.heap.size ≤ bk4 := by omega
                  replace B1 := B1.ahead ha_u10
                  replace B2 := B2.ahead ha_u10
                  replace B3 := B3.ahead ha_u10
                  replace Y_ := Nat.le_trans Y_ ha_u10.size
                  replace A := A.trans ha_u10
                  replace X := X.trans (Ext.of_ahead ha_u10)
                  clear hs hb4
                  refine ⟨(Bar.of_ahead ha_u10), ?_⟩
                  refine stC_t 0 B3 rfl rfl rfl fun u11 k_u11 B3_ => ?_
                  replace B3 : Blt u11 bk3 44 #[Value.bool b4, (⟨none, 0, 0⟩ : Slc).v] := B3_
                  clear B3_
                  refine stC_t 1 B3 rfl rfl rfl fun u12 k_u12 B3_ => ?_
                  replace B3 : Blt u12 bk3 44 #[Value.bool b4, s7.v] := B3_
                  clear B3_
                  have kk_u11 := (k_u11.trans k_u12)
                  replace B1 := kk_u11.blt B1 (by omega)
                  replace B2 := kk_u11.blt B2 (by omega)
                  replace B4 := kk_u11.blt B4 (by omega)
                  replace A := kk_u11.ahead A g3
                  replace X := X.trans kk_u11.ext
                  replace Y_ := Nat.le_trans Y_ (Nat.le_of_eq kk_u11.size.symm)
                  clear k_u12 k_u11
                  refine stC_t 0 B4 rfl rfl rfl fun u13 k_u13 B4_ => ?_
                  replace B4 : Blt u13 bk4 44 #[Value.bool b5, (⟨none, 0, 0⟩ : Slc).v] := B4_
                  clear B4_
                  refine stC_t 1 B4 rfl rfl rfl fun u14 k_u14 B4_ => ?_
                  replace B4 : Blt u14 bk4 44 #[Value.bool b5, s8.v] := B4_
                  clear B4_
                  have kk_u13 := (k_u13.trans k_u14)
                  replace B1 := kk_u13.blt B1 (by omega)
                  replace B2 := kk_u13.blt B2 (by omega)
                  replace B3 := kk_u13.blt B3 (by omega)
                  replace A := kk_u13.ahead A g4
                  replace X := X.trans kk_u13.ext
                  replace Y_ := Nat.le_trans Y_ (Nat.le_of_eq kk_u13.size.symm)
                  clear k_u14 k_u13
                  refine ldB_t 0 B3 rfl ?_
                  refine ldS_t 1 B3 rfl ?_
                  refine stC_t 0 B2 rfl rfl rfl fun u15 k_u15 B2_ => ?_
                  replace B2 : Blt u15 bk2 44 #[Value.bool b4, (⟨none, 0, 0⟩ : Slc).v] := B2_
                  clear B2_
                  refine stC_t 1 B2 rfl rfl rfl fun u16 k_u16 B2_ => ?_
                  replace B2 : Blt u16 bk2 44 #[Value.bool b4, s7.v] := B2_
                  clear B2_
                  have kk_u15 := (k_u15.trans k_u16)
                  replace B1 := kk_u15.blt B1 (by omega)
                  replace B3 := kk_u15.blt B3 (by omega)
                  replace B4 := kk_u15.blt B4 (by omega)
                  replace A := kk_u15.ahead A g2
                  replace X := X.trans kk_u15.ext
                  clear k_u16 k_u15
                  refine ldB_t 0 B2 rfl ?_
                  refine ldS_t 1 B2 rfl ?_
                  replace h := h _ X A
                  exact ⟨A, h⟩
                · skip
                  refine newC_t fun bk5 u17 hb5 ha_u17 hs B5 => ?_
                  have g5 : w.heap.size ≤ bk5 := by have := A.size; omega
                  have l1_5 : bk1 < bk5 := by have := B1.lt; omega
                  have l2_5 : bk2 < bk5 := by have := B2.lt; omega
                  have y5 : w6.drew.heap.size ≤ bk5 := by omega
                  replace B1 := B1.ahead ha_u17
                  replace B2 := B2.ahead ha_u17
                  replace Y_ := Nat.le_trans Y_ ha_u17.size
                  replace A := A.trans ha_u17
                  replace X := X.trans (Ext.of_ahead ha_u17)
                  clear hs hb5
                  refine ⟨(Bar.of_ahead ha_u17), ?_⟩
                  refine newC_t fun bk6 u18 hb6 ha_u18 hs B6 => ?_
                  have g6 : w.heap.size ≤ bk6 := by have := A.size; omega
                  have l1_6 : bk1 < bk6 := by have := B1.lt; omega
                  have l2_6 : bk2 < bk6 := by have := B2.lt; omega
                  have l5_6 : bk5 < bk6 := by have := B5.lt; omega
                  have y6 : w6.drew.heap.size ≤ bk6 := by omega
                  replace B1 := B1.ahead ha_u18
                  replace B2 := B2.ahead ha_u18
                  replace B5 := B5.ahead ha_u18
                  replace Y_ := Nat.le_trans Y_ ha_u18.size
                  replace A := A.trans ha_u18
                  replace X := X.trans (Ext.of_ahead ha_u18)
                  clear hs hb6
                  refine ⟨(Bar.of_ahead ha_u18), ?_⟩
                  refine stC_t 0 B6 rfl rfl rfl fun u19 k_u19 B6_ => ?_
                  replace B6 : Blt u19 bk6 44 #[Value.bool b4, (⟨none, 0, 0⟩ : Slc).v] := B6_
                  clear B6_
                  refine stC_t 1 B6 rfl rfl rfl fun u20 k_u20 B6_ => ?_
                  replace B6 : Blt u20 bk6 44 #[Value.bool b4, s7.v] := B6_
                  clear B6_
                  have kk_u19 := (k_u19.trans k_u20)
                  replace B1 := kk_u19.blt B1 (by omega)
                  replace B2 := kk_u19.blt B2 (by omega)
                  replace B5 := kk_u19.blt B5 (by omega)
                  replace A := kk_u19.ahead A g6
                  replace X := X.trans kk_u19.ext
                  replace Y_ := Nat.le_trans Y_ (Nat.le_of_eq kk_u19.size.symm)
                  clear k_u20 k_u19
                  refine stC_t 0 B5 rfl rfl rfl fun u21 k_u21 B5_ => ?_
                  replace B5 : Blt u21 bk5 44 #[Value.bool b5, (⟨none, 0, 0⟩ : Slc).v] := B5_
                  clear B5_
                  refine stC_t 1 B5 rfl rfl rfl fun u22 k_u22 B5_ => ?_
                  replace B5 : Blt u22 bk5 44 #[Value.bool b5, s8.v] := B5_
                  clear B5_
                  have kk_u21 := (k_u21.trans k_u22)
                  replace B1 := kk_u21.blt B1 (by omega)
                  replace B2 := kk_u21.blt B2 (by omega)
                  replace B6 := kk_u21.blt B6 (by omega)
                  replace A := kk_u21.ahead A g5
                  replace X := X.trans kk_u21.ext
                  replace Y_ := Nat.le_trans Y_ (Nat.le_of_eq kk_u21.size.symm)
                  clear k_u22 k_u21
                  refine ldB_t 0 B6 rfl ?_
                  refine ldS_t 1 B6 rfl ?_
                  refine stC_t 0 B2 rfl rfl rfl fun u23 k_u23 B2_ => ?_
                  replace B2 : Blt u23 bk2 44 #[Value.bool b4, (⟨none, 0, 0⟩ : Slc).v] := B2_
                  clear B2_
                  refine stC_t 1 B2 rfl rfl rfl fun u24 k_u24 B2_ => ?_
                  replace B2 : Blt u24 bk2 44 #[Value.bool b4, s7.v] := B2_
                  clear B2_
                  have kk_u23 := (k_u23.trans k_u24)
                  replace B1 := kk_u23.blt B1 (by omega)
                  replace B5 := kk_u23.blt B5 (by omega)
                  replace B6 := kk_u23.blt B6 (by omega)
                  replace A := kk_u23.ahead A g2
                  replace X := X.trans kk_u23.ext
                  clear k_u24 k_u23
                  refine ldB_t 0 B2 rfl ?_
                  refine ldS_t 1 B2 rfl ?_
                  replace h := h _ X A
                  exact ⟨A, h⟩
              · skip
                refine ⟨?_, ?_⟩
                · skip
                  refine newC_t fun bk7 u25 hb7 ha_u25 hs B7 => ?_
                  have g7 : w.heap.size ≤ bk7 := by have := A.size; omega
                  have l1_7 : bk1 < bk7 := by have := B1.lt; omega
                  have l2_7 : bk2 < bk7 := by have := B2.lt; omega
                  have y7 : w6.drew.heap.size ≤ bk7 := by omega
                  replace B1 := B1.ahead ha_u25
                  replace B2 := B2.ahead ha_u25
                  replace Y_ := Nat.le_trans Y_ ha_u25.size
                  replace A := A.trans ha_u25
                  replace X := X.trans (Ext.of_ahead ha_u25)
                  clear hs hb7
                  refine ⟨(Bar.of_ahead ha_u25), ?_⟩
                  refine ⟨?_, ?_⟩
                  · skip
                    replace h := h _ X A
                    refine Calls.mono h ?_
                    clear h
                    rintro e9 w21 ⟨b6, s9, b7, s10, he_, ha_w21, h⟩
                    refine ⟨b6, s9, b7, s10, he_, ?_⟩
                    clear he_
                    replace B1 := B1.ahead ha_w21
                    replace B2 := B2.ahead ha_w21
                    replace B7 := B7.ahead ha_w21
                    replace Y_ := Nat.le_trans Y_ ha_w21.size
                    replace A := A.trans ha_w21
                    replace X := X.trans (Ext.of_ahead ha_w21)
                    replace X : Ext w21 w21 := Ext.refl _
                    refine newC_t fun bk8 u26 hb8 ha_u26 hs B8 => ?_
                    have g8 : w.heap.size ≤ bk8 := by have := A.size; omega
                    have l1_8 : bk1 < bk8 := by have := B1.lt; omega
                    have l2_8 : bk2 < bk8 := by have := B2.lt; omega
                    have l7_8 : bk7 < bk8 := by have := B7.lt; omega
                    have y8 : w6.drew.heap.size ≤ bk8 := by omega
                    replace B1 := B1.ahead ha_u26
                    replace B2 := B2.ahead ha_u26
                    replace B7 := B7.ahead ha_u26
                    replace Y_ := Nat.le_trans Y_ ha_u26.size
                    replace A := A.trans ha_u26
                    replace X := X.trans (Ext.of_ahead ha_u26)
                    clear hs hb8
                    refine ⟨(Bar.of_ahead ha_u26), ?_⟩
                    refine stC_t 0 B7 rfl rfl rfl fun u27 k_u27 B7_ => ?_
                    replace B7 : Blt u27 bk7 44 #[Value.bool b6, (⟨none, 0, 0⟩ : Slc).v] := B7_
                    clear B7_
                    refine stC_t 1 B7 rfl rfl rfl fun u28 k_u28 B7_ => ?_
                    replace B7 : Blt u28 bk7 44 #[Value.bool b6, s9.v] := B7_
                    clear B7_
                    have kk_u27 := (k_u27.trans k_u28)
                    replace B1 := kk_u27.blt B1 (by omega)
                    replace B2 := kk_u27.blt B2 (by omega)
                    replace B8 := kk_u27.blt B8 (by omega)
                    replace A := kk_u27.ahead A g7
                    replace X := X.trans kk_u27.ext
                    replace Y_ := Nat.le_trans Y_ (Nat.le_of_eq kk_u27.size.symm)
                    clear k_u28 k_u27
                    refine stC_t 0 B8 rfl rfl rfl fun u29 k_u29 B8_ => ?_
                    replace B8 : Blt u29 bk8 44 #[Value.bool b7, (⟨none, 0, 0⟩ : Slc).v] := B8_
                    clear B8_
                    refine stC_t 1 B8 rfl rfl rfl fun u30 k_u30 B8_ => ?_
                    replace B8 : Blt u30 bk8 44 #[Value.bool b7, s10.v] := B8_
                    clear B8_
                    have kk_u29 := (k_u29.trans k_u30)
                    replace B1 := kk_u29.blt B1 (by omega)
                    replace B2 := kk_u29.blt B2 (by omega)
                    replace B7 := kk_u29.blt B7 (by omega)
                    replace A := kk_u29.ahead A g8
                    replace X := X.trans kk_u29.ext
                    replace Y_ := Nat.le_trans Y_ (Nat.le_of_eq kk_u29.size.symm)
                    clear k_u30 k_u29
                    refine ldB_t 0 B7 rfl ?_
                    refine ldS_t 1 B7 rfl ?_
                    refine stC_t 0 B2 rfl rfl rfl fun u31 k_u31 B2_ => ?_
                    replace B2 : Blt u31 bk2 44 #[Value.bool b6, (⟨none, 0, 0⟩ : Slc).v] := B2_
                    clear B2_
                    refine stC_t 1 B2 rfl rfl rfl fun u32 k_u32 B2_ => ?_
                    replace B2 : Blt u32 bk2 44 #[Value.bool b6, s9.v] := B2_
                    clear B2_
                    have kk_u31 := (k_u31.trans k_u32)
                    replace B1 := kk_u31.blt B1 (by omega)
                    replace B7 := kk_u31.blt B7 (by omega)
                    replace B8 := kk_u31.blt B8 (by omega)
                    replace A := kk_u31.ahead A g2
                    replace X := X.trans kk_u31.ext
                    clear k_u32 k_u31
                    refine ldB_t 0 B2 rfl ?_
                    refine ldS_t 1 B2 rfl ?_
                    replace h := h _ X A
                    exact ⟨A, h⟩
                  · skip
                    refine newC_t fun bk9 u33 hb9 ha_u33 hs B9 => ?_
                    have g9 : w.heap.size ≤ bk9 := by have := A.size; omega
                    have l1_9 : bk1 < bk9 := by have := B1.lt; omega
                    have l2_9 : bk2 < bk9 := by have := B2.lt; omega
                    have l7_9 : bk7 < bk9 := by have := B7.lt; omega
                    have y9 : w6.drew.heap.size ≤ bk9 := by omega
                    replace B1 := B1.ahead ha_u33
                    replace B2 := B2.ahead ha_u33
                    replace B7 := B7.ahead ha_u33
                    replace Y_ := Nat.le_trans Y_ ha_u33.size
                    replace A := A.trans ha_u33
                    replace X := X.trans (Ext.of_ahead ha_u33)
                    clear hs hb9
                    refine ⟨(Bar.of_ahead ha_u33), ?_⟩
                    replace h := h _ X A
                    refine Calls.mono h ?_
                    clear h
                    rintro e10 w24 ⟨b8, s11, b9, s12, he_, ha_w24, h⟩
                    refine ⟨b8, s11, b9, s12, he_, ?_⟩
                    clear he_
                    replace B1 := B1.ahead ha_w24
                    replace B2 := B2.ahead ha_w24
                    replace B7 := B7.ahead ha_w24
                    replace B9 := B9.ahead ha_w24
                    replace Y_ := Nat.le_trans Y_ ha_w24.size
                    replace A := A.trans ha_w24
                    replace X := X.trans (Ext.of_ahead ha_w24)
                    replace X : Ext w24 w24 := Ext.refl _
                    refine stC_t 0 B7 rfl rfl rfl fun u34 k_u34 B7_ => ?_
                    replace B7 : Blt u34 bk7 44 #[Value.bool b8, (⟨none, 0, 0⟩ : Slc).v] := B7_
                    clear B7_
                    refine stC_t 1 B7 rfl rfl rfl fun u35 k_u35 B7_ => ?_
                    replace B7 : Blt u35 bk7 44 #[Value.bool b8, s11.v] := B7_
                    clear B7_
                    have kk_u34 := (k_u34.trans k_u35)
                    replace B1 := kk_u34.blt B1 (by omega)
                    replace B2 := kk_u34.blt B2 (by omega)
                    replace B9 := kk_u34.blt B9 (by omega)
                    replace A := kk_u34.ahead A g7
                    replace X := X.trans kk_u34.ext
                    replace Y_ := Nat.le_trans Y_ (Nat.le_of_eq kk_u34.size.symm)
                    clear k_u35 k_u34
                    refine stC_t 0 B9 rfl rfl rfl fun u36 k_u36 B9_ => ?_
                    replace B9 : Blt u36 bk9 44 #[Value.bool b9, (⟨none, 0, 0⟩ : Slc).v] := B9_
                    clear B9_
                    refine stC_t 1 B9 rfl rfl rfl fun u37 k_u37 B9_ => ?_
                    replace B9 : Blt u37 bk9 44 #[Value.bool b9, s12.v] := B9_
                    clear B9_
                    have kk_u36 := (k_u36.trans k_u37)
                    replace B1 := kk_u36.blt B1 (by omega)
                    replace B2 := kk_u36.blt B2 (by omega)
                    replace B7 := kk_u36.blt B7 (by omega)
                    replace A := kk_u36.ahead A g9
                    replace X := X.trans kk_u36.ext
                    replace Y_ := Nat.le_trans Y_ (Nat.le_of_eq kk_u36.size.symm)
                    clear k_u37 k_u36
                    refine ldB_t 0 B7 rfl ?_
                    refine ldS_t 1 B7 rfl ?_
                    refine stC_t 0 B2 rfl rfl rfl fun u38 k_u38 B2_ => ?_
                    replace B2 : Blt u38 bk2 44 #[Value.bool b8, (⟨none, 0, 0⟩ : Slc).v] := B2_
                    clear B2_
                    refine stC_t 1 B2 rfl rfl rfl fun u39 k_u39 B2_ => ?_
                    replace B2 : Blt u39 bk2 44 #[Value.bool b8, s11.v] := B2_
                    clear B2_
                    have kk_u38 := (k_u38.trans k_u39)
                    replace B1 := kk_u38.blt B1 (by omega)
                    replace B7 := kk_u38.blt B7 (by omega)
                    replace B9 := kk_u38.blt B9 (by omega)
                    replace A := kk_u38.ahead A g2
                    replace X := X.trans kk_u38.ext
                    clear k_u39 k_u38
                    refine ldB_t 0 B2 rfl ?_
                    refine ldS_t 1 B2 rfl ?_
                    replace h := h _ X A
                    exact ⟨A, h⟩
                · skip
                  refine newC_t fun bk10 u40 hb10 ha_u40 hs B10 => ?_
                  have g10 : w.heap.size ≤ bk10 := by have := A.size; omega
                  have l1_10 : bk1 < bk10 := by have := B1.lt; omega
                  have l2_10 : bk2 < bk10 := by have := B2.lt; omega
                  have y10 : w6.drew.heap.size ≤ bk10 := by omega
                  replace B1 := B1.ahead ha_u40
                  replace B2 := B2.ahead ha_u40
                  replace Y_ := Nat.le_trans Y_ ha_u40.size
                  replace A := A.trans ha_u40
                  replace X := X.trans (Ext.of_ahead ha_u40)
                  clear hs hb10
                  refine ⟨(Bar.of_ahead ha_u40), ?_⟩
                  refine ⟨?_, ?_⟩
                  · skip
                    replace h := h _ X A
                    refine Calls.mono h ?_
                    clear h
                    rintro e11 w27 ⟨b10, s13, b11, s14, he_, ha_w27, h⟩
                    refine ⟨b10, s13, b11, s14, he_, ?_⟩
                    clear he_
                    replace B1 := B1.ahead ha_w27
                    replace B2 := B2.ahead ha_w27
                    replace B10 := B10.ahead ha_w27
                    replace Y_ := Nat.le_trans Y_ ha_w27.size
                    replace A := A.trans ha_w27
                    replace X := X.trans (Ext.of_ahead ha_w27)
                    replace X : Ext w27 w27 := Ext.refl _
                    refine newC_t fun bk11 u41 hb11 ha_u41 hs B11 => ?_
                    have g11 : w.heap.size ≤ bk11 := by have := A.size; omega
                    have l1_11 : bk1 < bk11 := by have := B1.lt; omega
                    have l2_11 : bk2 < bk11 := by have := B2.lt; omega
                    have l10_11 : bk10 < bk11 := by have := B10.lt; omega
                    have y11 : w6.drew.heap.size ≤ bk11 := by omega
                    replace B1 := B1.ahead ha_u41
                    replace B2 := B2.ahead ha_u41
                    replace B10 := B10.ahead ha_u41
                    replace Y_ := Nat.le_trans Y_ ha_u41.size
                    replace A := A.trans ha_u41
                    replace X := X.trans (Ext.of_ahead ha_u41)
                    clear hs hb11
                    refine ⟨(Bar.of_ahead ha_u41), ?_⟩
                    refine stC_t 0 B11 rfl rfl rfl fun u42 k_u42 B11_ => ?_
                    replace B11 : Blt u42 bk11 44 #[Value.bool b10, (⟨none, 0, 0⟩ : Slc).v] := B11_
                    clear B11_
                    refine stC_t 1 B11 rfl rfl rfl fun u43 k_u43 B11_ => ?_
                    replace B11 : Blt u43 bk11 44 #[Value.bool b10, s13.v] := B11_
                    clear B11_
                    have kk_u42 := (k_u42.trans k_u43)
                    replace B1 := kk_u42.blt B1 (by omega)
                    replace B2 := kk_u42.blt B2 (by omega)
                    replace B10 := kk_u42.blt B10 (by omega)
                    replace A := kk_u42.ahead A g11
                    replace X := X.trans kk_u42.ext
                    replace Y_ := Nat.le_trans Y_ (Nat.le_of_eq kk_u42.size.symm)
                    clear k_u43 k_u42
                    refine stC_t 0 B10 rfl rfl rfl fun u44 k_u44 B10_ => ?_
                    replace B10 : Blt u44 bk10 44 #[Value.bool b11, (⟨none, 0, 0⟩ : Slc).v] := B10_
                    clear B10_
                    refine stC_t 1 B10 rfl rfl rfl fun u45 k_u45 B10_ => ?_
                    replace B10 : Blt u45 bk10 44 #[Value.bool b11, s14.v] := B10_
                    clear B10_
                    have kk_u44 := (k_u44.trans k_u45)
                    replace B1 := kk_u44.blt B1 (by omega)
                    replace B2 := kk_u44.blt B2 (by omega)
                    replace B11 := kk_u44.blt B11 (by omega)
                    replace A := kk_u44.ahead A g10
                    replace X := X.trans kk_u44.ext
                    replace Y_ := Nat.le_trans Y_ (Nat.le_of_eq kk_u44.size.symm)
                    clear k_u45 k_u44
                    refine ldB_t 0 B11 rfl ?_
                    refine ldS_t 1 B11 rfl ?_
                    refine stC_t 0 B2 rfl rfl rfl fun u46 k_u46 B2_ => ?_
                    replace B2 : Blt u46 bk2 44 #[Value.bool b10, (⟨none, 0, 0⟩ : Slc).v] := B2_
                    clear B2_
                    refine stC_t 1 B2 rfl rfl rfl fun u47 k_u47 B2_ => ?_
                    replace B2 : Blt u47 bk2 44 #[Value.bool b10, s13.v] := B2_
                    clear B2_
                    have kk_u46 := (k_u46.trans k_u47)
                    replace B1 := kk_u46.blt B1 (by omega)
                    replace B10 := kk_u46.blt B10 (by omega)
                    replace B11 := kk_u46.blt B11 (by omega)
                    replace A := kk_u46.ahead A g2
                    replace X := X.trans kk_u46.ext
                    clear k_u47 k_u46
                    refine ldB_t 0 B2 rfl ?_
                    refine ldS_t 1 B2 rfl ?_
                    replace h := h _ X A
                    exact ⟨A, h⟩
                  · skip
                    refine newC_t fun bk12 u48 hb12 ha_u48 hs B12 => ?_
                    have g12 : w.heap.size ≤ bk12 := by have := A.size; omega
                    have l1_12 : bk1 < bk12 := by have := B1.lt; omega
                    have l2_12 : bk2 < bk12 := by have := B2.lt; omega
                    have l10_12 : bk10 < bk12 := by have := B10.lt; omega
                    have y12 : w6.drew.heap.size ≤ bk12 := by omega
                    replace B1 := B1.ahead ha_u48
                    replace B2 := B2.ahead ha_u48
                    replace B10 := B10.ahead ha_u48
                    replace Y_ := Nat.le_trans Y_ ha_u48.size
                    replace A := A.trans ha_u48
                    replace X := X.trans (Ext.of_ahead ha_u48)
                    clear hs hb12
                    refine ⟨(Bar.of_ahead ha_u48), ?_⟩
                    replace h := h _ X A
                    refine Calls.mono h ?_
                    clear h
                    rintro e12 w30 ⟨b12, s15, b13, s16, he_, ha_w30, h⟩
                    refine ⟨b12, s15, b13, s16, he_, ?_⟩
                    clear he_
                    replace B1 := B1.ahead ha_w30
                    replace B2 := B2.ahead ha_w30
                    replace B10 := B10.ahead ha_w30
                    replace B12 := B12.ahead ha_w30
                    replace Y_ := Nat.le_trans Y_ ha_w30.size
                    replace A := A.trans ha_w30
                    replace X := X.trans (Ext.of_ahead ha_w30)
                    replace X : Ext w30 w30 := Ext.refl _
                    refine stC_t 0 B12 rfl rfl rfl fun u49 k_u49 B12_ => ?_
                    replace B12 : Blt u49 bk12 44 #[Value.bool b12, (⟨none, 0, 0⟩ : Slc).v] := B12_
                    clear B12_
                    refine stC_t 1 B12 rfl rfl rfl fun u50 k_u50 B12_ => ?_
                    replace B12 : Blt u50 bk12 44 #[Value.bool b12, s15.v] := B12_
                    clear B12_
                    have kk_u49 := (k_u49.trans k_u50)
                    replace B1 := kk_u49.blt B1 (by omega)
                    replace B2 := kk_u49.blt B2 (by omega)
                    replace B10 := kk_u49.blt B10 (by omega)
                    replace A := kk_u49.ahead A g12
                    replace X := X.trans kk_u49.ext
                    replace Y_ := Nat.le_trans Y_ (Nat.le_of_eq kk_u49.size.symm)
                    clear k_u50 k_u49
                    refine stC_t 0 B10 rfl rfl rfl fun u51 k_u51 B10_ => ?_
                    replace B10 : Blt u51 bk10 44 #[Value.bool b13, (⟨none, 0, 0⟩ : Slc).v] := B10_
                    clear B10_
                    refine stC_t 1 B10 rfl rfl rfl fun u52 k_u52 B10_ => ?_
                    replace B10 : Blt u52 bk10 44 #[Value.bool b13, s16.v] := B10_
                    clear B10_
                    have kk_u51 := (k_u51.trans k_u52)
                    replace B1 := kk_u51.blt B1 (by omega)
                    replace B2 := kk_u51.blt B2 (by omega)
                    replace B12 := kk_u51.blt B12 (by omega)
                    replace A := kk_u51.ahead A g10
                    replace X := X.trans kk_u51.ext
                    replace Y_ := Nat.le_trans Y_ (Nat.le_of_eq kk_u51.size.symm)
                    clear k_u52 k_u51
                    refine ldB_t 0 B12 rfl ?_
                    refine ldS_t 1 B12 rfl ?_
                    refine stC_t 0 B2 rfl rfl rfl fun u53 k_u53 B2_ => ?_
                    replace B2 : Blt u53 bk2 44 #[Value.bool b12, (⟨none, 0, 0⟩ : Slc).v] := B2_
                    clear B2_
                    refine stC_t 1 B2 rfl rfl rfl fun u54 k_u54 B2_ => ?_
                    replace B2 : Blt u54 bk2 44 #[Value.bool b12, s15.v] := B2_
                    clear B2_
                    have kk_u53 := (k_u53.trans k_u54)
                    replace B1 := kk_u53.blt B1 (by omega)
                    replace B10 := kk_u53.blt B10 (by omega)
                    replace B12 := kk_u53.blt B12 (by omega)
                    replace A := kk_u53.ahead A g2
                    replace X := X.trans kk_u53.ext
                    clear k_u54 k_u53
                    refine ldB_t 0 B2 rfl ?_
                    refine ldS_t 1 B2 rfl ?_
                    replace h := h _ X A
                    exact ⟨A, h⟩
            · skip
              refine ⟨?_, ?_⟩
              · skip
                refine newC_t fun bk13 u55 hb13 ha_u55 hs B13 => ?_
                have g13 : w.heap.size ≤ bk13 := by have := A.size; omega
                have l1_13 : bk1 < bk13 := by have := B1.lt; omega
                have l2_13 : bk2 < bk13 := by have := B2.lt; omega
                have y13 : w6.drew.heap.size ≤ bk13 := by omega
                replace B1 := B1.ahead ha_u55
                replace B2 := B2.ahead ha_u55
                replace Y_ := Nat.le_trans Y_ ha_u55.size
                replace A := A.trans ha_u55
                replace X := X.trans (Ext.of_ahead ha_u55)
                clear hs hb13
                refine ⟨(Bar.of_ahead ha_u55), ?_⟩
                refine ⟨?_, ?_⟩
                · skip
                  replace h := h _ X A
                  refine Calls.mono h ?_
                  clear h
                  rintro e13 w33 ⟨b14, s17, he_, ha_w33, h⟩
                  refine ⟨b14, s17, he_, ?_⟩
                  clear he_
                  replace B1 := B1.ahead ha_w33
                  replace B2 := B2.ahead ha_w33
                  replace B13 := B13.ahead ha_w33
                  replace Y_ := Nat.le_trans Y_ ha_w33.size
                  replace A := A.trans ha_w33
                  replace X := X.trans (Ext.of_ahead ha_w33)
                  replace X : Ext w33 w33 := Ext.refl _
                  refine ⟨(Bar.of_ahead ha_w33), ?_⟩
                  refine ⟨?_, ?_⟩
                  · skip
                    replace h := h _ X A
                    refine Calls.mono h ?_
                    clear h
                    rintro e14 w35 ⟨b15, s18, b16, s19, he_, ha_w35, h⟩
                    refine ⟨b15, s18, b16, s19, he_, ?_⟩
                    clear he_
                    replace B1 := B1.ahead ha_w35
                    replace B2 := B2.ahead ha_w35
                    replace B13 := B13.ahead ha_w35
                    replace Y_ := Nat.le_trans Y_ ha_w35.size
                    replace A := A.trans ha_w35
                    replace X := X.trans (Ext.of_ahead ha_w35)
                    replace X : Ext w35 w35 := Ext.refl _
                    refine newC_t fun bk14 u56 hb14 ha_u56 hs B14 => ?_
                    have g14 : w.heap.size ≤ bk14 := by have := A.size; omega
                    have l1_14 : bk1 < bk14 := by have := B1.lt; omega
                    have l2_14 : bk2 < bk14 := by have := B2.lt; omega
                    have l13_14 : bk13 < bk14 := by have := B13.lt; omega
                    have y14 : w6.drew.heap.size ≤ bk14 := by omega
                    replace B1 := B1.ahead ha_u56
                    replace B2 := B2.ahead ha_u56
                    replace B13 := B13.ahead ha_u56
                    replace Y_ := Nat.le_trans Y_ ha_u56.size
                    replace A := A.trans ha_u56
                    replace X := X.trans (Ext.of_ahead ha_u56)
                    clear hs hb14
                    refine ⟨(Bar.of_ahead ha_u56), ?_⟩
                    refine stC_t 0 B13 rfl rfl rfl fun u57 k_u57 B13_ => ?_
                    replace B13 : Blt u57 bk13 44 #[Value.bool b15, (⟨none, 0, 0⟩ : Slc).v] := B13_
                    clear B13_
                    refine stC_t 1 B13 rfl rfl rfl fun u58 k_u58 B13_ => ?_
                    replace B13 : Blt u58 bk13 44 #[Value.bool b15, s18.v] := B13_
                    clear B13_
                    have kk_u57 := (k_u57.trans k_u58)
                    replace B1 := kk_u57.blt B1 (by omega)
                    replace B2 := kk_u57.blt B2 (by omega)
                    replace B14 := kk_u57.blt B14 (by omega)
                    replace A := kk_u57.ahead A g13
                    replace X := X.trans kk_u57.ext
                    replace Y_ := Nat.le_trans Y_ (Nat.le_of_eq kk_u57.size.symm)
                    clear k_u58 k_u57
                    refine stC_t 0 B14 rfl rfl rfl fun u59 k_u59 B14_ => ?_
                    replace B14 : Blt u59 bk14 44 #[Value.bool b16, (⟨none, 0, 0⟩ : Slc).v] := B14_
                    clear B14_
                    refine stC_t 1 B14 rfl rfl rfl fun u60 k_u60 B14_ => ?_
                    replace B14 : Blt u60 bk14 44 #[Value.bool b16, s19.v] := B14_
                    clear B14_
                    have kk_u59 := (k_u59.trans k_u60)
                    replace B1 := kk_u59.blt B1 (by omega)
                    replace B2 := kk_u59.blt B2 (by omega)
                    replace B13 := kk_u59.blt B13 (by omega)
                    replace A := kk_u59.ahead A g14
                    replace X := X.trans kk_u59.ext
                    replace Y_ := Nat.le_trans Y_ (Nat.le_of_eq kk_u59.size.symm)
                    clear k_u60 k_u59
                    refine ldB_t 0 B13 rfl ?_
                    refine ldS_t 1 B13 rfl ?_
                    refine stC_t 0 B2 rfl rfl rfl fun u61 k_u61 B2_ => ?_
                    replace B2 : Blt u61 bk2 44 #[Value.bool b15, (⟨none, 0, 0⟩ : Slc).v] := B2_
                    clear B2_
                    refine stC_t 1 B2 rfl rfl rfl fun u62 k_u62 B2_ => ?_
                    replace B2 : Blt u62 bk2 44 #[Value.bool b15, s18.v] := B2_
                    clear B2_
                    have kk_u61 := (k_u61.trans k_u62)
                    replace B1 := kk_u61.blt B1 (by omega)
                    replace B13 := kk_u61.blt B13 (by omega)
                    replace B14 := kk_u61.blt B14 (by omega)
                    replace A := kk_u61.ahead A g2
                    replace X := X.trans kk_u61.ext
                    clear k_u62 k_u61
                    refine ldB_t 0 B2 rfl ?_
                    refine ldS_t 1 B2 rfl ?_
                    replace h := h _ X A
                    exact ⟨A, h⟩
                  · skip
                    refine newC_t fun bk15 u63 hb15 ha_u63 hs B15 => ?_
                    have g15 : w.heap.size ≤ bk15 := by have := A.size; omega
                    have l1_15 : bk1 < bk15 := by have := B1.lt; omega
                    have l2_15 : bk2 < bk15 := by have := B2.lt; omega
                    have l13_15 : bk13 < bk15 := by have := B13.lt; omega
                    have y15 : w6.drew.heap.size ≤ bk15 := by omega
                    replace B1 := B1.ahead ha_u63
                    replace B2 := B2.ahead ha_u63
                    replace B13 := B13.ahead ha_u63
                    replace Y_ := Nat.le_trans Y_ ha_u63.size
                    replace A := A.trans ha_u63
                    replace X := X.trans (Ext.of_ahead ha_u63)
                    clear hs hb15
                    refine ⟨(Bar.of_ahead ha_u63), ?_⟩
                    replace h := h _ X A
                    refine Calls.mono h ?_
                    clear h
                    rintro e15 w38 ⟨b17, s20, b18, s21, he_, ha_w38, h⟩
                    refine ⟨b17, s20, b18, s21, he_, ?_⟩
                    clear he_
                    replace B1 := B1.ahead ha_w38
                    replace B2 := B2.ahead ha_w38
                    replace B13 := B13.ahead ha_w38
                    replace B15 := B15.ahead ha_w38
                    replace Y_ := Nat.le_trans Y_ ha_w38.size
                    replace A := A.trans ha_w38
                    replace X := X.trans (Ext.of_ahead ha_w38)
                    replace X : Ext w38 w38 := Ext.refl _
                    refine stC_t 0 B13 rfl rfl rfl fun u64 k_u64 B13_ => ?_
                    replace B13 : Blt u64 bk13 44 #[Value.bool b17, (⟨none, 0, 0⟩ : Slc).v] := B13_
                    clear B13_
                    refine stC_t 1 B13 rfl rfl rfl fun u65 k_u65 B13_ => ?_
                    replace B13 : Blt u65 bk13 44 #[Value.bool b17, s20.v] := B13_
                    clear B13_
                    have kk_u64 := (k_u64.trans k_u65)
                    replace B1 := kk_u64.blt B1 (by omega)
                    replace B2 := kk_u64.blt B2 (by omega)
                    replace B15 := kk_u64.blt B15 (by omega)
                    replace A := kk_u64.ahead A g13
                    replace X := X.trans kk_u64.ext
                    replace Y_ := Nat.le_trans Y_ (Nat.le_of_eq kk_u64.size.symm)
                    clear k_u65 k_u64
                    refine stC_t 0 B15 rfl rfl rfl fun u66 k_u66 B15_ => ?_
                    replace B15 : Blt u66 bk15 44 #[Value.bool b18, (⟨none, 0, 0⟩ : Slc).v] := B15_
                    clear B15_
                    refine stC_t 1 B15 rfl rfl rfl fun u67 k_u67 B15_ => ?_
                    replace B15 : Blt u67 bk15 44 #[Value.bool b18, s21.v] := B15_
                    clear B15_
                    have kk_u66 := (k_u66.trans k_u67)
                    replace B1 := kk_u66.blt B1 (by omega)
                    replace B2 := kk_u66.blt B2 (by omega)
                    replace B13 := kk_u66.blt B13 (by omega)
                    replace A := kk_u66.ahead A g15
                    replace X := X.trans kk_u66.ext
                    replace Y_ := Nat.le_trans Y_ (Nat.le_of_eq kk_u66.size.symm)
                    clear k_u67 k_u66
                    refine ldB_t 0 B13 rfl ?_
                    refine ldS_t 1 B13 rfl ?_
                    refine stC_t 0 B2 rfl rfl rfl fun u68 k_u68 B2_ => ?_
                    replace B2 : Blt u68 bk2 44 #[Value.bool b17, (⟨none, 0, 0⟩ : Slc).v] := B2_
                    clear B2_
                    refine stC_t 1 B2 rfl rfl rfl fun u69 k_u69 B2_ => ?_
                    replace B2 : Blt u69 bk2 44 #[Value.bool b17, s20.v] := B2_
                    clear B2_
                    have kk_u68 := (k_u68.trans k_u69)
                    replace B1 := kk_u68.blt B1 (by omega)
                    replace B13 := kk_u68.blt B13 (by omega)
                    replace B15 := kk_u68.blt B15 (by omega)
                    replace A := kk_u68.ahead A g2
                    replace X := X.trans kk_u68.ext
                    clear k_u69 k_u68
                    refine ldB_t 0 B2 rfl ?_
                    refine ldS_t 1 B2 rfl ?_
                    replace h := h _ X A
                    exact ⟨A, h⟩
                · skip
                  refine newC_t fun bk16 u70 hb16 ha_u70 hs B16 => ?_
                  have g16 : w.heap.size ≤ bk16 := by have := A.size; omega
                  have l1_16 : bk1 < bk16 := by have := B1.lt; omega
                  have l2_16 : bk2 < bk16 := by have := B2.lt; omega
                  have l13_16 : bk13 < bk16 := by have := B13.lt; omega
                  have y16 : w6.drew.heap.size ≤ bk16 := by omega
                  replace B1 := B1.ahead ha_u70
                  replace B2 := B2.ahead ha_u70
                  replace B13 := B13.ahead ha_u70
                  replace Y_ := Nat.le_trans Y_ ha_u70.size
                  replace A := A.trans ha_u70
                  replace X := X.trans (Ext.of_ahead ha_u70)
                  clear hs hb16
                  refine ⟨(Bar.of_ahead ha_u70), ?_⟩
                  replace h := h _ X A
                  refine Calls.mono h ?_
                  clear h
                  rintro e16 w41 ⟨b19, s22, he_, ha_w41, h⟩
                  refine ⟨b19, s22, he_, ?_⟩
                  clear he_
                  replace B1 := B1.ahead ha_w41
                  replace B2 := B2.ahead ha_w41
                  replace B13 := B13.ahead ha_w41
                  replace B16 := B16.ahead ha_w41
                  replace Y_ := Nat.le_trans Y_ ha_w41.size
                  replace A := A.trans ha_w41
                  replace X := X.trans (Ext.of_ahead ha_w41)
                  replace X : Ext w41 w41 := Ext.refl _
                  refine ⟨(Bar.of_ahead ha_w41), ?_⟩
                  replace h := h _ X A
                  refine Calls.mono h ?_
                  clear h
                  rintro e17 w43 ⟨b20, s23, b21, s24, he_, ha_w43, h⟩
                  refine ⟨b20, s23, b21, s24, he_, ?_⟩
                  clear he_
                  replace B1 := B1.ahead ha_w43
                  replace B2 := B2.ahead ha_w43
                  replace B13 := B13.ahead ha_w43
                  replace B16 := B16.ahead ha_w43
                  replace Y_ := Nat.le_trans Y_ ha_w43.size
                  replace A := A.trans ha_w43
                  replace X := X.trans (Ext.of_ahead ha_w43)
                  replace X : Ext w43 w43 := Ext.refl _
                  refine stC_t 0 B13 rfl rfl rfl fun u71 k_u71 B13_ => ?_
                  replace B13 : Blt u71 bk13 44 #[Value.bool b20, (⟨none, 0, 0⟩ : Slc).v] := B13_
                  clear B13_
                  refine stC_t 1 B13 rfl rfl rfl fun u72 k_u72 B13_ => ?_
                  replace B13 : Blt u72 bk13 44 #[Value.bool b20, s23.v] := B13_
                  clear B13_
                  have kk_u71 := (k_u71.trans k_u72)
                  replace B1 := kk_u71.blt B1 (by omega)
                  replace B2 := kk_u71.blt B2 (by omega)
                  replace B16 := kk_u71.blt B16 (by omega)
                  replace A := kk_u71.ahead A g13
                  replace X := X.trans kk_u71.ext
                  replace Y_ := Nat.le_trans Y_ (Nat.le_of_eq kk_u71.size.symm)
                  clear k_u72 k_u71
                  refine stC_t 0 B16 rfl rfl rfl fun u73 k_u73 B16_ => ?_
                  replace B16 : Blt u73 bk16 44 #[Value.bool b21, (⟨none, 0, 0⟩ : Slc).v] := B16_
                  clear B16_
                  refine stC_t 1 B16 rfl rfl rfl fun u74 k_u74 B16_ => ?_
                  replace B16 : Blt u74 bk16 44 #[Value.bool b21, s24.v] := B16_
                  clear B16_
                  have kk_u73 := (k_u73.trans k_u74)
                  replace B1 := kk_u73.blt B1 (by omega)
                  replace B2 := kk_u73.blt B2 (by omega)
                  replace B13 := kk_u73.blt B13 (by omega)
                  replace A := kk_u73.ahead A g16
                  replace X := X.trans kk_u73.ext
                  replace Y_ := Nat.le_trans Y_ (Nat.le_of_eq kk_u73.size.symm)
                  clear k_u74 k_u73
                  refine ldB_t 0 B13 rfl ?_
                  refine ldS_t 1 B13 rfl ?_
                  refine stC_t 0 B2 rfl rfl rfl fun u75 k_u75 B2_ => ?_
                  replace B2 : Blt u75 bk2 44 #[Value.bool b20, (⟨none, 0, 0⟩ : Slc).v] := B2_
                  clear B2_
                  refine stC_t 1 B2 rfl rfl rfl fun u76 k_u76 B2_ => ?_
                  replace B2 : Blt u76 bk2 44 #[Value.bool b20, s23.v] := B2_
                  clear B2_
                  have kk_u75 := (k_u75.trans k_u76)
                  replace B1 := kk_u75.blt B1 (by omega)
                  replace B13 := kk_u75.blt B13 (by omega)
                  replace B16 := kk_u75.blt B16 (by omega)
                  replace A := kk_u75.ahead A g2
                  replace X := X.trans kk_u75.ext
                  clear k_u76 k_u75
                  refine ldB_t 0 B2 rfl ?_
                  refine ldS_t 1 B2 rfl ?_
                  replace h := h _ X A
                  exact ⟨A, h⟩
              · skip
                refine newC_t fun bk17 u77 hb17 ha_u77 hs B17 => ?_
                have g17 : w.heap.size ≤ bk17 := by have := A.size; omega
                have l1_17 : bk1 < bk17 := by have := B1.lt; omega
                have l2_17 : bk2 < bk17 := by have := B2.lt; omega
                have y17 : w6.drew.heap.size ≤ bk17 := by omega
                replace B1 := B1.ahead ha_u77
                replace B2 := B2.ahead ha_u77
                replace Y_ := Nat.le_trans Y_ ha_u77.size
                replace A := A.trans ha_u77
                replace X := X.trans (Ext.of_ahead ha_u77)
                clear hs hb17
                refine ⟨(Bar.of_ahead ha_u77), ?_⟩
                refine ⟨?_, ?_⟩
                · skip
                  replace h := h _ X A
                  refine Calls.mono h ?_
                  clear h
                  rintro e18 w46 ⟨b22, s25, he_, ha_w46, h⟩
                  refine ⟨b22, s25, he_, ?_⟩
                  clear he_
                  replace B1 := B1.ahead ha_w46
                  replace B2 := B2.ahead ha_w46
                  replace B17 := B17.ahead ha_w46
                  replace Y_ := Nat.le_trans Y_ ha_w46.size
                  replace A := A.trans ha_w46
                  replace X := X.trans (Ext.of_ahead ha_w46)
                  replace X : Ext w46 w46 := Ext.refl _
                  refine ⟨(Bar.of_ahead ha_w46), ?_⟩
                  refine ⟨?_, ?_⟩
                  · skip
                    replace h := h _ X A
                    refine Calls.mono h ?_
                    clear h
                    rintro e19 w48 ⟨b23, s26, b24, s27, he_, ha_w48, h⟩
                    refine ⟨b23, s26, b24, s27, he_, ?_⟩
                    clear he_
                    replace B1 := B1.ahead ha_w48
                    replace B2 := B2.ahead ha_w48
                    replace B17 := B17.ahead ha_w48
                    replace Y_ := Nat.le_trans Y_ ha_w48.size
                    replace A := A.trans ha_w48
                    replace X := X.trans (Ext.of_ahead ha_w48)
                    replace X : Ext w48 w48 := Ext.refl _
                    refine newC_t fun bk18 u78 hb18 ha_u78 hs B18 => ?_
                    have g18 : w.heap.size ≤ bk18 := by have := A.size; omega
                    have l1_18 : bk1 < bk18 := by have := B1.lt; omega
                    have l2_18 : bk2 < bk18 := by have := B2.lt; omega
                    have l17_18 : bk17 < bk18 := by have := B17.lt; omega
                    have y18 : w6.drew.heap.size ≤ bk18 := by omega
                    replace B1 := B1.ahead ha_u78
                    replace B2 := B2.ahead ha_u78
                    replace B17 := B17.ahead ha_u78
                    replace Y_ := Nat.le_trans Y_ ha_u78.size
                    replace A := A.trans ha_u78
                    replace X := X.trans (Ext.of_ahead ha_u78)
                    clear hs hb18
                    refine ⟨(Bar.of_ahead ha_u78), ?_⟩
                    refine stC_t 0 B18 rfl rfl rfl fun u79 k_u79 B18_ => ?_
                    replace B18 : Blt u79 bk18 44 #[Value.bool b23, (⟨none, 0, 0⟩ : Slc).v] := B18_
                    clear B18_
                    refine stC_t 1 B18 rfl rfl rfl fun u80 k_u80 B18_ => ?_
                    replace B18 : Blt u80 bk18 44 #[Value.bool b23, s26.v] := B18_
                    clear B18_
                    have kk_u79 := (k_u79.trans k_u80)
                    replace B1 := kk_u79.blt B1 (by omega)
                    replace B2 := kk_u79.blt B2 (by omega)
                    replace B17 := kk_u79.blt B17 (by omega)
                    replace A := kk_u79.ahead A g18
                    replace X := X.trans kk_u79.ext
                    replace Y_ := Nat.le_trans Y_ (Nat.le_of_eq kk_u79.size.symm)
                    clear k_u80 k_u79
                    refine stC_t 0 B17 rfl rfl rfl fun u81 k_u81 B17_ => ?_
                    replace B17 : Blt u81 bk17 44 #[Value.bool b24, (⟨none, 0, 0⟩ : Slc).v] := B17_
                    clear B17_
                    refine stC_t 1 B17 rfl rfl rfl fun u82 k_u82 B17_ => ?_
                    replace B17 : Blt u82 bk17 44 #[Value.bool b24, s27.v] := B17_
                    clear B17_
                    have kk_u81 := (k_u81.trans k_u82)
                    replace B1 := kk_u81.blt B1 (by omega)
                    replace B2 := kk_u81.blt B2 (by omega)
                    replace B18 := kk_u81.blt B18 (by omega)
                    replace A := kk_u81.ahead A g17
                    replace X := X.trans kk_u81.ext
                    replace Y_ := Nat.le_trans Y_ (Nat.le_of_eq kk_u81.size.symm)
                    clear k_u82 k_u81
                    refine ldB_t 0 B18 rfl ?_
                    refine ldS_t 1 B18 rfl ?_
                    refine stC_t 0 B2 rfl rfl rfl fun u83 k_u83 B2_ => ?_
                    replace B2 : Blt u83 bk2 44 #[Value.bool b23, (⟨none, 0, 0⟩ : Slc).v] := B2_
                    clear B2_
                    refine stC_t 1 B2 rfl rfl rfl fun u84 k_u84 B2_ => ?_
                    replace B2 : Blt u84 bk2 44 #[Value.bool b23, s26.v] := B2_
                    clear B2_
                    have kk_u83 := (k_u83.trans k_u84)
                    replace B1 := kk_u83.blt B1 (by omega)
                    replace B17 := kk_u83.blt B17 (by omega)
                    replace B18 := kk_u83.blt B18 (by omega)
                    replace A := kk_u83.ahead A g2
                    replace X := X.trans kk_u83.ext
                    clear k_u84 k_u83
                    refine ldB_t 0 B2 rfl ?_
                    refine ldS_t 1 B2 rfl ?_
                    replace h := h _ X A
                    exact ⟨A, h⟩
                  · skip
                    refine newC_t fun bk19 u85 hb19 ha_u85 hs B19 => ?_
                    have g19 : w.heap.size ≤ bk19 := by have := A.size; omega
                    have l1_19 : bk1 < bk19 := by have := B1.lt; omega
                    have l2_19 : bk2 < bk19 := by have := B2.lt; omega
                    have l17_19 : bk17 < bk19 := by have := B17.lt; omega
                    have y19 : w6.drew.heap.size ≤ bk19 := by omega
                    replace B1 := B1.ahead ha_u85
                    replace B2 := B2.ahead ha_u85
                    replace B17 := B17.ahead ha_u85
                    replace Y_ := Nat.le_trans Y_ ha_u85.size
                    replace A := A.trans ha_u85
                    replace X := X.trans (Ext.of_ahead ha_u85)
                    clear hs hb19
                    refine ⟨(Bar.of_ahead ha_u85), ?_⟩
                    replace h := h _ X A
                    refine Calls.mono h ?_
                    clear h
                    rintro e20 w51 ⟨b25, s28, b26, s29, he_, ha_w51, h⟩
                    refine ⟨b25, s28, b26, s29, he_, ?_⟩
                    clear he_
                    replace B1 := B1.ahead ha_w51
                    replace B2 := B2.ahead ha_w51
                    replace B17 := B17.ahead ha_w51
                    replace B19 := B19.ahead ha_w51
                    replace Y_ := Nat.le_trans Y_ ha_w51.size
                    replace A := A.trans ha_w51
                    replace X := X.trans (Ext.of_ahead ha_w51)
                    replace X : Ext w51 w51 := Ext.refl _
                    refine stC_t 0 B19 rfl rfl rfl fun u86 k_u86 B19_ => ?_
                    replace B19 : Blt u86 bk19 44 #[Value.bool b25, (⟨none, 0, 0⟩ : Slc).v] := B19_
                    clear B19_
                    refine stC_t 1 B19 rfl rfl rfl fun u87 k_u87 B19_ => ?_
                    replace B19 : Blt u87 bk19 44 #[Value.bool b25, s28.v] := B19_
                    clear B19_
                    have kk_u86 := (k_u86.trans k_u87)
                    replace B1 := kk_u86.blt B1 (by omega)
                    replace B2 := kk_u86.blt B2 (by omega)
                    replace B17 := kk_u86.blt B17 (by omega)
                    replace A := kk_u86.ahead A g19
                    replace X := X.trans kk_u86.ext
                    replace Y_ := Nat.le_trans Y_ (Nat.le_of_eq kk_u86.size.symm)
                    clear k_u87 k_u86
                    refine stC_t 0 B17 rfl rfl rfl fun u88 k_u88 B17_ => ?_
                    replace B17 : Blt u88 bk17 44 #[Value.bool b26, (⟨none, 0, 0⟩ : Slc).v] := B17_
                    clear B17_
                    refine stC_t 1 B17 rfl rfl rfl fun u89 k_u89 B17_ => ?_
                    replace B17 : Blt u89 bk17 44 #[Value.bool b26, s29.v] := B17_
                    clear B17_
                    have kk_u88 := (k_u88.trans k_u89)
                    replace B1 := kk_u88.blt B1 (by omega)
                    replace B2 := kk_u88.blt B2 (by omega)
                    replace B19 := kk_u88.blt B19 (by omega)
                    replace A := kk_u88.ahead A g17
                    replace X := X.trans kk_u88.ext
                    replace Y_ := Nat.le_trans Y_ (Nat.le_of_eq kk_u88.size.symm)
                    clear k_u89 k_u88
                    refine ldB_t 0 B19 rfl ?_
                    refine ldS_t 1 B19 rfl ?_
                    refine stC_t 0 B2 rfl rfl rfl fun u90 k_u90 B2_ => ?_
                    replace B2 : Blt u90 bk2 44 #[Value.bool b25, (⟨none, 0, 0⟩ : Slc).v] := B2_
                    clear B2_
                    refine stC_t 1 B2 rfl rfl rfl fun u91 k_u91 B2_ => ?_
                    replace B2 : Blt u91 bk2 44 #[Value.bool b25, s28.v] := B2_
                    clear B2_
                    have kk_u90 := (k_u90.trans k_u91)
                    replace B1 := kk_u90.blt B1 (by omega)
                    replace B17 := kk_u90.blt B17 (by omega)
                    replace B19 := kk_u90.blt B19 (by omega)
                    replace A := kk_u90.ahead A g2
                    replace X := X.trans kk_u90.ext
                    clear k_u91 k_u90
                    refine ldB_t 0 B2 rfl ?_
                    refine ldS_t 1 B2 rfl ?_
                    replace h := h _ X A
                    exact ⟨A, h⟩
                · skip
                  refine newC_t fun bk20 u92 hb20 ha_u92 hs B20 => ?_
                  have g20 : w.heap.size ≤ bk20 := by have := A.size; omega
                  have l1_20 : bk1 < bk20 := by have := B1.lt; omega
                  have l2_20 : bk2 < bk20 := by have := B2.lt; omega
                  have l17_20 : bk17 < bk20 := by have := B17.lt; omega
                  have y20 : w6.drew.heap.size ≤ bk20 := by omega
                  replace B1 := B1.ahead ha_u92
                  replace B2 := B2.ahead ha_u92
                  replace B17 := B17.ahead ha_u92
                  replace Y_ := Nat.le_trans Y_ ha_u92.size
                  replace A := A.trans ha_u92
                  replace X := X.trans (Ext.of_ahead ha_u92)
                  clear hs hb20
                  refine ⟨(Bar.of_ahead ha_u92), ?_⟩
                  replace h := h _ X A
                  refine Calls.mono h ?_
                  clear h
                  rintro e21 w54 ⟨b27, s30, he_, ha_w54, h⟩
                  refine ⟨b27, s30, he_, ?_⟩
                  clear he_
                  replace B1 := B1.ahead ha_w54
                  replace B2 := B2.ahead ha_w54
                  replace B17 := B17.ahead ha_w54
                  replace B20 := B20.ahead ha_w54
                  replace Y_ := Nat.le_trans Y_ ha_w54.size
                  replace A := A.trans ha_w54
                  replace X := X.trans (Ext.of_ahead ha_w54)
                  replace X : Ext w54 w54 := Ext.refl _
                  refine ⟨(Bar.of_ahead ha_w54), ?_⟩
                  replace h := h _ X A
                  refine Calls.mono h ?_
                  clear h
                  rintro e22 w56 ⟨b28, s31, b29, s32, he_, ha_w56, h⟩
                  refine ⟨b28, s31, b29, s32, he_, ?_⟩
                  clear he_
                  replace B1 := B1.ahead ha_w56
                  replace B2 := B2.ahead ha_w56
                  replace B17 := B17.ahead ha_w56
                  replace B20 := B20.ahead ha_w56
                  replace Y_ := Nat.le_trans Y_ ha_w56.size
                  replace A := A.trans ha_w56
                  replace X := X.trans (Ext.of_ahead ha_w56)
                  replace X : Ext w56 w56 := Ext.refl _
                  refine stC_t 0 B20 rfl rfl rfl fun u93 k_u93 B20_ => ?_
                  replace B20 : Blt u93 bk20 44 #[Value.bool b28, (⟨none, 0, 0⟩ : Slc).v] := B20_
                  clear B20_
                  refine stC_t 1 B20 rfl rfl rfl fun u94 k_u94 B20_ => ?_
                  replace B20 : Blt u94 bk20 44 #[Value.bool b28, s31.v] := B20_
                  clear B20_
                  have kk_u93 := (k_u93.trans k_u94)
                  replace B1 := kk_u93.blt B1 (by omega)
                  replace B2 := kk_u93.blt B2 (by omega)
                  replace B17 := kk_u93.blt B17 (by omega)
                  replace A := kk_u93.ahead A g20
                  replace X := X.trans kk_u93.ext
                  replace Y_ := Nat.le_trans Y_ (Nat.le_of_eq kk_u93.size.symm)
                  clear k_u94 k_u93
                  refine stC_t 0 B17 rfl rfl rfl fun u95 k_u95 B17_ => ?_
                  replace B17 : Blt u95 bk17 44 #[Value.bool b29, (⟨none, 0, 0⟩ : Slc).v] := B17_
                  clear B17_
                  refine stC_t 1 B17 rfl rfl rfl fun u96 k_u96 B17_ => ?_
                  replace B17 : Blt u96 bk17 44 #[Value.bool b29, s32.v] := B17_
                  clear B17_
                  have kk_u95 := (k_u95.trans k_u96)
                  replace B1 := kk_u95.blt B1 (by omega)
                  replace B2 := kk_u95.blt B2 (by omega)
                  replace B20 := kk_u95.blt B20 (by omega)
                  replace A := kk_u95.ahead A g17
                  replace X := X.trans kk_u95.ext
                  replace Y_ := Nat.le_trans Y_ (Nat.le_of_eq kk_u95.size.symm)
                  clear k_u96 k_u95
                  refine ldB_t 0 B20 rfl ?_
                  refine ldS_t 1 B20 rfl ?_
                  refine stC_t 0 B2 rfl rfl rfl fun u97 k_u97 B2_ => ?_
                  replace B2 : Blt u97 bk2 44 #[Value.bool b28, (⟨none, 0, 0⟩ : Slc).v] := B2_
                  clear B2_
                  refine stC_t 1 B2 rfl rfl rfl fun u98 k_u98 B2_ => ?_
                  replace B2 : Blt u98 bk2 44 #[Value.bool b28, s31.v] := B2_
                  clear B2_
                  have kk_u97 := (k_u97.trans k_u98)
                  replace B1 := kk_u97.blt B1 (by omega)
                  replace B17 := kk_u97.blt B17 (by omega)
                  replace B20 := kk_u97.blt B20 (by omega)
                  replace A := kk_u97.ahead A g2
                  replace X := X.trans kk_u97.ext
                  clear k_u98 k_u97
                  refine ldB_t 0 B2 rfl ?_
                  refine ldS_t 1 B2 rfl ?_
                  replace h := h _ X A
                  exact ⟨A, h⟩
          · skip
            refine ⟨?_, ?_⟩
            · skip
              refine newC_t fun bk21 u99 hb21 ha_u99 hs B21 => ?_
              have g21 : w.heap.size ≤ bk21 := by have := A.size; omega
              have l1_21 : bk1 < bk21 := by have := B1.lt; omega
              have l2_21 : bk2 < bk21 := by have := B2.lt; omega
              have y21 : w6.drew.heap.size ≤ bk21 := by omega
              replace B1 := B1.ahead ha_u99
              replace B2 := B2.ahead ha_u99
              replace Y_ := Nat.le_trans Y_ ha_u99.size
              replace A := A.trans ha_u99
              replace X := X.trans (Ext.of_ahead ha_u99)
              clear hs hb21
              refine ⟨(Bar.of_ahead ha_u99), ?_⟩
              refine ⟨?_, ?_⟩
              · skip
                replace h := h _ X A
                refine Calls.mono h ?_
                clear h
                rintro e23 w59 ⟨s33, he_, ha_w59, h⟩
                refine ⟨s33, he_, ?_⟩
                clear he_
                replace B1 := B1.ahead ha_w59
                replace B2 := B2.ahead ha_w59
                replace B21 := B21.ahead ha_w59
                replace Y_ := Nat.le_trans Y_ ha_w59.size
                replace A := A.trans ha_w59
                replace X := X.trans (Ext.of_ahead ha_w59)
                replace X : Ext w59 w59 := Ext.refl _
                refine ⟨(Bar.of_ahead ha_w59), ?_⟩
                refine ⟨?_, ?_⟩
                · skip
                  replace h := h _ X A
                  refine Calls.mono h ?_
                  clear h
                  rintro e24 w61 ⟨b30, s34, he_, ha_w61, h⟩
                  refine ⟨b30, s34, he_, ?_⟩
                  clear he_
                  replace B1 := B1.ahead ha_w61
                  replace B2 := B2.ahead ha_w61
                  replace B21 := B21.ahead ha_w61
                  replace Y_ := Nat.le_trans Y_ ha_w61.size
                  replace A := A.trans ha_w61
                  replace X := X.trans (Ext.of_ahead ha_w61)
                  replace X : Ext w61 w61 := Ext.refl _
                  refine ⟨(Bar.of_ahead ha_w61), ?_⟩
                  refine ⟨?_, ?_⟩
                  · skip
                    replace h := h _ X A
                    refine Calls.mono h ?_
                    clear h
                    rintro e25 w63 ⟨b31, s35, b32, s36, he_, ha_w63, h⟩
                    refine ⟨b31, s35, b32, s36, he_, ?_⟩
                    clear he_
                    replace B1 := B1.ahead ha_w63
                    replace B2 := B2.ahead ha_w63
                    replace B21 := B21.ahead ha_w63
                    replace Y_ := Nat.le_trans Y_ ha_w63.size
                    replace A := A.trans ha_w63
                    replace X := X.trans (Ext.of_ahead ha_w63)
                    replace X : Ext w63 w63 := Ext.refl _
                    refine newC_t fun bk22 u100 hb22 ha_u100 hs B22 => ?_
                    have g22 : w.heap.size ≤ bk22 := by have := A.size; omega
                    have l1_22 : bk1 < bk22 := by have := B1.lt; omega
                    have l2_22 : bk2 < bk22 := by have := B2.lt; omega
                    have l21_22 : bk21 < bk22 := by have := B21.lt; omega
                    have y22 : w6.drew.heap.size ≤ bk22 := by omega
                    replace B1 := B1.ahead ha_u100
                    replace B2 := B2.ahead ha_u100
                    replace B21 := B21.ahead ha_u100
                    replace Y_ := Nat.le_trans Y_ ha_u100.size
                    replace A := A.trans ha_u100
                    replace X := X.trans (Ext.of_ahead ha_u100)
                    clear hs hb22
                    refine ⟨(Bar.of_ahead ha_u100), ?_⟩
                    refine stC_t 0 B21 rfl rfl rfl fun u101 k_u101 B21_ => ?_
                    replace B21 : Blt u101 bk21 44 #[Value.bool b31, (⟨none, 0, 0⟩ : Slc).v] := B21_
                    clear B21_
                    refine stC_t 1 B21 rfl rfl rfl fun u102 k_u102 B21_ => ?_
                    replace B21 : Blt u102 bk21 44 #[Value.bool b31, s35.v] := B21_
                    clear B21_
                    have kk_u101 := (k_u101.trans k_u102)
                    replace B1 := kk_u101.blt B1 (by omega)
                    replace B2 := kk_u101.blt B2 (by omega)
                    replace B22 := kk_u101.blt B22 (by omega)
                    replace A := kk_u101.ahead A g21
                    replace X := X.trans kk_u101.ext
                    replace Y_ := Nat.le_trans Y_ (Nat.le_of_eq kk_u101.size.symm)
                    clear k_u102 k_u101
                    refine stC_t 0 B22 rfl rfl rfl fun u103 k_u103 B22_ => ?_
                    replace B22 : Blt u103 bk22 44 #[Value.bool b32, (⟨none, 0, 0⟩ : Slc).v] := B22_
                    clear B22_
                    refine stC_t 1 B22 rfl rfl rfl fun u104 k_u104 B22_ => ?_
                    replace B22 : Blt u104 bk22 44 #[Value.bool b32, s36.v] := B22_
                    clear B22_
                    have kk_u103 := (k_u103.trans k_u104)
                    replace B1 := kk_u103.blt B1 (by omega)
                    replace B2 := kk_u103.blt B2 (by omega)
                    replace B21 := kk_u103.blt B21 (by omega)
                    replace A := kk_u103.ahead A g22
                    replace X := X.trans kk_u103.ext
                    replace Y_ := Nat.le_trans Y_ (Nat.le_of_eq kk_u103.size.symm)
                    clear k_u104 k_u103
                    refine ldB_t 0 B21 rfl ?_
                    refine ldS_t 1 B21 rfl ?_
                    refine stC_t 0 B2 rfl rfl rfl fun u105 k_u105 B2_ => ?_
                    replace B2 : Blt u105 bk2 44 #[Value.bool b31, (⟨none, 0, 0⟩ : Slc).v] := B2_
                    clear B2_
                    refine stC_t 1 B2 rfl rfl rfl fun u106 k_u106 B2_ => ?_
                    replace B2 : Blt u106 bk2 44 #[Value.bool b31, s35.v] := B2_
                    clear B2_
                    have kk_u105 := (k_u105.trans k_u106)
                    replace B1 := kk_u105.blt B1 (by omega)
                    replace B21 := kk_u105.blt B21 (by omega)
                    replace B22 := kk_u105.blt B22 (by omega)
                    replace A := kk_u105.ahead A g2
                    replace X := X.trans kk_u105.ext
                    clear k_u106 k_u105
                    refine ldB_t 0 B2 rfl ?_
                    refine ldS_t 1 B2 rfl ?_
                    replace h := h _ X A
                    exact ⟨A, h⟩
                  · skip
                    refine newC_t fun bk23 u107 hb23 ha_u107 hs B23 => ?_
                    have g23 : w.heap.size ≤ bk23 := by have := A.size; omega
                    have l1_23 : bk1 < bk23 := by have := B1.lt; omega
                    have l2_23 : bk2 < bk23 := by have := B2.lt; omega
                    have l21_23 : bk21 < bk23 := by have := B21.lt; omega
                    have y23 : w6.drew.heap.size ≤ bk23 := by omega
                    replace B1 := B1.ahead ha_u107
                    replace B2 := B2.ahead ha_u107
                    replace B21 := B21.ahead ha_u107
                    replace Y_ := Nat.le_trans Y_ ha_u107.size
                    replace A := A.trans ha_u107
                    replace X := X.trans (Ext.of_ahead ha_u107)
                    clear hs hb23
                    refine ⟨(Bar.of_ahead ha_u107), ?_⟩
                    replace h := h _ X A
                    refine Calls.mono h ?_
                    clear h
                    rintro e26 w66 ⟨b33, s37, b34, s38, he_, ha_w66, h⟩
                    refine ⟨b33, s37, b34, s38, he_, ?_⟩
                    clear he_
                    replace B1 := B1.ahead ha_w66
                    replace B2 := B2.ahead ha_w66
                    replace B21 := B21.ahead ha_w66
                    replace B23 := B23.ahead ha_w66
                    replace Y_ := Nat.le_trans Y_ ha_w66.size
                    replace A := A.trans ha_w66
                    replace X := X.trans (Ext.of_ahead ha_w66)
                    replace X : Ext w66 w66 := Ext.refl _
                    refine stC_t 0 B21 rfl rfl rfl fun u108 k_u108 B21_ => ?_
                    replace B21 : Blt u108 bk21 44 #[Value.bool b33, (⟨none, 0, 0⟩ : Slc).v] := B21_
                    clear B21_
                    refine stC_t 1 B21 rfl rfl rfl fun u109 k_u109 B21_ => ?_
                    replace B21 : Blt u109 bk21 44 #[Value.bool b33, s37.v] := B21_
                    clear B21_
                    have kk_u108 := (k_u108.trans k_u109)
                    replace B1 := kk_u108.blt B1 (by omega)
                    replace B2 := kk_u108.blt B2 (by omega)
                    replace B23 := kk_u108.blt B23 (by omega)
                    replace A := kk_u108.ahead A g21
                    replace X := X.trans kk_u108.ext
                    replace Y_ := Nat.le_trans Y_ (Nat.le_of_eq kk_u108.size.symm)
                    clear k_u109 k_u108
                    refine stC_t 0 B23 rfl rfl rfl fun u110 k_u110 B23_ => ?_
                    replace B23 : Blt u110 bk23 44 #[Value.bool b34, (⟨none, 0, 0⟩ : Slc).v] := B23_
                    clear B23_
                    refine stC_t 1 B23 rfl rfl rfl fun u111 k_u111 B23_ => ?_
                    replace B23 : Blt u111 bk23 44 #[Value.bool b34, s38.v] := B23_
                    clear B23_
                    have kk_u110 := (k_u110.trans k_u111)
                    replace B1 := kk_u110.blt B1 (by omega)
                    replace B2 := kk_u110.blt B2 (by omega)
                    replace B21 := kk_u110.blt B21 (by omega)
                    replace A := kk_u110.ahead A g23
                    replace X := X.trans kk_u110.ext
                    replace Y_ := Nat.le_trans Y_ (Nat.le_of_eq kk_u110.size.symm)
                    clear k_u111 k_u110
                    refine ldB_t 0 B21 rfl ?_
                    refine ldS_t 1 B21 rfl ?_
                    refine stC_t 0 B2 rfl rfl rfl fun u112 k_u112 B2_ => ?_
                    replace B2 : Blt u112 bk2 44 #[Value.bool b33, (⟨none, 0, 0⟩ : Slc).v] := B2_
                    clear B2_
                    refine stC_t 1 B2 rfl rfl rfl fun u113 k_u113 B2_ => ?_
                    replace B2 : Blt u113 bk2 44 #[Value.bool b33, s37.v] := B2_
                    clear B2_
                    have kk_u112 := (k_u112.trans k_u113)
                    replace B1 := kk_u112.blt B1 (by omega)
                    replace B21 := kk_u112.blt B21 (by omega)
                    replace B23 := kk_u112.blt B23 (by omega)
                    replace A := kk_u112.ahead A g2
                    replace X := X.trans kk_u112.ext
                    clear k_u113 k_u112
                    refine ldB_t 0 B2 rfl ?_
                    refine ldS_t 1 B2 rfl ?_
                    replace h := h _ X A
                    exact ⟨A, h⟩
                · skip
                  refine newC_t fun bk24 u114 hb24 ha_u114 hs B24 => ?_
                  have g24 : w.heap.size ≤ bk24 := by have := A.size; omega
                  have l1_24 : bk1 < bk24 := by have := B1.lt; omega
                  have l2_24 : bk2 < bk24 := by have := B2.lt; omega
                  have l21_24 : bk21 < bk24 := by have := B21.lt; omega
                  have y24 : w6.drew.heap.size ≤ bk24 := by omega
                  replace B1 := B1.ahead ha_u114
                  replace B2 := B2.ahead ha_u114
                  replace B21 := B21.ahead ha_u114
                  replace Y_ := Nat.le_trans Y_ ha_u114.size
                  replace A := A.trans ha_u114
                  replace X := X.trans (Ext.of_ahead ha_u114)
                  clear hs hb24
                  refine ⟨(Bar.of_ahead ha_u114), ?_⟩
                  replace h := h _ X A
                  refine Calls.mono h ?_
                  clear h
                  rintro e27 w69 ⟨b35, s39, he_, ha_w69, h⟩
                  refine ⟨b35, s39, he_, ?_⟩
                  clear he_
                  replace B1 := B1.ahead ha_w69
                  replace B2 := B2.ahead ha_w69
                  replace B21 := B21.ahead ha_w69
                  replace B24 := B24.ahead ha_w69
                  replace Y_ := Nat.le_trans Y_ ha_w69.size
                  replace A := A.trans ha_w69
                  replace X := X.trans (Ext.of_ahead ha_w69)
                  replace X : Ext w69 w69 := Ext.refl _
                  refine ⟨(Bar.of_ahead ha_w69), ?_⟩
                  replace h := h _ X A
                  refine Calls.mono h ?_
                  clear h
                  rintro e28 w71 ⟨b36, s40, b37, s41, he_, ha_w71, h⟩
                  refine ⟨b36, s40, b37, s41, he_, ?_⟩
                  clear he_
                  replace B1 := B1.ahead ha_w71
                  replace B2 := B2.ahead ha_w71
                  replace B21 := B21.ahead ha_w71
                  replace B24 := B24.ahead ha_w71
                  replace Y_ := Nat.le_trans Y_ ha_w71.size
                  replace A := A.trans ha_w71
                  replace X := X.trans (Ext.of_ahead ha_w71)
                  replace X : Ext w71 w71 := Ext.refl _
                  refine stC_t 0 B21 rfl rfl rfl fun u115 k_u115 B21_ => ?_
                  replace B21 : Blt u115 bk21 44 #[Value.bool b36, (⟨none, 0, 0⟩ : Slc).v] := B21_
                  clear B21_
                  refine stC_t 1 B21 rfl rfl rfl fun u116 k_u116 B21_ => ?_
                  replace B21 : Blt u116 bk21 44 #[Value.bool b36, s40.v] := B21_
                  clear B21_
                  have kk_u115 := (k_u115.trans k_u116)
                  replace B1 := kk_u115.blt B1 (by omega)
                  replace B2 := kk_u115.blt B2 (by omega)
                  replace B24 := kk_u115.blt B24 (by omega)
                  replace A := kk_u115.ahead A g21
                  replace X := X.trans kk_u115.ext
                  replace Y_ := Nat.le_trans Y_ (Nat.le_of_eq kk_u115.size.symm)
                  clear k_u116 k_u115
                  refine stC_t 0 B24 rfl rfl rfl fun u117 k_u117 B24_ => ?_
                  replace B24 : Blt u117 bk24 44 #[Value.bool b37, (⟨none, 0, 0⟩ : Slc).v] := B24_
                  clear B24_
                  refine stC_t 1 B24 rfl rfl rfl fun u118 k_u118 B24_ => ?_
                  replace B24 : Blt u118 bk24 44 #[Value.bool b37, s41.v] := B24_
                  clear B24_
                  have kk_u117 := (k_u117.trans k_u118)
                  replace B1 := kk_u117.blt B1 (by omega)
                  replace B2 := kk_u117.blt B2 (by omega)
                  replace B21 := kk_u117.blt B21 (by omega)
                  replace A := kk_u117.ahead A g24
                  replace X := X.trans kk_u117.ext
                  replace Y_ := Nat.le_trans Y_ (Nat.le_of_eq kk_u117.size.symm)
                  clear k_u118 k_u117
                  refine ldB_t 0 B21 rfl ?_
                  refine ldS_t 1 B21 rfl ?_
                  refine stC_t 0 B2 rfl rfl rfl fun u119 k_u119 B2_ => ?_
                  replace B2 : Blt u119 bk2 44 #[Value.bool b36, (⟨none, 0, 0⟩ : Slc).v] := B2_
                  clear B2_
                  refine stC_t 1 B2 rfl rfl rfl fun u120 k_u120 B2_ => ?_
                  replace B2 : Blt u120 bk2 44 #[Value.bool b36, s40.v] := B2_
                  clear B2_
                  have kk_u119 := (k_u119.trans k_u120)
                  replace B1 := kk_u119.blt B1 (by omega)
                  replace B21 := kk_u119.blt B21 (by omega)
                  replace B24 := kk_u119.blt B24 (by omega)
                  replace A := kk_u119.ahead A g2
                  replace X := X.trans kk_u119.ext
                  clear k_u120 k_u119
                  refine ldB_t 0 B2 rfl ?_
                  refine ldS_t 1 B2 rfl ?_
                  replace h := h _ X A
                  exact ⟨A, h⟩
              · skip
                refine newC_t fun bk25 u121 hb25 ha_u121 hs B25 => ?_
                have g25 : w.heap.size ≤ bk25 := by have := A.size; omega
                have l1_25 : bk1 < bk25 := by have := B1.lt; omega
                have l2_25 : bk2 < bk25 := by have := B2.lt; omega
                have l21_25 : bk21 < bk25 := by have := B21.lt; omega
                have y25 : w6.drew.heap.size ≤ bk25 := by omega
                replace B1 := B1.ahead ha_u121
                replace B2 := B2.ahead ha_u121
                replace B21 := B21.ahead ha_u121
                replace Y_ := Nat.le_trans Y_ ha_u121.size
                replace A := A.trans ha_u121
                replace X := X.trans (Ext.of_ahead ha_u121)
                clear hs hb25
                refine ⟨(Bar.of_ahead ha_u121), ?_⟩
                replace h := h _ X A
                refine Calls.mono h ?_
                clear h
                rintro e29 w74 ⟨s42, he_, ha_w74, h⟩
                refine ⟨s42, he_, ?_⟩
                clear he_
                replace B1 := B1.ahead ha_w74
                replace B2 := B2.ahead ha_w74
                replace B21 := B21.ahead ha_w74
                replace B25 := B25.ahead ha_w74
                replace Y_ := Nat.le_trans Y_ ha_w74.size
                replace A := A.trans ha_w74
                replace X := X.trans (Ext.of_ahead ha_w74)
                replace X : Ext w74 w74 := Ext.refl _
                refine ⟨(Bar.of_ahead ha_w74), ?_⟩
                replace h := h _ X A
                refine Calls.mono h ?_
                clear h
                rintro e30 w76 ⟨b38, s43, he_, ha_w76, h⟩
                refine ⟨b38, s43, he_, ?_⟩
                clear he_
                replace B1 := B1.ahead ha_w76
                replace B2 := B2.ahead ha_w76
                replace B21 := B21.ahead ha_w76
                replace B25 := B25.ahead ha_w76
                replace Y_ := Nat.le_trans Y_ ha_w76.size
                replace A := A.trans ha_w76
                replace X := X.trans (Ext.of_ahead ha_w76)
                replace X : Ext w76 w76 := Ext.refl _
                refine ⟨(Bar.of_ahead ha_w76), ?_⟩
                replace h := h _ X A
                refine Calls.mono h ?_
                clear h
                rintro e31 w78 ⟨b39, s44, b40, s45, he_, ha_w78, h⟩
                refine ⟨b39, s44, b40, s45, he_, ?_⟩
                clear he_
                replace B1 := B1.ahead ha_w78
                replace B2 := B2.ahead ha_w78
                replace B21 := B21.ahead ha_w78
                replace B25 := B25.ahead ha_w78
                replace Y_ := Nat.le_trans Y_ ha_w78.size
                replace A := A.trans ha_w78
                replace X := X.trans (Ext.of_ahead ha_w78)
                replace X : Ext w78 w78 := Ext.refl _
                refine stC_t 0 B21 rfl rfl rfl fun u122 k_u122 B21_ => ?_
                replace B21 : Blt u122 bk21 44 #[Value.bool b39, (⟨none, 0, 0⟩ : Slc).v] := B21_
                clear B21_
                refine stC_t 1 B21 rfl rfl rfl fun u123 k_u123 B21_ => ?_
                replace B21 : Blt u123 bk21 44 #[Value.bool b39, s44.v] := B21_
                clear B21_
                have kk_u122 := (k_u122.trans k_u123)
                replace B1 := kk_u122.blt B1 (by omega)
                replace B2 := kk_u122.blt B2 (by omega)
                replace B25 := kk_u122.blt B25 (by omega)
                replace A := kk_u122.ahead A g21
                replace X := X.trans kk_u122.ext
                replace Y_ := Nat.le_trans Y_ (Nat.le_of_eq kk_u122.size.symm)
                clear k_u123 k_u122
                refine stC_t 0 B25 rfl rfl rfl fun u124 k_u124 B25_ => ?_
                replace B25 : Blt u124 bk25 44 #[Value.bool b40, (⟨none, 0, 0⟩ : Slc).v] := B25_
                clear B25_
                refine stC_t 1 B25 rfl rfl rfl fun u125 k_u125 B25_ => ?_
                replace B25 : Blt u125 bk25 44 #[Value.bool b40, s45.v] := B25_
                clear B25_
                have kk_u124 := (k_u124.trans k_u125)
                replace B1 := kk_u124.blt B1 (by omega)
                replace B2 := kk_u124.blt B2 (by omega)
                replace B21 := kk_u124.blt B21 (by omega)
                replace A := kk_u124.ahead A g25
                replace X := X.trans kk_u124.ext
                replace Y_ := Nat.le_trans Y_ (Nat.le_of_eq kk_u124.size.symm)
                clear k_u125 k_u124
                refine ldB_t 0 B21 rfl ?_
                refine ldS_t 1 B21 rfl ?_
                refine stC_t 0 B2 rfl rfl rfl fun u126 k_u126 B2_ => ?_
                replace B2 : Blt u126 bk2 44 #[Value.bool b39, (⟨none, 0, 0⟩ : Slc).v] := B2_
                clear B2_
                refine stC_t 1 B2 rfl rfl rfl fun u127 k_u127 B2_ => ?_
                replace B2 : Blt u127 bk2 44 #[Value.bool b39, s44.v] := B2_
                clear B2_
                have kk_u126 := (k_u126.trans k_u127)
                replace B1 := kk_u126.blt B1 (by omega)
                replace B21 := kk_u126.blt B21 (by omega)
                replace B25 := kk_u126.blt B25 (by omega)
                replace A := kk_u126.ahead A g2
                replace X := X.trans kk_u126.ext
                clear k_u127 k_u126
                refine ldB_t 0 B2 rfl ?_
                refine ldS_t 1 B2 rfl ?_
                replace h := h _ X A
                exact ⟨A, h⟩
            · skip
              refine newC_t fun bk26 u128 hb26 ha_u128 hs B26 => ?_
              have g26 : w.heap.size ≤ bk26 := by have := A.size; omega
              have l1_26 : bk1 < bk26 := by have := B1.lt; omega
              have l2_26 : bk2 < bk26 := by have := B2.lt; omega
              have y26 : w6.drew.heap.size ≤ bk26 := by omega
              replace B1 := B1.ahead ha_u128
              replace B2 := B2.ahead ha_u128
              replace Y_ := Nat.le_trans Y_ ha_u128.size
              replace A := A.trans ha_u128
              replace X := X.trans (Ext.of_ahead ha_u128)
              clear hs hb26
              refine ⟨(Bar.of_ahead ha_u128), ?_⟩
              refine ⟨?_, ?_⟩
              · skip
                replace h := h _ X A
                refine Calls.mono h ?_
                clear h
                rintro e32 w81 ⟨s46, he_, ha_w81, h⟩
                refine ⟨s46, he_, ?_⟩
                clear he_
                replace B1 := B1.ahead ha_w81
                replace B2 := B2.ahead ha_w81
                replace B26 := B26.ahead ha_w81
                replace Y_ := Nat.le_trans Y_ ha_w81.size
                replace A := A.trans ha_w81
                replace X := X.trans (Ext.of_ahead ha_w81)
                replace X : Ext w81 w81 := Ext.refl _
                refine ⟨(Bar.of_ahead ha_w81), ?_⟩
                refine ⟨?_, ?_⟩
                · skip
                  replace h := h _ X A
                  refine Calls.mono h ?_
                  clear h
                  rintro e33 w83 ⟨b41, s47, he_, ha_w83, h⟩
                  refine ⟨b41, s47, he_, ?_⟩
                  clear he_
                  replace B1 := B1.ahead ha_w83
                  replace B2 := B2.ahead ha_w83
                  replace B26 := B26.ahead ha_w83
                  replace Y_ := Nat.le_trans Y_ ha_w83.size
                  replace A := A.trans ha_w83
                  replace X := X.trans (Ext.of_ahead ha_w83)
                  replace X : Ext w83 w83 := Ext.refl _
                  refine ⟨(Bar.of_ahead ha_w83), ?_⟩
                  refine ⟨?_, ?_⟩
                  · skip
                    replace h := h _ X A
                    refine Calls.mono h ?_
                    clear h
                    rintro e34 w85 ⟨b42, s48, b43, s49, he_, ha_w85, h⟩
                    refine ⟨b42, s48, b43, s49, he_, ?_⟩
                    clear he_
                    replace B1 := B1.ahead ha_w85
                    replace B2 := B2.ahead ha_w85
                    replace B26 := B26.ahead ha_w85
                    replace Y_ := Nat.le_trans Y_ ha_w85.size
                    replace A := A.trans ha_w85
                    replace X := X.trans (Ext.of_ahead ha_w85)
                    replace X : Ext w85 w85 := Ext.refl _
                    refine newC_t fun bk27 u129 hb27 ha_u129 hs B27 => ?_
                    have g27 : w.heap.size ≤ bk27 := by have := A.size; omega
                    have l1_27 : bk1 < bk27 := by have := B1.lt; omega
                    have l2_27 : bk2 < bk27 := by have := B2.lt; omega
                    have l26_27 : bk26 < bk27 := by have := B26.lt; omega
                    have y27 : w6.drew.heap.size ≤ bk27 := by omega
                    replace B1 := B1.ahead ha_u129
                    replace B2 := B2.ahead ha_u129
                    replace B26 := B26.ahead ha_u129
                    replace Y_ := Nat.le_trans Y_ ha_u129.size
                    replace A := A.trans ha_u129
                    replace X := X.trans (Ext.of_ahead ha_u129)
                    clear hs hb27
                    refine ⟨(Bar.of_ahead ha_u129), ?_⟩
                    refine stC_t 0 B27 rfl rfl rfl fun u130 k_u130 B27_ => ?_
                    replace B27 : Blt u130 bk27 44 #[Value.bool b42, (⟨none, 0, 0⟩ : Slc).v] := B27_
                    clear B27_
                    refine stC_t 1 B27 rfl rfl rfl fun u131 k_u131 B27_ => ?_
                    replace B27 : Blt u131 bk27 44 #[Value.bool b42, s48.v] := B27_
                    clear B27_
                    have kk_u130 := (k_u130.trans k_u131)
                    replace B1 := kk_u130.blt B1 (by omega)
                    replace B2 := kk_u130.blt B2 (by omega)
                    replace B26 := kk_u130.blt B26 (by omega)
                    replace A := kk_u130.ahead A g27
                    replace X := X.trans kk_u130.ext
                    replace Y_ := Nat.le_trans Y_ (Nat.le_of_eq kk_u130.size.symm)
                    clear k_u131 k_u130
                    refine stC_t 0 B26 rfl rfl rfl fun u132 k_u132 B26_ => ?_
                    replace B26 : Blt u132 bk26 44 #[Value.bool b43, (⟨none, 0, 0⟩ : Slc).v] := B26_
                    clear B26_
                    refine stC_t 1 B26 rfl rfl rfl fun u133 k_u133 B26_ => ?_
                    replace B26 : Blt u133 bk26 44 #[Value.bool b43, s49.v] := B26_
                    clear B26_
                    have kk_u132 := (k_u132.trans k_u133)
                    replace B1 := kk_u132.blt B1 (by omega)
                    replace B2 := kk_u132.blt B2 (by omega)
                    replace B27 := kk_u132.blt B27 (by omega)
                    replace A := kk_u132.ahead A g26
                    replace X := X.trans kk_u132.ext
                    replace Y_ := Nat.le_trans Y_ (Nat.le_of_eq kk_u132.size.symm)
                    clear k_u133 k_u132
                    refine ldB_t 0 B27 rfl ?_
                    refine ldS_t 1 B27 rfl ?_
                    refine stC_t 0 B2 rfl rfl rfl fun u134 k_u134 B2_ => ?_
                    replace B2 : Blt u134 bk2 44 #[Value.bool b42, (⟨none, 0, 0⟩ : Slc).v] := B2_
                    clear B2_
                    refine stC_t 1 B2 rfl rfl rfl fun u135 k_u135 B2_ => ?_
                    replace B2 : Blt u135 bk2 44 #[Value.bool b42, s48.v] := B2_
                    clear B2_
                    have kk_u134 := (k_u134.trans k_u135)
                    replace B1 := kk_u134.blt B1 (by omega)
                    replace B26 := kk_u134.blt B26 (by omega)
                    replace B27 := kk_u134.blt B27 (by omega)
                    replace A := kk_u134.ahead A g2
                    replace X := X.trans kk_u134.ext
                    clear k_u135 k_u134
                    refine ldB_t 0 B2 rfl ?_
                    refine ldS_t 1 B2 rfl ?_
                    replace h := h _ X A
                    exact ⟨A, h⟩
                  · skip
                    refine newC_t fun bk28 u136 hb28 ha_u136 hs B28 => ?_
                    have g28 : w.heap.size ≤ bk28 := by have := A.size; omega
                    have l1_28 : bk1 < bk28 := by have := B1.lt; omega
                    have l2_28 : bk2 < bk28 := by have := B2.lt; omega
                    have l26_28 : bk26 < bk28 := by have := B26.lt; omega
                    have y28 : w6.drew.heap.size ≤ bk28 := by omega
                    replace B1 := B1.ahead ha_u136
                    replace B2 := B2.ahead ha_u136
                    replace B26 := B26.ahead ha_u136
                    replace Y_ := Nat.le_trans Y_ ha_u136.size
                    replace A := A.trans ha_u136
                    replace X := X.trans (Ext.of_ahead ha_u136)
                    clear hs hb28
                    refine ⟨(Bar.of_ahead ha_u136), ?_⟩
                    replace h := h _ X A
                    refine Calls.mono h ?_
                    clear h
                    rintro e35 w88 ⟨b44, s50, b45, s51, he_, ha_w88, h⟩
                    refine ⟨b44, s50, b45, s51, he_, ?_⟩
                    clear he_
                    replace B1 := B1.ahead ha_w88
                    replace B2 := B2.ahead ha_w88
                    replace B26 := B26.ahead ha_w88
                    replace B28 := B28.ahead ha_w88
                    replace Y_ := Nat.le_trans Y_ ha_w88.size
                    replace A := A.trans ha_w88
                    replace X := X.trans (Ext.of_ahead ha_w88)
                    replace X : Ext w88 w88 := Ext.refl _
                    refine stC_t 0 B28 rfl rfl rfl fun u137 k_u137 B28_ => ?_
                    replace B28 : Blt u137 bk28 44 #[Value.bool b44, (⟨none, 0, 0⟩ : Slc).v] := B28_
                    clear B28_
                    refine stC_t 1 B28 rfl rfl rfl fun u138 k_u138 B28_ => ?_
                    replace B28 : Blt u138 bk28 44 #[Value.bool b44, s50.v] := B28_
                    clear B28_
                    have kk_u137 := (k_u137.trans k_u138)
                    replace B1 := kk_u137.blt B1 (by omega)
                    replace B2 := kk_u137.blt B2 (by omega)
                    replace B26 := kk_u137.blt B26 (by omega)
                    replace A := kk_u137.ahead A g28
                    replace X := X.trans kk_u137.ext
                    replace Y_ := Nat.le_trans Y_ (Nat.le_of_eq kk_u137.size.symm)
                    clear k_u138 k_u137
                    refine stC_t 0 B26 rfl rfl rfl fun u139 k_u139 B26_ => ?_
                    replace B26 : Blt u139 bk26 44 #[Value.bool b45, (⟨none, 0, 0⟩ : Slc).v] := B26_
                    clear B26_
                    refine stC_t 1 B26 rfl rfl rfl fun u140 k_u140 B26_ => ?_
                    replace B26 : Blt u140 bk26 44 #[Value.bool b45, s51.v] := B26_
                    clear B26_
                    have kk_u139 := (k_u139.trans k_u140)
                    replace B1 := kk_u139.blt B1 (by omega)
                    replace B2 := kk_u139.blt B2 (by omega)
                    replace B28 := kk_u139.blt B28 (by omega)
                    replace A := kk_u139.ahead A g26
                    replace X := X.trans kk_u139.ext
                    replace Y_ := Nat.le_trans Y_ (Nat.le_of_eq kk_u139.size.symm)
                    clear k_u140 k_u139
                    refine ldB_t 0 B28 rfl ?_
                    refine ldS_t 1 B28 rfl ?_
                    refine stC_t 0 B2 rfl rfl rfl fun u141 k_u141 B2_ => ?_
                    replace B2 : Blt u141 bk2 44 #[Value.bool b44, (⟨none, 0, 0⟩ : Slc).v] := B2_
                    clear B2_
                    refine stC_t 1 B2 rfl rfl rfl fun u142 k_u142 B2_ => ?_
                    replace B2 : Blt u142 bk2 44 #[Value.bool b44, s50.v] := B2_
                    clear B2_
                    have kk_u141 := (k_u141.trans k_u142)
                    replace B1 := kk_u141.blt B1 (by omega)
                    replace B26 := kk_u141.blt B26 (by omega)
                    replace B28 := kk_u141.blt B28 (by omega)
                    replace A := kk_u141.ahead A g2
                    replace X := X.trans kk_u141.ext
                    clear k_u142 k_u141
                    refine ldB_t 0 B2 rfl ?_
                    refine ldS_t 1 B2 rfl ?_
                    replace h := h _ X A
                    exact ⟨A, h⟩
                · skip
                  refine newC_t fun bk29 u143 hb29 ha_u143 hs B29 => ?_
                  have g29 : w.heap.size ≤ bk29 := by have := A.size; omega
                  have l1_29 : bk1 < bk29 := by have := B1.lt; omega
                  have l2_29 : bk2 < bk29 := by have := B2.lt; omega
                  have l26_29 : bk26 < bk29 := by have := B26.lt; omega
                  have y29 : w6.drew.heap.size ≤ bk29 := by omega
                  replace B1 := B1.ahead ha_u143
                  replace B2 := B2.ahead ha_u143
                  replace B26 := B26.ahead ha_u143
                  replace Y_ := Nat.le_trans Y_ ha_u143.size
                  replace A := A.trans ha_u143
                  replace X := X.trans (Ext.of_ahead ha_u143)
                  clear hs hb29
                  refine ⟨(Bar.of_ahead ha_u143), ?_⟩
                  replace h := h _ X A
                  refine Calls.mono h ?_
                  clear h
                  rintro e36 w91 ⟨b46, s52, he_, ha_w91, h⟩
                  refine ⟨b46, s52, he_, ?_⟩
                  clear he_
                  replace B1 := B1.ahead ha_w91
                  replace B2 := B2.ahead ha_w91
                  replace B26 := B26.ahead ha_w91
                  replace B29 := B29.ahead ha_w91
                  replace Y_ := Nat.le_trans Y_ ha_w91.size
                  replace A := A.trans ha_w91
                  replace X := X.trans (Ext.of_ahead ha_w91)
                  replace X : Ext w91 w91 := Ext.refl _
                  refine ⟨(Bar.of_ahead ha_w91), ?_⟩
                  replace h := h _ X A
                  refine Calls.mono h ?_
                  clear h
                  rintro e37 w93 ⟨b47, s53, b48, s54, he_, ha_w93, h⟩
                  refine ⟨b47, s53, b48, s54, he_, ?_⟩
                  clear he_
                  replace B1 := B1.ahead ha_w93
                  replace B2 := B2.ahead ha_w93
                  replace B26 := B26.ahead ha_w93
                  replace B29 := B29.ahead ha_w93
                  replace Y_ := Nat.le_trans Y_ ha_w93.size
                  replace A := A.trans ha_w93
                  replace X := X.trans (Ext.of_ahead ha_w93)
                  replace X : Ext w93 w93 := Ext.refl _
                  refine stC_t 0 B29 rfl rfl rfl fun u144 k_u144 B29_ => ?_
                  replace B29 : Blt u144 bk29 44 #[Value.bool b47, (⟨none, 0, 0⟩ : Slc).v] := B29_
                  clear B29_
                  refine stC_t 1 B29 rfl rfl rfl fun u145 k_u145 B29_ => ?_
                  replace B29 : Blt u145 bk29 44 #[Value.bool b47, s53.v] := B29_
                  clear B29_
                  have kk_u144 := (k_u144.trans k_u145)
                  replace B1 := kk_u144.blt B1 (by omega)
                  replace B2 := kk_u144.blt B2 (by omega)
                  replace B26 := kk_u144.blt B26 (by omega)
                  replace A := kk_u144.ahead A g29
                  replace X := X.trans kk_u144.ext
                  replace Y_ := Nat.le_trans Y_ (Nat.le_of_eq kk_u144.size.symm)
                  clear k_u145 k_u144
                  refine stC_t 0 B26 rfl rfl rfl fun u146 k_u146 B26_ => ?_
                  replace B26 : Blt u146 bk26 44 #[Value.bool b48, (⟨none, 0, 0⟩ : Slc).v] := B26_
                  clear B26_
                  refine stC_t 1 B26 rfl rfl rfl fun u147 k_u147 B26_ => ?_
                  replace B26 : Blt u147 bk26 44 #[Value.bool b48, s54.v] := B26_
                  clear B26_
                  have kk_u146 := (k_u146.trans k_u147)
                  replace B1 := kk_u146.blt B1 (by omega)
                  replace B2 := kk_u146.blt B2 (by omega)
                  replace B29 := kk_u146.blt B29 (by omega)
                  replace A := kk_u146.ahead A g26
                  replace X := X.trans kk_u146.ext
                  replace Y_ := Nat.le_trans Y_ (Nat.le_of_eq kk_u146.size.symm)
                  clear k_u147 k_u146
                  refine ldB_t 0 B29 rfl ?_
                  refine ldS_t 1 B29 rfl ?_
                  refine stC_t 0 B2 rfl rfl rfl fun u148 k_u148 B2_ => ?_
                  replace B2 : Blt u148 bk2 44 #[Value.bool b47, (⟨none, 0, 0⟩ : Slc).v] := B2_
                  clear B2_
                  refine stC_t 1 B2 rfl rfl rfl fun u149 k_u149 B2_ => ?_
                  replace B2 : Blt u149 bk2 44 #[Value.bool b47, s53.v] := B2_
                  clear B2_
                  have kk_u148 := (k_u148.trans k_u149)
                  replace B1 := kk_u148.blt B1 (by omega)
                  replace B26 := kk_u148.blt B26 (by omega)
                  replace B29 := kk_u148.blt B29 (by omega)
                  replace A := kk_u148.ahead A g2
                  replace X := X.trans kk_u148.ext
                  clear k_u149 k_u148
                  refine ldB_t 0 B2 rfl ?_
                  refine ldS_t 1 B2 rfl ?_
                  replace h := h _ X A
                  exact ⟨A, h⟩
              · skip
                refine newC_t fun bk30 u150 hb30 ha_u150 hs B30 => ?_
                have g30 : w.heap.size ≤ bk30 := by have := A.size; omega
                have l1_30 : bk1 < bk30 := by have := B1.lt; omega
                have l2_30 : bk2 < bk30 := by have := B2.lt; omega
                have l26_30 : bk26 < bk30 := by have := B26.lt; omega
                have y30 : w6.drew.heap.size ≤ bk30 := by omega
                replace B1 := B1.ahead ha_u150
                replace B2 := B2.ahead ha_u150
                replace B26 := B26.ahead ha_u150
                replace Y_ := Nat.le_trans Y_ ha_u150.size
                replace A := A.trans ha_u150
                replace X := X.trans (Ext.of_ahead ha_u150)
                clear hs hb30
                refine ⟨(Bar.of_ahead ha_u150), ?_⟩
                replace h := h _ X A
                refine Calls.mono h ?_
                clear h
                rintro e38 w96 ⟨s55, he_, ha_w96, h⟩
                refine ⟨s55, he_, ?_⟩
                clear he_
                replace B1 := B1.ahead ha_w96
                replace B2 := B2.ahead ha_w96
                replace B26 := B26.ahead ha_w96
                replace B30 := B30.ahead ha_w96
                replace Y_ := Nat.le_trans Y_ ha_w96.size
                replace A := A.trans ha_w96
                replace X := X.trans (Ext.of_ahead ha_w96)
                replace X : Ext w96 w96 := Ext.refl _
                refine ⟨(Bar.of_ahead ha_w96), ?_⟩
                replace h := h _ X A
                refine Calls.mono h ?_
                clear h
                rintro e39 w98 ⟨b49, s56, he_, ha_w98, h⟩
                refine ⟨b49, s56, he_, ?_⟩
                clear he_
                replace B1 := B1.ahead ha_w98
                replace B2 := B2.ahead ha_w98
                replace B26 := B26.ahead ha_w98
                replace B30 := B30.ahead ha_w98
                replace Y_ := Nat.le_trans Y_ ha_w98.size
                replace A := A.trans ha_w98
                replace X := X.trans (Ext.of_ahead ha_w98)
                replace X : Ext w98 w98 := Ext.refl _
                refine ⟨(Bar.of_ahead ha_w98), ?_⟩
                replace h := h _ X A
                refine Calls.mono h ?_
                clear h
                rintro e40 w100 ⟨b50, s57, b51, s58, he_, ha_w100, h⟩
                refine ⟨b50, s57, b51, s58, he_, ?_⟩
                clear he_
                replace B1 := B1.ahead ha_w100
                replace B2 := B2.ahead ha_w100
                replace B26 := B26.ahead ha_w100
                replace B30 := B30.ahead ha_w100
                replace Y_ := Nat.le_trans Y_ ha_w100.size
                replace A := A.trans ha_w100
                replace X := X.trans (Ext.of_ahead ha_w100)
                replace X : Ext w100 w100 := Ext.refl _
                refine stC_t 0 B30 rfl rfl rfl fun u151 k_u151 B30_ => ?_
                replace B30 : Blt u151 bk30 44 #[Value.bool b50, (⟨none, 0, 0⟩ : Slc).v] := B30_
                clear B30_
                refine stC_t 1 B30 rfl rfl rfl fun u152 k_u152 B30_ => ?_
                replace B30 : Blt u152 bk30 44 #[Value.bool b50, s57.v] := B30_
                clear B30_
                have kk_u151 := (k_u151.trans k_u152)
                replace B1 := kk_u151.blt B1 (by omega)
                replace B2 := kk_u151.blt B2 (by omega)
                replace B26 := kk_u151.blt B26 (by omega)
                replace A := kk_u151.ahead A g30
                replace X := X.trans kk_u151.ext
                replace Y_ := Nat.le_trans Y_ (Nat.le_of_eq kk_u151.size.symm)
                clear k_u152 k_u151
                refine stC_t 0 B26 rfl rfl rfl fun u153 k_u153 B26_ => ?_
                replace B26 : Blt u153 bk26 44 #[Value.bool b51, (⟨none, 0, 0⟩ : Slc).v] := B26_
                clear B26_
                refine stC_t 1 B26 rfl rfl rfl fun u154 k_u154 B26_ => ?_
                replace B26 : Blt u154 bk26 44 #[Value.bool b51, s58.v] := B26_
                clear B26_
                have kk_u153 := (k_u153.trans k_u154)
                replace B1 := kk_u153.blt B1 (by omega)
                replace B2 := kk_u153.blt B2 (by omega)
                replace B30 := kk_u153.blt B30 (by omega)
                replace A := kk_u153.ahead A g26
                replace X := X.trans kk_u153.ext
                replace Y_ := Nat.le_trans Y_ (Nat.le_of_eq kk_u153.size.symm)
                clear k_u154 k_u153
                refine ldB_t 0 B30 rfl ?_
                refine ldS_t 1 B30 rfl ?_
                refine stC_t 0 B2 rfl rfl rfl fun u155 k_u155 B2_ => ?_
                replace B2 : Blt u155 bk2 44 #[Value.bool b50, (⟨none, 0, 0⟩ : Slc).v] := B2_
                clear B2_
                refine stC_t 1 B2 rfl rfl rfl fun u156 k_u156 B2_ => ?_
                replace B2 : Blt u156 bk2 44 #[Value.bool b50, s57.v] := B2_
                clear B2_
                have kk_u155 := (k_u155.trans k_u156)
                replace B1 := kk_u155.blt B1 (by omega)
                replace B26 := kk_u155.blt B26 (by omega)
                replace B30 := kk_u155.blt B30 (by omega)
                replace A := kk_u155.ahead A g2
                replace X := X.trans kk_u155.ext
                clear k_u156 k_u155
                refine ldB_t 0 B2 rfl ?_
                refine ldS_t 1 B2 rfl ?_
                replace h := h _ X A
                exact ⟨A, h⟩
        · skip
          refine ⟨?_, ?_⟩
          · skip
            refine newC_t fun bk31 u157 hb31 ha_u157 hs B31 => ?_
            have g31 : w.heap.size ≤ bk31 := by have := A.size; omega
            have l1_31 : bk1 < bk31 := by have := B1.lt; omega
            have l2_31 : bk2 < bk31 := by have := B2.lt; omega
            have y31 : w6.drew.heap.size ≤ bk31 := by omega
            replace B1 := B1.ahead ha_u157
            replace B2 := B2.ahead ha_u157
            replace Y_ := Nat.le_trans Y_ ha_u157.size
            replace A := A.trans ha_u157
            replace X := X.trans (Ext.of_ahead ha_u157)
            clear hs hb31
            refine ⟨(Bar.of_ahead ha_u157), ?_⟩
            refine ⟨?_, ?_⟩
            · skip
              replace h := h _ X A
              refine Calls.mono h ?_
              clear h
              rintro e41 w103 ⟨s59, he_, ha_w103, h⟩
              refine ⟨s59, he_, ?_⟩
              clear he_
              replace B1 := B1.ahead ha_w103
              replace B2 := B2.ahead ha_w103
              replace B31 := B31.ahead ha_w103
              replace Y_ := Nat.le_trans Y_ ha_w103.size
              replace A := A.trans ha_w103
              replace X := X.trans (Ext.of_ahead ha_w103)
              replace X : Ext w103 w103 := Ext.refl _
              refine ⟨(Bar.of_ahead ha_w103), ?_⟩
              refine ⟨?_, ?_⟩
              · skip
                replace h := h _ X A
                refine Calls.mono h ?_
                clear h
                rintro e42 w105 ⟨s60, he_, ha_w105, h⟩
                refine ⟨s60, he_, ?_⟩
                clear he_
                replace B1 := B1.ahead ha_w105
                replace B2 := B2.ahead ha_w105
                replace B31 := B31.ahead ha_w105
                replace Y_ := Nat.le_trans Y_ ha_w105.size
                replace A := A.trans ha_w105
                replace X := X.trans (Ext.of_ahead ha_w105)
                replace X : Ext w105 w105 := Ext.refl _
                refine ⟨(Bar.of_ahead ha_w105), ?_⟩
                refine ⟨?_, ?_⟩
                · skip
                  replace h := h _ X A
                  refine Calls.mono h ?_
                  clear h
                  rintro e43 w107 ⟨b52, s61, he_, ha_w107, h⟩
                  refine ⟨b52, s61, he_, ?_⟩
                  clear he_
                  replace B1 := B1.ahead ha_w107
                  replace B2 := B2.ahead ha_w107
                  replace B31 := B31.ahead ha_w107
                  replace Y_ := Nat.le_trans Y_ ha_w107.size
                  replace A := A.trans ha_w107
                  replace X := X.trans (Ext.of_ahead ha_w107)
                  replace X : Ext w107 w107 := Ext.refl _
                  refine ⟨(Bar.of_ahead ha_w107), ?_⟩
                  refine ⟨?_, ?_⟩
                  · skip
                    replace h := h _ X A
                    refine Calls.mono h ?_
                    clear h
                    rintro e44 w109 ⟨b53, s62, b54, s63, he_, ha_w109, h⟩
                    refine ⟨b53, s62, b54, s63, he_, ?_⟩
                    clear he_
                    replace B1 := B1.ahead ha_w109
                    replace B2 := B2.ahead ha_w109
                    replace B31 := B31.ahead ha_w109
                    replace Y_ := Nat.le_trans Y_ ha_w109.size
                    replace A := A.trans ha_w109
                    replace X := X.trans (Ext.of_ahead ha_w109)
                    replace X : Ext w109 w109 := Ext.refl _
                    refine newC_t fun bk32 u158 hb32 ha_u158 hs B32 => ?_
                    have g32 : w.heap.size ≤ bk32 := by have := A.size; omega
                    have l1_32 : bk1 < bk32 := by have := B1.lt; omega
                    have l2_32 : bk2 < bk32 := by have := B2.lt; omega
                    have l31_32 : bk31 < bk32 := by have := B31.lt; omega
                    have y32 : w6.drew.heap.size ≤ bk32 := by omega
                    replace B1 := B1.ahead ha_u158
                    replace B2 := B2.ahead ha_u158
                    replace B31 := B31.ahead ha_u158
                    replace Y_ := Nat.le_trans Y_ ha_u158.size
                    replace A := A.trans ha_u158
                    replace X := X.trans (Ext.of_ahead ha_u158)
                    clear hs hb32
                    refine ⟨(Bar.of_ahead ha_u158), ?_⟩
                    refine stC_t 0 B31 rfl rfl rfl fun u159 k_u159 B31_ => ?_
                    replace B31 : Blt u159 bk31 44 #[Value.bool b53, (⟨none, 0, 0⟩ : Slc).v] := B31_
                    clear B31_
                    refine stC_t 1 B31 rfl rfl rfl fun u160 k_u160 B31_ => ?_
                    replace B31 : Blt u160 bk31 44 #[Value.bool b53, s62.v] := B31_
                    clear B31_
                    have kk_u159 := (k_u159.trans k_u160)
                    replace B1 := kk_u159.blt B1 (by omega)
                    replace B2 := kk_u159.blt B2 (by omega)
                    replace B32 := kk_u159.blt B32 (by omega)
                    replace A := kk_u159.ahead A g31
                    replace X := X.trans kk_u159.ext
                    replace Y_ := Nat.le_trans Y_ (Nat.le_of_eq kk_u159.size.symm)
                    clear k_u160 k_u159
                    refine stC_t 0 B32 rfl rfl rfl fun u161 k_u161 B32_ => ?_
                    replace B32 : Blt u161 bk32 44 #[Value.bool b54, (⟨none, 0, 0⟩ : Slc).v] := B32_
                    clear B32_
                    refine stC_t 1 B32 rfl rfl rfl fun u162 k_u162 B32_ => ?_
                    replace B32 : Blt u162 bk32 44 #[Value.bool b54, s63.v] := B32_
                    clear B32_
                    have kk_u161 := (k_u161.trans k_u162)
                    replace B1 := kk_u161.blt B1 (by omega)
                    replace B2 := kk_u161.blt B2 (by omega)
                    replace B31 := kk_u161.blt B31 (by omega)
                    replace A := kk_u161.ahead A g32
                    replace X := X.trans kk_u161.ext
                    replace Y_ := Nat.le_trans Y_ (Nat.le_of_eq kk_u161.size.symm)
                    clear k_u162 k_u161
                    refine ldB_t 0 B31 rfl ?_
                    refine ldS_t 1 B31 rfl ?_
                    refine stC_t 0 B2 rfl rfl rfl fun u163 k_u163 B2_ => ?_
                    replace B2 : Blt u163 bk2 44 #[Value.bool b53, (⟨none, 0, 0⟩ : Slc).v] := B2_
                    clear B2_
                    refine stC_t 1 B2 rfl rfl rfl fun u164 k_u164 B2_ => ?_
                    replace B2 : Blt u164 bk2 44 #[Value.bool b53, s62.v] := B2_
                    clear B2_
                    have kk_u163 := (k_u163.trans k_u164)
                    replace B1 := kk_u163.blt B1 (by omega)
                    replace B31 := kk_u163.blt B31 (by omega)
                    replace B32 := kk_u163.blt B32 (by omega)
                    replace A := kk_u163.ahead A g2
                    replace X := X.trans kk_u163.ext
                    clear k_u164 k_u163
                    refine ldB_t 0 B2 rfl ?_
                    refine ldS_t 1 B2 rfl ?_
                    replace h := h _ X A
                    exact ⟨A, h⟩
                  · skip
                    refine newC_t fun bk33 u165 hb33 ha_u165 hs B33 => ?_
                    have g33 : w.heap.size ≤ bk33 := by have := A.size; omega
                    have l1_33 : bk1 < bk33 := by have := B1.lt; omega
                    have l2_33 : bk2 < bk33 := by have := B2.lt; omega
                    have l31_33 : bk31 < bk33 := by have := B31.lt; omega
                    have y33 : w6.drew.heap.size ≤ bk33 := by omega
                    replace B1 := B1.ahead ha_u165
                    replace B2 := B2.ahead ha_u165
                    replace B31 := B31.ahead ha_u165
                    replace Y_ := Nat.le_trans Y_ ha_u165.size
                    replace A := A.trans ha_u165
                    replace X := X.trans (Ext.of_ahead ha_u165)
                    clear hs hb33
                    refine ⟨(Bar.of_ahead ha_u165), ?_⟩
                    replace h := h _ X A
                    refine Calls.mono h ?_
                    clear h
                    rintro e45 w112 ⟨b55, s64, b56, s65, he_, ha_w112, h⟩
                    refine ⟨b55, s64, b56, s65, he_, ?_⟩
                    clear he_
                    replace B1 := B1.ahead ha_w112
                    replace B2 := B2.ahead ha_w112
                    replace B31 := B31.ahead ha_w112
                    replace B33 := B33.ahead ha_w112
                    replace Y_ := Nat.le_trans Y_ ha_w112.size
                    replace A := A.trans ha_w112
                    replace X := X.trans (Ext.of_ahead ha_w112)
                    replace X : Ext w112 w112 := Ext.refl _
                    refine stC_t 0 B31 rfl rfl rfl fun u166 k_u166 B31_ => ?_
                    replace B31 : Blt u166 bk31 44 #[Value.bool b55, (⟨none, 0, 0⟩ : Slc).v] := B31_
                    clear B31_
                    refine stC_t 1 B31 rfl rfl rfl fun u167 k_u167 B31_ => ?_
                    replace B31 : Blt u167 bk31 44 #[Value.bool b55, s64.v] := B31_
                    clear B31_
                    have kk_u166 := (k_u166.trans k_u167)
                    replace B1 := kk_u166.blt B1 (by omega)
                    replace B2 := kk_u166.blt B2 (by omega)
                    replace B33 := kk_u166.blt B33 (by omega)
                    replace A := kk_u166.ahead A g31
                    replace X := X.trans kk_u166.ext
                    replace Y_ := Nat.le_trans Y_ (Nat.le_of_eq kk_u166.size.symm)
                    clear k_u167 k_u166
                    refine stC_t 0 B33 rfl rfl rfl fun u168 k_u168 B33_ => ?_
                    replace B33 : Blt u168 bk33 44 #[Value.bool b56, (⟨none, 0, 0⟩ : Slc).v] := B33_
                    clear B33_
                    refine stC_t 1 B33 rfl rfl rfl fun u169 k_u169 B33_ => ?_
                    replace B33 : Blt u169 bk33 44 #[Value.bool b56, s65.v] := B33_
                    clear B33_
                    have kk_u168 := (k_u168.trans k_u169)
                    replace B1 := kk_u168.blt B1 (by omega)
                    replace B2 := kk_u168.blt B2 (by omega)
                    replace B31 := kk_u168.blt B31 (by omega)
                    replace A := kk_u168.ahead A g33
                    replace X := X.trans kk_u168.ext
                    replace Y_ := Nat.le_trans Y_ (Nat.le_of_eq kk_u168.size.symm)
                    clear k_u169 k_u168
                    refine ldB_t 0 B31 rfl ?_
                    refine ldS_t 1 B31 rfl ?_
                    refine stC_t 0 B2 rfl rfl rfl fun u170 k_u170 B2_ => ?_
                    replace B2 : Blt u170 bk2 44 #[Value.bool b55, (⟨none, 0, 0⟩ : Slc).v] := B2_
                    clear B2_
                    refine stC_t 1 B2 rfl rfl rfl fun u171 k_u171 B2_ => ?_
                    replace B2 : Blt u171 bk2 44 #[Value.bool b55, s64.v] := B2_
                    clear B2_
                    have kk_u170 := (k_u170.trans k_u171)
                    replace B1 := kk_u170.blt B1 (by omega)
                    replace B31 := kk_u170.blt B31 (by omega)
                    replace B33 := kk_u170.blt B33 (by omega)
                    replace A := kk_u170.ahead A g2
                    replace X := X.trans kk_u170.ext
                    clear k_u171 k_u170
                    refine ldB_t 0 B2 rfl ?_
                    refine ldS_t 1 B2 rfl ?_
                    replace h := h _ X A
                    exact ⟨A, h⟩
                · skip
                  refine newC_t fun bk34 u172 hb34 ha_u172 hs B34 => ?_
                  have g34 : w.heap.size ≤ bk34 := by have := A.size; omega
                  have l1_34 : bk1 < bk34 := by have := B1.lt; omega
                  have l2_34 : bk2 < bk34 := by have := B2.lt; omega
                  have l31_34 : bk31 < bk34 := by have := B31.lt; omega
                  have y34 : w6.drew.heap.size ≤ bk34 := by omega
                  replace B1 := B1.ahead ha_u172
                  replace B2 := B2.ahead ha_u172
                  replace B31 := B31.ahead ha_u172
                  replace Y_ := Nat.le_trans Y_ ha_u172.size
                  replace A := A.trans ha_u172
                  replace X := X.trans (Ext.of_ahead ha_u172)
                  clear hs hb34
                  refine ⟨(Bar.of_ahead ha_u172), ?_⟩
                  replace h := h _ X A
                  refine Calls.mono h ?_
                  clear h
                  rintro e46 w115 ⟨b57, s66, he_, ha_w115, h⟩
                  refine ⟨b57, s66, he_, ?_⟩
                  clear he_
                  replace B1 := B1.ahead ha_w115
                  replace B2 := B2.ahead ha_w115
                  replace B31 := B31.ahead ha_w115
                  replace B34 := B34.ahead ha_w115
                  replace Y_ := Nat.le_trans Y_ ha_w115.size
                  replace A := A.trans ha_w115
                  replace X := X.trans (Ext.of_ahead ha_w115)
                  replace X : Ext w115 w115 := Ext.refl _
                  refine ⟨(Bar.of_ahead ha_w115), ?_⟩
                  replace h := h _ X A
                  refine Calls.mono h ?_
                  clear h
                  rintro e47 w117 ⟨b58, s67, b59, s68, he_, ha_w117, h⟩
                  refine ⟨b58, s67, b59, s68, he_, ?_⟩
                  clear he_
                  replace B1 := B1.ahead ha_w117
                  replace B2 := B2.ahead ha_w117
                  replace B31 := B31.ahead ha_w117
                  replace B34 := B34.ahead ha_w117
                  replace Y_ := Nat.le_trans Y_ ha_w117.size
                  replace A := A.trans ha_w117
                  replace X := X.trans (Ext.of_ahead ha_w117)
                  replace X : Ext w117 w117 := Ext.refl _
                  refine stC_t 0 B31 rfl rfl rfl fun u173 k_u173 B31_ => ?_
                  replace B31 : Blt u173 bk31 44 #[Value.bool b58, (⟨none, 0, 0⟩ : Slc).v] := B31_
                  clear B31_
                  refine stC_t 1 B31 rfl rfl rfl fun u174 k_u174 B31_ => ?_
                  replace B31 : Blt u174 bk31 44 #[Value.bool b58, s67.v] := B31_
                  clear B31_
                  have kk_u173 := (k_u173.trans k_u174)
                  replace B1 := kk_u173.blt B1 (by omega)
                  replace B2 := kk_u173.blt B2 (by omega)
                  replace B34 := kk_u173.blt B34 (by omega)
                  replace A := kk_u173.ahead A g31
                  replace X := X.trans kk_u173.ext
                  replace Y_ := Nat.le_trans Y_ (Nat.le_of_eq kk_u173.size.symm)
                  clear k_u174 k_u173
                  refine stC_t 0 B34 rfl rfl rfl fun u175 k_u175 B34_ => ?_
                  replace B34 : Blt u175 bk34 44 #[Value.bool b59, (⟨none, 0, 0⟩ : Slc).v] := B34_
                  clear B34_
                  refine stC_t 1 B34 rfl rfl rfl fun u176 k_u176 B34_ => ?_
                  replace B34 : Blt u176 bk34 44 #[Value.bool b59, s68.v] := B34_
                  clear B34_
                  have kk_u175 := (k_u175.trans k_u176)
                  replace B1 := kk_u175.blt B1 (by omega)
                  replace B2 := kk_u175.blt B2 (by omega)
                  replace B31 := kk_u175.blt B31 (by omega)
                  replace A := kk_u175.ahead A g34
                  replace X := X.trans kk_u175.ext
                  replace Y_ := Nat.le_trans Y_ (Nat.le_of_eq kk_u175.size.symm)
                  clear k_u176 k_u175
                  refine ldB_t 0 B31 rfl ?_
                  refine ldS_t 1 B31 rfl ?_
                  refine stC_t 0 B2 rfl rfl rfl fun u177 k_u177 B2_ => ?_
                  replace B2 : Blt u177 bk2 44 #[Value.bool b58, (⟨none, 0, 0⟩ : Slc).v] := B2_
                  clear B2_
                  refine stC_t 1 B2 rfl rfl rfl fun u178 k_u178 B2_ => ?_
                  replace B2 : Blt u178 bk2 44 #[Value.bool b58, s67.v] := B2_
                  clear B2_
                  have kk_u177 := (k_u177.trans k_u178)
                  replace B1 := kk_u177.blt B1 (by omega)
                  replace B31 := kk_u177.blt B31 (by omega)
                  replace B34 := kk_u177.blt B34 (by omega)
                  replace A := kk_u177.ahead A g2
                  replace X := X.trans kk_u177.ext
                  clear k_u178 k_u177
                  refine ldB_t 0 B2 rfl ?_
                  refine ldS_t 1 B2 rfl ?_
                  replace h := h _ X A
                  exact ⟨A, h⟩
              · skip
                refine newC_t fun bk35 u179 hb35 ha_u179 hs B35 => ?_
                have g35 : w.heap.size ≤ bk35 := by have := A.size; omega
                have l1_35 : bk1 < bk35 := by have := B1.lt; omega
                have l2_35 : bk2 < bk35 := by have := B2.lt; omega
                have l31_35 : bk31 < bk35 := by have := B31.lt; omega
                have y35 : w6.drew.heap.size ≤ bk35 := by omega
                replace B1 := B1.ahead ha_u179
                replace B2 := B2.ahead ha_u179
                replace B31 := B31.ahead ha_u179
                replace Y_ := Nat.le_trans Y_ ha_u179.size
                replace A := A.trans ha_u179
                replace X := X.trans (Ext.of_ahead ha_u179)
                clear hs hb35
                refine ⟨(Bar.of_ahead ha_u179), ?_⟩
                replace h := h _ X A
                refine Calls.mono h ?_
                clear h
                rintro e48 w120 ⟨s69, he_, ha_w120, h⟩
                refine ⟨s69, he_, ?_⟩
                clear he_
                replace B1 := B1.ahead ha_w120
                replace B2 := B2.ahead ha_w120
                replace B31 := B31.ahead ha_w120
                replace B35 := B35.ahead ha_w120
                replace Y_ := Nat.le_trans Y_ ha_w120.size
                replace A := A.trans ha_w120
                replace X := X.trans (Ext.of_ahead ha_w120)
                replace X : Ext w120 w120 := Ext.refl _
                refine ⟨(Bar.of_ahead ha_w120), ?_⟩
                replace h := h _ X A
                refine Calls.mono h ?_
                clear h
                rintro e49 w122 ⟨b60, s70, he_, ha_w122, h⟩
                refine ⟨b60, s70, he_, ?_⟩
                clear he_
                replace B1 := B1.ahead ha_w122
                replace B2 := B2.ahead ha_w122
                replace B31 := B31.ahead ha_w122
                replace B35 := B35.ahead ha_w122
                replace Y_ := Nat.le_trans Y_ ha_w122.size
                replace A := A.trans ha_w122
                replace X := X.trans (Ext.of_ahead ha_w122)
                replace X : Ext w122 w122 := Ext.refl _
                refine ⟨(Bar.of_ahead ha_w122), ?_⟩
                replace h := h _ X A
                refine Calls.mono h ?_
                clear h
                rintro e50 w124 ⟨b61, s71, b62, s72, he_, ha_w124, h⟩
                refine ⟨b61, s71, b62, s72, he_, ?_⟩
                clear he_
                replace B1 := B1.ahead ha_w124
                replace B2 := B2.ahead ha_w124
                replace B31 := B31.ahead ha_w124
                replace B35 := B35.ahead ha_w124
                replace Y_ := Nat.le_trans Y_ ha_w124.size
                replace A := A.trans ha_w124
                replace X := X.trans (Ext.of_ahead ha_w124)
                replace X : Ext w124 w124 := Ext.refl _
                refine stC_t 0 B31 rfl rfl rfl fun u180 k_u180 B31_ => ?_
                replace B31 : Blt u180 bk31 44 #[Value.bool b61, (⟨none, 0, 0⟩ : Slc).v] := B31_
                clear B31_
                refine stC_t 1 B31 rfl rfl rfl fun u181 k_u181 B31_ => ?_
                replace B31 : Blt u181 bk31 44 #[Value.bool b61, s71.v] := B31_
                clear B31_
                have kk_u180 := (k_u180.trans k_u181)
                replace B1 := kk_u180.blt B1 (by omega)
                replace B2 := kk_u180.blt B2 (by omega)
                replace B35 := kk_u180.blt B35 (by omega)
                replace A := kk_u180.ahead A g31
                replace X := X.trans kk_u180.ext
                replace Y_ := Nat.le_trans Y_ (Nat.le_of_eq kk_u180.size.symm)
                clear k_u181 k_u180
                refine stC_t 0 B35 rfl rfl rfl fun u182 k_u182 B35_ => ?_
                replace B35 : Blt u182 bk35 44 #[Value.bool b62, (⟨none, 0, 0⟩ : Slc).v] := B35_
                clear B35_
                refine stC_t 1 B35 rfl rfl rfl fun u183 k_u183 B35_ => ?_
                replace B35 : Blt u183 bk35 44 #[Value.bool b62, s72.v] := B35_
                clear B35_
                have kk_u182 := (k_u182.trans k_u183)
                replace B1 := kk_u182.blt B1 (by omega)
                replace B2 := kk_u182.blt B2 (by omega)
                replace B31 := kk_u182.blt B31 (by omega)
                replace A := kk_u182.ahead A g35
                replace X := X.trans kk_u182.ext
                replace Y_ := Nat.le_trans Y_ (Nat.le_of_eq kk_u182.size.symm)
                clear k_u183 k_u182
                refine ldB_t 0 B31 rfl ?_
                refine ldS_t 1 B31 rfl ?_
                refine stC_t 0 B2 rfl rfl rfl fun u184 k_u184 B2_ => ?_
                replace B2 : Blt u184 bk2 44 #[Value.bool b61, (⟨none, 0, 0⟩ : Slc).v] := B2_
                clear B2_
                refine stC_t 1 B2 rfl rfl rfl fun u185 k_u185 B2_ => ?_
                replace B2 : Blt u185 bk2 44 #[Value.bool b61, s71.v] := B2_
                clear B2_
                have kk_u184 := (k_u184.trans k_u185)
                replace B1 := kk_u184.blt B1 (by omega)
                replace B31 := kk_u184.blt B31 (by omega)
                replace B35 := kk_u184.blt B35 (by omega)
                replace A := kk_u184.ahead A g2
                replace X := X.trans kk_u184.ext
                clear k_u185 k_u184
                refine ldB_t 0 B2 rfl ?_
                refine ldS_t 1 B2 rfl ?_
                replace h := h _ X A
                exact ⟨A, h⟩
            · skip
              refine newC_t fun bk36 u186 hb36 ha_u186 hs B36 => ?_
              have g36 : w.heap.size ≤ bk36 := by have := A.size; omega
              have l1_36 : bk1 < bk36 := by have := B1.lt; omega
              have l2_36 : bk2 < bk36 := by have := B2.lt; omega
              have l31_36 : bk31 < bk36 := by have := B31.lt; omega
              have y36 : w6.drew.heap.size ≤ bk36 := by omega
              replace B1 := B1.ahead ha_u186
              replace B2 := B2.ahead ha_u186
              replace B31 := B31.ahead ha_u186
              replace Y_ := Nat.le_trans Y_ ha_u186.size
              replace A := A.trans ha_u186
              replace X := X.trans (Ext.of_ahead ha_u186)
              clear hs hb36
              refine ⟨(Bar.of_ahead ha_u186), ?_⟩
              replace h := h _ X A
              refine Calls.mono h ?_
              clear h
              rintro e51 w127 ⟨s73, he_, ha_w127, h⟩
              refine ⟨s73, he_, ?_⟩
              clear he_
              replace B1 := B1.ahead ha_w127
              replace B2 := B2.ahead ha_w127
              replace B31 := B31.ahead ha_w127
              replace B36 := B36.ahead ha_w127
              replace Y_ := Nat.le_trans Y_ ha_w127.size
              replace A := A.trans ha_w127
              replace X := X.trans (Ext.of_ahead ha_w127)
              replace X : Ext w127 w127 := Ext.refl _
              refine ⟨(Bar.of_ahead ha_w127), ?_⟩
              replace h := h _ X A
              refine Calls.mono h ?_
              clear h
              rintro e52 w129 ⟨s74, he_, ha_w129, h⟩
              refine ⟨s74, he_, ?_⟩
              clear he_
              replace B1 := B1.ahead ha_w129
              replace B2 := B2.ahead ha_w129
              replace B31 := B31.ahead ha_w129
              replace B36 := B36.ahead ha_w129
              replace Y_ := Nat.le_trans Y_ ha_w129.size
              replace A := A.trans ha_w129
              replace X := X.trans (Ext.of_ahead ha_w129)
              replace X : Ext w129 w129 := Ext.refl _
              refine ⟨(Bar.of_ahead ha_w129), ?_⟩
              replace h := h _ X A
              refine Calls.mono h ?_
              clear h
              rintro e53 w131 ⟨b63, s75, he_, ha_w131, h⟩
              refine ⟨b63, s75, he_, ?_⟩
              clear he_
              replace B1 := B1.ahead ha_w131
              replace B2 := B2.ahead ha_w131
              replace B31 := B31.ahead ha_w131
              replace B36 := B36.ahead ha_w131
              replace Y_ := Nat.le_trans Y_ ha_w131.size
              replace A := A.trans ha_w131
              replace X := X.trans (Ext.of_ahead ha_w131)
              replace X : Ext w131 w131 := Ext.refl _
              refine ⟨(Bar.of_ahead ha_w131), ?_⟩
              replace h := h _ X A
              refine Calls.mono h ?_
              clear h
              rintro e54 w133 ⟨b64, s76, b65, s77, he_, ha_w133, h⟩
              refine ⟨b64, s76, b65, s77, he_, ?_⟩
              clear he_
              replace B1 := B1.ahead ha_w133
              replace B2 := B2.ahead ha_w133
              replace B31 := B31.ahead ha_w133
              replace B36 := B36.ahead ha_w133
              replace Y_ := Nat.le_trans Y_ ha_w133.size
              replace A := A.trans ha_w133
              replace X := X.trans (Ext.of_ahead ha_w133)
              replace X : Ext w133 w133 := Ext.refl _
              refine stC_t 0 B31 rfl rfl rfl fun u187 k_u187 B31_ => ?_
              replace B31 : Blt u187 bk31 44 #[Value.bool b64, (⟨none, 0, 0⟩ : Slc).v] := B31_
              clear B31_
              refine stC_t 1 B31 rfl rfl rfl fun u188 k_u188 B31_ => ?_
              replace B31 : Blt u188 bk31 44 #[Value.bool b64, s76.v] := B31_
              clear B31_
              have kk_u187 := (k_u187.trans k_u188)
              replace B1 := kk_u187.blt B1 (by omega)
              replace B2 := kk_u187.blt B2 (by omega)
              replace B36 := kk_u187.blt B36 (by omega)
              replace A := kk_u187.ahead A g31
              replace X := X.trans kk_u187.ext
              replace Y_ := Nat.le_trans Y_ (Nat.le_of_eq kk_u187.size.symm)
              clear k_u188 k_u187
              refine stC_t 0 B36 rfl rfl rfl fun u189 k_u189 B36_ => ?_
              replace B36 : Blt u189 bk36 44 #[Value.bool b65, (⟨none, 0, 0⟩ : Slc).v] := B36_
              clear B36_
              refine stC_t 1 B36 rfl rfl rfl fun u190 k_u190 B36_ => ?_
              replace B36 : Blt u190 bk36 44 #[Value.bool b65, s77.v] := B36_
              clear B36_
              have kk_u189 := (k_u189.trans k_u190)
              replace B1 := kk_u189.blt B1 (by omega)
              replace B2 := kk_u189.blt B2 (by omega)
              replace B31 := kk_u189.blt B31 (by omega)
              replace A := kk_u189.ahead A g36
              replace X := X.trans kk_u189.ext
              replace Y_ := Nat.le_trans Y_ (Nat.le_of_eq kk_u189.size.symm)
              clear k_u190 k_u189
              refine ldB_t 0 B31 rfl ?_
              refine ldS_t 1 B31 rfl ?_
              refine stC_t 0 B2 rfl rfl rfl fun u191 k_u191 B2_ => ?_
              replace B2 : Blt u191 bk2 44 #[Value.bool b64, (⟨none, 0, 0⟩ : Slc).v] := B2_
              clear B2_
              refine stC_t 1 B2 rfl rfl rfl fun u192 k_u192 B2_ => ?_
              replace B2 : Blt u192 bk2 44 #[Value.bool b64, s76.v] := B2_
              clear B2_
              have kk_u191 := (k_u191.trans k_u192)
              replace B1 := kk_u191.blt B1 (by omega)
              replace B31 := kk_u191.blt B31 (by omega)
              replace B36 := kk_u191.blt B36 (by omega)
              replace A := kk_u191.ahead A g2
              replace X := X.trans kk_u191.ext
              clear k_u192 k_u191
              refine ldB_t 0 B2 rfl ?_
              refine ldS_t 1 B2 rfl ?_
              replace h := h _ X A
              exact ⟨A, h⟩
          · skip
            refine newC_t fun bk37 u193 hb37 ha_u193 hs B37 => ?_
            have g37 : w.heap.size ≤ bk37 := by have := A.size; omega
            have l1_37 : bk1 < bk37 := by have := B1.lt; omega
            have l2_37 : bk2 < bk37 := by have := B2.lt; omega
            have y37 : w6.drew.heap.size ≤ bk37 := by omega
            replace B1 := B1.ahead ha_u193
            replace B2 := B2.ahead ha_u193
            replace Y_ := Nat.le_trans Y_ ha_u193.size
            replace A := A.trans ha_u193
            replace X := X.trans (Ext.of_ahead ha_u193)
            clear hs hb37
            refine ⟨(Bar.of_ahead ha_u193), ?_⟩
            refine ⟨?_, ?_⟩
            · skip
              replace h := h _ X A
              refine Calls.mono h ?_
              clear h
              rintro e55 w136 ⟨s78, he_, ha_w136, h⟩
              refine ⟨s78, he_, ?_⟩
              clear he_
              replace B1 := B1.ahead ha_w136
              replace B2 := B2.ahead ha_w136
              replace B37 := B37.ahead ha_w136
              replace Y_ := Nat.le_trans Y_ ha_w136.size
              replace A := A.trans ha_w136
              replace X := X.trans (Ext.of_ahead ha_w136)
              replace X : Ext w136 w136 := Ext.refl _
              refine ⟨(Bar.of_ahead ha_w136), ?_⟩
              refine ⟨?_, ?_⟩
              · skip
                replace h := h _ X A
                refine Calls.mono h ?_
                clear h
                rintro e56 w138 ⟨s79, he_, ha_w138, h⟩
                refine ⟨s79, he_, ?_⟩
                clear he_
                replace B1 := B1.ahead ha_w138
                replace B2 := B2.ahead ha_w138
                replace B37 := B37.ahead ha_w138
                replace Y_ := Nat.le_trans Y_ ha_w138.size
                replace A := A.trans ha_w138
                replace X := X.trans (Ext.of_ahead ha_w138)
                replace X : Ext w138 w138 := Ext.refl _
                refine ⟨(Bar.of_ahead ha_w138), ?_⟩
                refine ⟨?_, ?_⟩
                · skip
                  replace h := h _ X A
                  refine Calls.mono h ?_
                  clear h
                  rintro e57 w140 ⟨b66, s80, he_, ha_w140, h⟩
                  refine ⟨b66, s80, he_, ?_⟩
                  clear he_
                  replace B1 := B1.ahead ha_w140
                  replace B2 := B2.ahead ha_w140
                  replace B37 := B37.ahead ha_w140
                  replace Y_ := Nat.le_trans Y_ ha_w140.size
                  replace A := A.trans ha_w140
                  replace X := X.trans (Ext.of_ahead ha_w140)
                  replace X : Ext w140 w140 := Ext.refl _
                  refine ⟨(Bar.of_ahead ha_w140), ?_⟩
                  refine ⟨?_, ?_⟩
                  · skip
                    replace h := h _ X A
                    refine Calls.mono h ?_
                    clear h
                    rintro e58 w142 ⟨b67, s81, b68, s82, he_, ha_w142, h⟩
                    refine ⟨b67, s81, b68, s82, he_, ?_⟩
                    clear he_
                    replace B1 := B1.ahead ha_w142
                    replace B2 := B2.ahead ha_w142
                    replace B37 := B37.ahead ha_w142
                    replace Y_ := Nat.le_trans Y_ ha_w142.size
                    replace A := A.trans ha_w142
                    replace X := X.trans (Ext.of_ahead ha_w142)
                    replace X : Ext w142 w142 := Ext.refl _
                    refine newC_t fun bk38 u194 hb38 ha_u194 hs B38 => ?_
                    have g38 : w.heap.size ≤ bk38 := by have := A.size; omega
                    have l1_38 : bk1 < bk38 := by have := B1.lt; omega
                    have l2_38 : bk2 < bk38 := by have := B2.lt; omega
                    have l37_38 : bk37 < bk38 := by have := B37.lt; omega
                    have y38 : w6.drew.heap.size ≤ bk38 := by omega
                    replace B1 := B1.ahead ha_u194
                    replace B2 := B2.ahead ha_u194
                    replace B37 := B37.ahead ha_u194
                    replace Y_ := Nat.le_trans Y_ ha_u194.size
                    replace A := A.trans ha_u194
                    replace X := X.trans (Ext.of_ahead ha_u194)
                    clear hs hb38
                    refine ⟨(Bar.of_ahead ha_u194), ?_⟩
                    refine stC_t 0 B38 rfl rfl rfl fun u195 k_u195 B38_ => ?_
                    replace B38 : Blt u195 bk38 44 #[Value.bool b67, (⟨none, 0, 0⟩ : Slc).v] := B38_
                    clear B38_
                    refine stC_t 1 B38 rfl rfl rfl fun u196 k_u196 B38_ => ?_
                    replace B38 : Blt u196 bk38 44 #[Value.bool b67, s81.v] := B38_
                    clear B38_
                    have kk_u195 := (k_u195.trans k_u196)
                    replace B1 := kk_u195.blt B1 (by omega)
                    replace B2 := kk_u195.blt B2 (by omega)
                    replace B37 := kk_u195.blt B37 (by omega)
                    replace A := kk_u195.ahead A g38
                    replace X := X.trans kk_u195.ext
                    replace Y_ := Nat.le_trans Y_ (Nat.le_of_eq kk_u195.size.symm)
                    clear k_u196 k_u195
                    refine stC_t 0 B37 rfl rfl rfl fun u197 k_u197 B37_ => ?_
                    replace B37 : Blt u197 bk37 44 #[Value.bool b68, (⟨none, 0, 0⟩ : Slc).v] := B37_
                    clear B37_
                    refine stC_t 1 B37 rfl rfl rfl fun u198 k_u198 B37_ => ?_
                    replace B37 : Blt u198 bk37 44 #[Value.bool b68, s82.v] := B37_
                    clear B37_
                    have kk_u197 := (k_u197.trans k_u198)
                    replace B1 := kk_u197.blt B1 (by omega)
                    replace B2 := kk_u197.blt B2 (by omega)
                    replace B38 := kk_u197.blt B38 (by omega)
                    replace A := kk_u197.ahead A g37
                    replace X := X.trans kk_u197.ext
                    replace Y_ := Nat.le_trans Y_ (Nat.le_of_eq kk_u197.size.symm)
                    clear k_u198 k_u197
                    refine ldB_t 0 B38 rfl ?_
                    refine ldS_t 1 B38 rfl ?_
                    refine stC_t 0 B2 rfl rfl rfl fun u199 k_u199 B2_ => ?_
                    replace B2 : Blt u199 bk2 44 #[Value.bool b67, (⟨none, 0, 0⟩ : Slc).v] := B2_
                    clear B2_
                    refine stC_t 1 B2 rfl rfl rfl fun u200 k_u200 B2_ => ?_
                    replace B2 : Blt u200 bk2 44 #[Value.bool b67, s81.v] := B2_
                    clear B2_
                    have kk_u199 := (k_u199.trans k_u200)
                    replace B1 := kk_u199.blt B1 (by omega)
                    replace B37 := kk_u199.blt B37 (by omega)
                    replace B38 := kk_u199.blt B38 (by omega)
                    replace A := kk_u199.ahead A g2
                    replace X := X.trans kk_u199.ext
                    clear k_u200 k_u199
                    refine ldB_t 0 B2 rfl ?_
                    refine ldS_t 1 B2 rfl ?_
                    replace h := h _ X A
                    exact ⟨A, h⟩
                  · skip
                    refine newC_t fun bk39 u201 hb39 ha_u201 hs B39 => ?_
                    have g39 : w.heap.size ≤ bk39 := by have := A.size; omega
                    have l1_39 : bk1 < bk39 := by have := B1.lt; omega
                    have l2_39 : bk2 < bk39 := by have := B2.lt; omega
                    have l37_39 : bk37 < bk39 := by have := B37.lt; omega
                    have y39 : w6.drew.heap.size ≤ bk39 := by omega
                    replace B1 := B1.ahead ha_u201
                    replace B2 := B2.ahead ha_u201
                    replace B37 := B37.ahead ha_u201
                    replace Y_ := Nat.le_trans Y_ ha_u201.size
                    replace A := A.trans ha_u201
                    replace X := X.trans (Ext.of_ahead ha_u201)
                    clear hs hb39
                    refine ⟨(Bar.of_ahead ha_u201), ?_⟩
                    replace h := h _ X A
                    refine Calls.mono h ?_
                    clear h
                    rintro e59 w145 ⟨b69, s83, b70, s84, he_, ha_w145, h⟩
                    refine ⟨b69, s83, b70, s84, he_, ?_⟩
                    clear he_
                    replace B1 := B1.ahead ha_w145
                    replace B2 := B2.ahead ha_w145
                    replace B37 := B37.ahead ha_w145
                    replace B39 := B39.ahead ha_w145
                    replace Y_ := Nat.le_trans Y_ ha_w145.size
                    replace A := A.trans ha_w145
                    replace X := X.trans (Ext.of_ahead ha_w145)
                    replace X : Ext w145 w145 := Ext.refl _
                    refine stC_t 0 B39 rfl rfl rfl fun u202 k_u202 B39_ => ?_
                    replace B39 : Blt u202 bk39 44 #[Value.bool b69, (⟨none, 0, 0⟩ : Slc).v] := B39_
                    clear B39_
                    refine stC_t 1 B39 rfl rfl rfl fun u203 k_u203 B39_ => ?_
                    replace B39 : Blt u203 bk39 44 #[Value.bool b69, s83.v] := B39_
                    clear B39_
                    have kk_u202 := (k_u202.trans k_u203)
                    replace B1 := kk_u202.blt B1 (by omega)
                    replace B2 := kk_u202.blt B2 (by omega)
                    replace B37 := kk_u202.blt B37 (by omega)
                    replace A := kk_u202.ahead A g39
                    replace X := X.trans kk_u202.ext
                    replace Y_ := Nat.le_trans Y_ (Nat.le_of_eq kk_u202.size.symm)
                    clear k_u203 k_u202
                    refine stC_t 0 B37 rfl rfl rfl fun u204 k_u204 B37_ => ?_
                    replace B37 : Blt u204 bk37 44 #[Value.bool b70, (⟨none, 0, 0⟩ : Slc).v] := B37_
                    clear B37_
                    refine stC_t 1 B37 rfl rfl rfl fun u205 k_u205 B37_ => ?_
                    replace B37 : Blt u205 bk37 44 #[Value.bool b70, s84.v] := B37_
                    clear B37_
                    have kk_u204 := (k_u204.trans k_u205)
                    replace B1 := kk_u204.blt B1 (by omega)
                    replace B2 := kk_u204.blt B2 (by omega)
                    replace B39 := kk_u204.blt B39 (by omega)
                    replace A := kk_u204.ahead A g37
                    replace X := X.trans kk_u204.ext
                    replace Y_ := Nat.le_trans Y_ (Nat.le_of_eq kk_u204.size.symm)
                    clear k_u205 k_u204
                    refine ldB_t 0 B39 rfl ?_
                    refine ldS_t 1 B39 rfl ?_
                    refine stC_t 0 B2 rfl rfl rfl fun u206 k_u206 B2_ => ?_
                    replace B2 : Blt u206 bk2 44 #[Value.bool b69, (⟨none, 0, 0⟩ : Slc).v] := B2_
                    clear B2_
                    refine stC_t 1 B2 rfl rfl rfl fun u207 k_u207 B2_ => ?_
                    replace B2 : Blt u207 bk2 44 #[Value.bool b69, s83.v] := B2_
                    clear B2_
                    have kk_u206 := (k_u206.trans k_u207)
                    replace B1 := kk_u206.blt B1 (by omega)
                    replace B37 := kk_u206.blt B37 (by omega)
                    replace B39 := kk_u206.blt B39 (by omega)
                    replace A := kk_u206.ahead A g2
                    replace X := X.trans kk_u206.ext
                    clear k_u207 k_u206
                    refine ldB_t 0 B2 rfl ?_
                    refine ldS_t 1 B2 rfl ?_
                    replace h := h _ X A
                    exact ⟨A, h⟩
                · skip
                  refine newC_t fun bk40 u208 hb40 ha_u208 hs B40 => ?_
                  have g40 : w.heap.size ≤ bk40 := by have := A.size; omega
                  have l1_40 : bk1 < bk40 := by have := B1.lt; omega
                  have l2_40 : bk2 < bk40 := by have := B2.lt; omega
                  have l37_40 : bk37 < bk40 := by have := B37.lt; omega
                  have y40 : w6.drew.heap.size ≤ bk40 := by omega
                  replace B1 := B1.ahead ha_u208
                  replace B2 := B2.ahead ha_u208
                  replace B37 := B37.ahead ha_u208
                  replace Y_ := Nat.le_trans Y_ ha_u208.size
                  replace A := A.trans ha_u208
                  replace X := X.trans (Ext.of_ahead ha_u208)
                  clear hs hb40
                  refine ⟨(Bar.of_ahead ha_u208), ?_⟩
                  replace h := h _ X A
                  refine Calls.mono h ?_
                  clear h
                  rintro e60 w148 ⟨b71, s85, he_, ha_w148, h⟩
                  refine ⟨b71, s85, he_, ?_⟩
                  clear he_
                  replace B1 := B1.ahead ha_w148
                  replace B2 := B2.ahead ha_w148
                  replace B37 := B37.ahead ha_w148
                  replace B40 := B40.ahead ha_w148
                  replace Y_ := Nat.le_trans Y_ ha_w148.size
                  replace A := A.trans ha_w148
                  replace X := X.trans (Ext.of_ahead ha_w148)
                  replace X : Ext w148 w148 := Ext.refl _
                  refine ⟨(Bar.of_ahead ha_w148), ?_⟩
                  replace h := h _ X A
                  refine Calls.mono h ?_
                  clear h
                  rintro e61 w150 ⟨b72, s86, b73, s87, he_, ha_w150, h⟩
                  refine ⟨b72, s86, b73, s87, he_, ?_⟩
                  clear he_
                  replace B1 := B1.ahead ha_w150
                  replace B2 := B2.ahead ha_w150
                  replace B37 := B37.ahead ha_w150
                  replace B40 := B40.ahead ha_w150
                  replace Y_ := Nat.le_trans Y_ ha_w150.size
                  replace A := A.trans ha_w150
                  replace X := X.trans (Ext.of_ahead ha_w150)
                  replace X : Ext w150 w150 := Ext.refl _
                  refine stC_t 0 B40 rfl rfl rfl fun u209 k_u209 B40_ => ?_
                  replace B40 : Blt u209 bk40 44 #[Value.bool b72, (⟨none, 0, 0⟩ : Slc).v] := B40_
                  clear B40_
                  refine stC_t 1 B40 rfl rfl rfl fun u210 k_u210 B40_ => ?_
                  replace B40 : Blt u210 bk40 44 #[Value.bool b72, s86.v] := B40_
                  clear B40_
                  have kk_u209 := (k_u209.trans k_u210)
                  replace B1 := kk_u209.blt B1 (by omega)
                  replace B2 := kk_u209.blt B2 (by omega)
                  replace B37 := kk_u209.blt B37 (by omega)
                  replace A := kk_u209.ahead A g40
                  replace X := X.trans kk_u209.ext
                  replace Y_ := Nat.le_trans Y_ (Nat.le_of_eq kk_u209.size.symm)
                  clear k_u210 k_u209
                  refine stC_t 0 B37 rfl rfl rfl fun u211 k_u211 B37_ => ?_
                  replace B37 : Blt u211 bk37 44 #[Value.bool b73, (⟨none, 0, 0⟩ : Slc).v] := B37_
                  clear B37_
                  refine stC_t 1 B37 rfl rfl rfl fun u212 k_u212 B37_ => ?_
                  replace B37 : Blt u212 bk37 44 #[Value.bool b73, s87.v] := B37_
                  clear B37_
                  have kk_u211 := (k_u211.trans k_u212)
                  replace B1 := kk_u211.blt B1 (by omega)
                  replace B2 := kk_u211.blt B2 (by omega)
                  replace B40 := kk_u211.blt B40 (by omega)
                  replace A := kk_u211.ahead A g37
                  replace X := X.trans kk_u211.ext
                  replace Y_ := Nat.le_trans Y_ (Nat.le_of_eq kk_u211.size.symm)
                  clear k_u212 k_u211
                  refine ldB_t 0 B40 rfl ?_
                  refine ldS_t 1 B40 rfl ?_
                  refine stC_t 0 B2 rfl rfl rfl fun u213 k_u213 B2_ => ?_
                  replace B2 : Blt u213 bk2 44 #[Value.bool b72, (⟨none, 0, 0⟩ : Slc).v] := B2_
                  clear B2_
                  refine stC_t 1 B2 rfl rfl rfl fun u214 k_u214 B2_ => ?_
                  replace B2 : Blt u214 bk2 44 #[Value.bool b72, s86.v] := B2_
                  clear B2_
                  have kk_u213 := (k_u213.trans k_u214)
                  replace B1 := kk_u213.blt B1 (by omega)
                  replace B37 := kk_u213.blt B37 (by omega)
                  replace B40 := kk_u213.blt B40 (by omega)
                  replace A := kk_u213.ahead A g2
                  replace X := X.trans kk_u213.ext
                  clear k_u214 k_u213
                  refine ldB_t 0 B2 rfl ?_
                  refine ldS_t 1 B2 rfl ?_
                  replace h := h _ X A
                  exact ⟨A, h⟩
              · skip
                refine newC_t fun bk41 u215 hb41 ha_u215 hs B41 => ?_
                have g41 : w.heap.size ≤ bk41 := by have := A.size; omega
                have l1_41 : bk1 < bk41 := by have := B1.lt; omega
                have l2_41 : bk2 < bk41 := by have := B2.lt; omega
                have l37_41 : bk37 < bk41 := by have := B37.lt; omega
                have y41 : w6.drew.heap.size ≤ bk41 := by omega
                replace B1 := B1.ahead ha_u215
                replace B2 := B2.ahead ha_u215
                replace B37 := B37.ahead ha_u215
                replace Y_ := Nat.le_trans Y_ ha_u215.size
                replace A := A.trans ha_u215
                replace X := X.trans (Ext.of_ahead ha_u215)
                clear hs hb41
                refine ⟨(Bar.of_ahead ha_u215), ?_⟩
                replace h := h _ X A
                refine Calls.mono h ?_
                clear h
                rintro e62 w153 ⟨s88, he_, ha_w153, h⟩
                refine ⟨s88, he_, ?_⟩
                clear he_
                replace B1 := B1.ahead ha_w153
                replace B2 := B2.ahead ha_w153
                replace B37 := B37.ahead ha_w153
                replace B41 := B41.ahead ha_w153
                replace Y_ := Nat.le_trans Y_ ha_w153.size
                replace A := A.trans ha_w153
                replace X := X.trans (Ext.of_ahead ha_w153)
                replace X : Ext w153 w153 := Ext.refl _
                refine ⟨(Bar.of_ahead ha_w153), ?_⟩
                replace h := h _ X A
                refine Calls.mono h ?_
                clear h
                rintro e63 w155 ⟨b74, s89, he_, ha_w155, h⟩
                refine ⟨b74, s89, he_, ?_⟩
                clear he_
                replace B1 := B1.ahead ha_w155
                replace B2 := B2.ahead ha_w155
                replace B37 := B37.ahead ha_w155
                replace B41 := B41.ahead ha_w155
                replace Y_ := Nat.le_trans Y_ ha_w155.size
                replace A := A.trans ha_w155
                replace X := X.trans (Ext.of_ahead ha_w155)
                replace X : Ext w155 w155 := Ext.refl _
                refine ⟨(Bar.of_ahead ha_w155), ?_⟩
                replace h := h _ X A
                refine Calls.mono h ?_
                clear h
                rintro e64 w157 ⟨b75, s90, b76, s91, he_, ha_w157, h⟩
                refine ⟨b75, s90, b76, s91, he_, ?_⟩
                clear he_
                replace B1 := B1.ahead ha_w157
                replace B2 := B2.ahead ha_w157
                replace B37 := B37.ahead ha_w157
                replace B41 := B41.ahead ha_w157
                replace Y_ := Nat.le_trans Y_ ha_w157.size
                replace A := A.trans ha_w157
                replace X := X.trans (Ext.of_ahead ha_w157)
                replace X : Ext w157 w157 := Ext.refl _
                refine stC_t 0 B41 rfl rfl rfl fun u216 k_u216 B41_ => ?_
                replace B41 : Blt u216 bk41 44 #[Value.bool b75, (⟨none, 0, 0⟩ : Slc).v] := B41_
                clear B41_
                refine stC_t 1 B41 rfl rfl rfl fun u217 k_u217 B41_ => ?_
                replace B41 : Blt u217 bk41 44 #[Value.bool b75, s90.v] := B41_
                clear B41_
                have kk_u216 := (k_u216.trans k_u217)
                replace B1 := kk_u216.blt B1 (by omega)
                replace B2 := kk_u216.blt B2 (by omega)
                replace B37 := kk_u216.blt B37 (by omega)
                replace A := kk_u216.ahead A g41
                replace X := X.trans kk_u216.ext
                replace Y_ := Nat.le_trans Y_ (Nat.le_of_eq kk_u216.size.symm)
                clear k_u217 k_u216
                refine stC_t 0 B37 rfl rfl rfl fun u218 k_u218 B37_ => ?_
                replace B37 : Blt u218 bk37 44 #[Value.bool b76, (⟨none, 0, 0⟩ : Slc).v] := B37_
                clear B37_
                refine stC_t 1 B37 rfl rfl rfl fun u219 k_u219 B37_ => ?_
                replace B37 : Blt u219 bk37 44 #[Value.bool b76, s91.v] := B37_
                clear B37_
                have kk_u218 := (k_u218.trans k_u219)
                replace B1 := kk_u218.blt B1 (by omega)
                replace B2 := kk_u218.blt B2 (by omega)
                replace B41 := kk_u218.blt B41 (by omega)
                replace A := kk_u218.ahead A g37
                replace X := X.trans kk_u218.ext
                replace Y_ := Nat.le_trans Y_ (Nat.le_of_eq kk_u218.size.symm)
                clear k_u219 k_u218
                refine ldB_t 0 B41 rfl ?_
                refine ldS_t 1 B41 rfl ?_
                refine stC_t 0 B2 rfl rfl rfl fun u220 k_u220 B2_ => ?_
                replace B2 : Blt u220 bk2 44 #[Value.bool b75, (⟨none, 0, 0⟩ : Slc).v] := B2_
                clear B2_
                refine stC_t 1 B2 rfl rfl rfl fun u221 k_u221 B2_ => ?_
                replace B2 : Blt u221 bk2 44 #[Value.bool b75, s90.v] := B2_
                clear B2_
                have kk_u220 := (k_u220.trans k_u221)
                replace B1 := kk_u220.blt B1 (by omega)
                replace B37 := kk_u220.blt B37 (by omega)
                replace B41 := kk_u220.blt B41 (by omega)
                replace A := kk_u220.ahead A g2
                replace X := X.trans kk_u220.ext
                clear k_u221 k_u220
                refine ldB_t 0 B2 rfl ?_
                refine ldS_t 1 B2 rfl ?_
                replace h := h _ X A
                exact ⟨A, h⟩
            · skip
              refine newC_t fun bk42 u222 hb42 ha_u222 hs B42 => ?_
              have g42 : w.heap.size ≤ bk42 := by have := A.size; omega
              have l1_42 : bk1 < bk42 := by have := B1.lt; omega
              have l2_42 : bk2 < bk42 := by have := B2.lt; omega
              have l37_42 : bk37 < bk42 := by have := B37.lt; omega
              have y42 : w6.drew.heap.size ≤ bk42 := by omega
              replace B1 := B1.ahead ha_u222
              replace B2 := B2.ahead ha_u222
              replace B37 := B37.ahead ha_u222
              replace Y_ := Nat.le_trans Y_ ha_u222.size
              replace A := A.trans ha_u222
              replace X := X.trans (Ext.of_ahead ha_u222)
              clear hs hb42
              refine ⟨(Bar.of_ahead ha_u222), ?_⟩
              replace h := h _ X A
              refine Calls.mono h ?_
              clear h
              rintro e65 w160 ⟨s92, he_, ha_w160, h⟩
              refine ⟨s92, he_, ?_⟩
              clear he_
              replace B1 := B1.ahead ha_w160
              replace B2 := B2.ahead ha_w160
              replace B37 := B37.ahead ha_w160
              replace B42 := B42.ahead ha_w160
              replace Y_ := Nat.le_trans Y_ ha_w160.size
              replace A := A.trans ha_w160
              replace X := X.trans (Ext.of_ahead ha_w160)
              replace X : Ext w160 w160 := Ext.refl _
              refine ⟨(Bar.of_ahead ha_w160), ?_⟩
              replace h := h _ X A
              refine Calls.mono h ?_
              clear h
              rintro e66 w162 ⟨s93, he_, ha_w162, h⟩
              refine ⟨s93, he_, ?_⟩
              clear he_
              replace B1 := B1.ahead ha_w162
              replace B2 := B2.ahead ha_w162
              replace B37 := B37.ahead ha_w162
              replace B42 := B42.ahead ha_w162
              replace Y_ := Nat.le_trans Y_ ha_w162.size
              replace A := A.trans ha_w162
              replace X := X.trans (Ext.of_ahead ha_w162)
              replace X : Ext w162 w162 := Ext.refl _
              refine ⟨(Bar.of_ahead ha_w162), ?_⟩
              replace h := h _ X A
              refine Calls.mono h ?_
              clear h
              rintro e67 w164 ⟨b77, s94, he_, ha_w164, h⟩
              refine ⟨b77, s94, he_, ?_⟩
              clear he_
              replace B1 := B1.ahead ha_w164
              replace B2 := B2.ahead ha_w164
              replace B37 := B37.ahead ha_w164
              replace B42 := B42.ahead ha_w164
              replace Y_ := Nat.le_trans Y_ ha_w164.size
              replace A := A.trans ha_w164
              replace X := X.trans (Ext.of_ahead ha_w164)
              replace X : Ext w164 w164 := Ext.refl _
              refine ⟨(Bar.of_ahead ha_w164), ?_⟩
              replace h := h _ X A
              refine Calls.mono h ?_
              clear h
              rintro e68 w166 ⟨b78, s95, b79, s96, he_, ha_w166, h⟩
              refine ⟨b78, s95, b79, s96, he_, ?_⟩
              clear he_
              replace B1 := B1.ahead ha_w166
              replace B2 := B2.ahead ha_w166
              replace B37 := B37.ahead ha_w166
              replace B42 := B42.ahead ha_w166
              replace Y_ := Nat.le_trans Y_ ha_w166.size
              replace A := A.trans ha_w166
              replace X := X.trans (Ext.of_ahead ha_w166)
              replace X : Ext w166 w166 := Ext.refl _
              refine stC_t 0 B42 rfl rfl rfl fun u223 k_u223 B42_ => ?_
              replace B42 : Blt u223 bk42 44 #[Value.bool b78, (⟨none, 0, 0⟩ : Slc).v] := B42_
              clear B42_
              refine stC_t 1 B42 rfl rfl rfl fun u224 k_u224 B42_ => ?_
              replace B42 : Blt u224 bk42 44 #[Value.bool b78, s95.v] := B42_
              clear B42_
              have kk_u223 := (k_u223.trans k_u224)
              replace B1 := kk_u223.blt B1 (by omega)
              replace B2 := kk_u223.blt B2 (by omega)
              replace B37 := kk_u223.blt B37 (by omega)
              replace A := kk_u223.ahead A g42
              replace X := X.trans kk_u223.ext
              replace Y_ := Nat.le_trans Y_ (Nat.le_of_eq kk_u223.size.symm)
              clear k_u224 k_u223
              refine stC_t 0 B37 rfl rfl rfl fun u225 k_u225 B37_ => ?_
              replace B37 : Blt u225 bk37 44 #[Value.bool b79, (⟨none, 0, 0⟩ : Slc).v] := B37_
              clear B37_
              refine stC_t 1 B37 rfl rfl rfl fun u226 k_u226 B37_ => ?_
              replace B37 : Blt u226 bk37 44 #[Value.bool b79, s96.v] := B37_
              clear B37_
              have kk_u225 := (k_u225.trans k_u226)
              replace B1 := kk_u225.blt B1 (by omega)
              replace B2 := kk_u225.blt B2 (by omega)
              replace B42 := kk_u225.blt B42 (by omega)
              replace A := kk_u225.ahead A g37
              replace X := X.trans kk_u225.ext
              replace Y_ := Nat.le_trans Y_ (Nat.le_of_eq kk_u225.size.symm)
              clear k_u226 k_u225
              refine ldB_t 0 B42 rfl ?_
              refine ldS_t 1 B42 rfl ?_
              refine stC_t 0 B2 rfl rfl rfl fun u227 k_u227 B2_ => ?_
              replace B2 : Blt u227 bk2 44 #[Value.bool b78, (⟨none, 0, 0⟩ : Slc).v] := B2_
              clear B2_
              refine stC_t 1 B2 rfl rfl rfl fun u228 k_u228 B2_ => ?_
              replace B2 : Blt u228 bk2 44 #[Value.bool b78, s95.v] := B2_
              clear B2_
              have kk_u227 := (k_u227.trans k_u228)
              replace B1 := kk_u227.blt B1 (by omega)
              replace B37 := kk_u227.blt B37 (by omega)
              replace B42 := kk_u227.blt B42 (by omega)
              replace A := kk_u227.ahead A g2
              replace X := X.trans kk_u227.ext
              clear k_u228 k_u227
              refine ldB_t 0 B2 rfl ?_
              refine ldS_t 1 B2 rfl ?_
              replace h := h _ X A
              exact ⟨A, h⟩

end Go.Proofs.YthhbjhdnaopcnaaDoor
namespace Go.Proofs.YthhbjhdnaopcnaaDoor
open Go Go.RowKit Eng Sp Dg L2
set_option linter.unusedVariables false
set_option linter.unusedSimpArgs false
set_option maxRecDepth 100000
namespace Dy
open _root_.Go.Proofs.YthhbjhdnaopcnaaDoor.Nat (OwnNil Num Num.bl OwnNil.mono OwnNil.ext OwnNil.rd OwnNil.ahead OwnNil.nil digs_len_bl num_of Yes Norm_spec len_num)
open _root_.Go.Proofs.YthhbjhdnaopcnaaDoor.Ref (RN RN.nil RN.ext RN.ahead Len_spec Shl_spec Int_spec Lent Lent.ahead Lent.ext Lent.whole len_mono bl_len32 len32 Bk)
open Sb

theorem bl_shl {x n : Nat} (h : x ≠ 0) : bl (x * 2 ^ n) = n + bl x := by
  have := bl_add_pow (t := 0) (k := n) h (Nat.pow_pos (by omega))
  rw [Nat.zero_add, Nat.mul_comm] at this
  exact this
theorem digs_len_bl32 {N m : Nat} (h : bl N ≤ 32 * m) : (digs B32 N).length ≤ m := digs_length_le two32 (by rw [b32_pow]; exact bl_le_iff.1 h)

/-- Where a number is cut to so many bits. -/
def cpos (n : Nat) (e bits : Int) : Int := if (bl n : Int) ≤ bits then e else e + bl n - bits
theorem rX_id {neg : Bool} {n : Nat} {e m : Int} : rX neg n e e m = n := if_pos (.inr (Int.le_refl _))
theorem rE_id {n : Nat} {e : Int} : rE n e e = e := if_pos (.inr (Int.le_refl _))
def ctC (neg : Bool) (x : Nat) (e bits m : Int) : Int := if wi e then if bits < 1 then 1 else if okM m then tC (rX (nD neg x) (od x) (eD x e) (cpos (od x) (eD x e) bits) m) (rE (od x) (eD x e) (cpos (od x) (eD x e) bits)) else 81 else 80
theorem Cut_spec {w : World} {neg : Bool} {s : Slc} {x : Nat} {e bits m : Int} (hT : Tab w) (h : Num w s x) (hl : (digs B64 x).length + 1 ≤ 2 ^ 44) :
    Calls pr dyadic_Cut_id #[.agg (c3 neg s e), .int .i64 bits, .int .i64 m] w (DOut w (ctC neg x e bits m) (nD neg x) (rX (nD neg x) (od x) (eD x e) (cpos (od x) (eD x e) bits) m) (rE (od x) (eD x e) (cpos (od x) (eD x e) bits))) := by
  refine Calls.mono (dyadic_Cut_v2 neg s e bits m w (fun en w' => Ahead w w' → DOut w (ctC neg x e bits m) (nD neg x) (rX (nD neg x) (od x) (eD x e) (cpos (od x) (eD x e) bits) m) (rE (od x) (eD x e) (cpos (od x) (eD x e) bits)) en w') ?_) fun en w' ⟨h1, h2⟩ => h2 h1
  intro w1 x1 a1
  refine Calls.mono (read_spec (hT.ahead a1) (h.ahead a1)) ?_
  rintro en w2 ⟨h2, s2, rfl, o2⟩
  have a2 := a1.trans h2
  have hbl := Num.bl h
  have hbo := bl_mono (od_le x)
  refine ⟨_, _, _, _, rfl, h2, br_intro (fun hw => ?_) (fun hw => br_intro (fun hb => ?_) (fun hb => ?_))⟩
  · have hw' : ¬ wi e := fun h => by rw [if_pos h] at hw; simp at hw
    rw [if_neg hw']
    exact fun w3 x3 a3 _ => DOut.refused a3 (if_neg hw') (by omega)
  · have hw' : wi e := by
      by_cases h : wi e
      · exact h
      · rw [if_neg h] at hw; simp at hw
    have hb' := of_decide_eq_true hb
    exact fun w3 x3 a3 _ => DOut.refused a3 (by rw [ctC, if_pos hw', if_pos hb']) (by omega)
  · have hw' : wi e := by
      by_cases h : wi e
      · exact h
      · rw [if_neg h] at hw; simp at hw
    have hb' := of_decide_eq_false hb
    rw [if_pos hw'] at o2
    rw [if_pos hw', if_pos hw']
    intro w5 x5 a5
    refine Calls.mono direction_spec ?_
    rintro en w6 ⟨rfl, rfl⟩
    refine ⟨_, rfl, Ahead.refl _, br_intro (fun hm => ?_) (fun hm => ?_)⟩
    · have hm' : ¬ okM m := fun hh => by unfold okM at hh; rw [decide_eq_true hh] at hm; simp at hm
      exact fun w3 x3 a3 _ => DOut.refused a3 (by rw [ctC, if_pos hw', if_neg hb', if_neg hm']) (by omega)
    · have hm' : okM m := by
        by_cases hh : okM m
        · exact hh
        · unfold okM at hh; rw [decide_eq_false hh] at hm; simp at hm
      have hc : ctC neg x e bits m = tC (rX (nD neg x) (od x) (eD x e) (cpos (od x) (eD x e) bits) m) (rE (od x) (eD x e) (cpos (od x) (eD x e) bits)) := by rw [ctC, if_pos hw', if_neg hb', if_pos hm']
      rw [hc]
      have o5 := o2.ext x5
      have lo : (digs B64 (od x)).length + 1 ≤ 2 ^ 44 := Nat.le_trans (Nat.add_le_add_right (len_mono two64 (od_le x)) 1) hl
      have n5 : Num w6 s2 (od x) := ⟨_, o5.rd, by omega, ok_digs two64 _, val_digs two64 _⟩
      have hef := eD_far h hw'
      refine Calls.mono (part_length_spec n5) ?_
      rintro en w8 ⟨h8, rfl⟩
      have a8 := a5.trans h8
      refine ⟨_, rfl, h8, br_intro (fun hg => ?_) (fun hg => ?_)⟩
      · have hg' : (bl (od x) : Int) ≤ bits := of_decide_eq_true hg
        rw [cpos, if_pos hg', rX_id, rE_id]
        refine Calls.mono (told_spec (hT.ahead a8) (n5.ahead h8) (by omega)) ?_
        rintro en w9 ⟨h9, s9, rfl, o9⟩
        exact ⟨_, _, _, _, rfl, h9, fun w3 x3 a3 _ => ⟨a3, s9, rfl, (o9.ext x3).mono a8.size⟩⟩
      · have hg' : ¬ (bl (od x) : Int) ≤ bits := fun h => of_decide_eq_false hg h
        rw [cpos, if_neg hg']
        intro w11 x11 a11
        refine Calls.mono (number_top_spec ((n5.ahead h8).ext x11) (by omega)) ?_
        rintro en w12 ⟨h12, rfl⟩
        have e1 : IntKind.i64.wrap (eD x e + bl (od x) - 1 - IntKind.i64.wrap (bits - 1)) = eD x e + bl (od x) - bits := by
          rw [wrap_i64 (x := bits - 1) (by omega) (by omega), wrap_i64 (by omega) (by omega)]; omega
        refine ⟨_, rfl, h12, ?_⟩
        rw [e1]
        refine Calls.mono (rounded_spec (hT.ahead (a11.trans h12)) (((o5.ahead h8).ext x11).ahead h12).rd lo (by omega) (by omega)) ?_
        rintro en w13 ⟨h13, s9, rfl, o9⟩
        exact ⟨_, _, _, _, rfl, h13, fun w3 x3 a3 _ => ⟨a3, s9, rfl, (o9.ext x3).mono (a11.trans h12).size⟩⟩

theorem zShift_spec {w : World} {s : Slc} {z n : Int} (r : RN w s z.natAbs) (hn : 0 ≤ n) (h1 : n ≤ 9223372036854775807) (hl : (digs B32 z.natAbs).length + n.toNat / 32 + 1 ≤ 2 ^ 45) :
    Calls pr surdref06_Shift_id #[.agg (c2 (zb z) s), .int .i64 n] w fun e w' => Ahead w w' ∧ ZRet (z * 2 ^ n.toNat) e w' := by
  refine surdref06_Shift_v2 (zb z) s n w _ (br_true (decide_eq_true hn) fun w1 x1 a1 => Calls.mono (Shl_spec (r.ahead a1) hn h1 hl) ?_)
  rintro e w2 ⟨h2, s1, rfl, r1⟩
  refine ⟨_, rfl, h2, Calls.mono (make1_spec r1) ?_⟩
  rintro e w3 ⟨h3, rfl, r3⟩
  have es : sg (zb z) (z.natAbs * 2 ^ n.toNat) = z * 2 ^ n.toNat := by
    have h1 := sg_zb z
    conv => rhs; rw [← h1]
    unfold sg
    split
    · rw [Int.neg_mul]; push_cast; rfl
    · push_cast; rfl
  refine ⟨_, _, rfl, h3, fun w4 x4 a4 => ⟨s1, ?_, ?_⟩⟩
  · rw [← es, zb_sg]
  · rw [← es, sg_abs]; exact r3.ext x4

end Dy
end Go.Proofs.YthhbjhdnaopcnaaDoor
namespace Go.Proofs.YthhbjhdnaopcnaaDoor
open Go Go.RowKit Eng L2
set_option linter.unusedVariables false
set_option maxHeartbeats 2000000
set_option maxRecDepth 100000

/-- surd/dyadic.compare: function 87, its local variables as values. -/
theorem dyadic_compare_v2 (a0_0 : Bool) (a0_1 : Slc) (a0_2 : Int) (a1_0 : Bool) (a1_1 : Slc) (a1_2 : Int) (w : World) (R : Ending → World → Prop)
    
    (h : ∀ w1, Ext w w1 → Ahead w w1 →
    (Calls Tryd.prog 71 #[Value.agg #[Value.bool a0_0, a0_1.v]] w1 fun e1 w2 =>
     ∃ x1 : Int, e1 = .returned (Value.int .i64 x1) ∧ Ahead w1 w2 ∧
     (Calls Tryd.prog 71 #[Value.agg #[Value.bool a1_0, a1_1.v]] w2 fun e2 w3 =>
      ∃ x2 : Int, e2 = .returned (Value.int .i64 x2) ∧ Ahead w2 w3 ∧
      (br (decide (x1 < x2))
       (R (.returned (Value.int .i64 (-1))) w3)
       (br (decide (x1 > x2))
        (R (.returned (Value.int .i64 1)) w3)
        (br (x1 == 0)
         (R (.returned (Value.int .i64 0)) w3)
         (∀ w4, Ext w3 w4 → Ahead w w4 →
          (Calls Tryd.prog 72 #[Value.agg #[Value.bool a0_0, a0_1.v, Value.int .i64 a0_2]] w4 fun e3 w5 =>
           ∃ x3 : Int, e3 = .returned (Value.int .i64 x3) ∧ Ahead w4 w5 ∧
           (Calls Tryd.prog 72 #[Value.agg #[Value.bool a1_0, a1_1.v, Value.int .i64 a1_2]] w5 fun e4 w6 =>
            ∃ x4 : Int, e4 = .returned (Value.int .i64 x4) ∧ Ahead w5 w6 ∧
            (br (x3 != x4)
             (∀ w7, Ext w6 w7 → Ahead w w7 →
              (Calls Tryd.prog 72 #[Value.agg #[Value.bool a0_0, a0_1.v, Value.int .i64 a0_2]] w7 fun e5 w8 =>
               ∃ x5 : Int, e5 = .returned (Value.int .i64 x5) ∧ Ahead w7 w8 ∧
               (Calls Tryd.prog 72 #[Value.agg #[Value.bool a1_0, a1_1.v, Value.int .i64 a1_2]] w8 fun e6 w9 =>
                ∃ x6 : Int, e6 = .returned (Value.int .i64 x6) ∧ Ahead w8 w9 ∧
                (br (decide (x5 < x6))
                 (R (.returned (Value.int .i64 (IntKind.i64.wrap (0 - x1)))) w9)
                 (R (.returned (Value.int .i64 x1)) w9)))))
             (br (decide (a0_2 > a1_2))
              (∀ w11, Ext w6 w11 → Ahead w w11 →
               (Calls Tryd.prog 107 #[a0_1.v, Value.int .i64 (IntKind.i64.wrap (a0_2 - a1_2))] w11 fun e7 w12 =>
                ∃ s1 : Slc, e7 = .returned s1.v ∧ Ahead w11 w12 ∧
                (Calls Tryd.prog 113 #[s1.v, a1_1.v] w12 fun e8 w13 =>
                 ∃ x7 : Int, e8 = .returned (Value.int .i64 x7) ∧ Ahead w12 w13 ∧
                 (R (.returned (Value.int .i64 (IntKind.i64.wrap (x1 * x7)))) w13))))
              (∀ w14, Ext w6 w14 → Ahead w w14 →
               (Calls Tryd.prog 107 #[a1_1.v, Value.int .i64 (IntKind.i64.wrap (a1_2 - a0_2))] w14 fun e9 w15 =>
                ∃ s2 : Slc, e9 = .returned s2.v ∧ Ahead w14 w15 ∧
                (Calls Tryd.prog 113 #[a0_1.v, s2.v] w15 fun e10 w16 =>
                 ∃ x8 : Int, e10 = .returned (Value.int .i64 x8) ∧ Ahead w15 w16 ∧
                 (R (.returned (Value.int .i64 (IntKind.i64.wrap (x1 * x8)))) w16)))))))))))))))
     :
    Calls Tryd.prog 87 #[Value.agg #[Value.bool a0_0, a0_1.v, Value.int .i64 a0_2], Value.agg #[Value.bool a1_0, a1_1.v, Value.int .i64 a1_2]] w (fun e_ w_ => Ahead w w_ ∧ R e_ w_) := by
  refine dyadic_compare_vc a0_0 a0_1 a0_2 a1_0 a1_1 a1_2 w _  ?_
  · have A : Ahead w w := Ahead.refl w
    have X : Ext w w := Ext.refl w
    refine newC_t fun bk1 u1 hb1 ha_u1 hs B1 => ?_
    have g1 : w.heap.size ≤ bk1 := by have := A.size; omega
    replace A := A.trans ha_u1
    replace X := X.trans (Ext.of_ahead ha_u1)
    clear hs hb1
    refine newC_t fun bk2 u2 hb2 ha_u2 hs B2 => ?_
    have g2 : w.heap.size ≤ bk2 := by have := A.size; omega
    have l1_2 : bk1 < bk2 := by have := B1.lt; omega
    replace B1 := B1.ahead ha_u2
    replace A := A.trans ha_u2
    replace X := X.trans (Ext.of_ahead ha_u2)
    clear hs hb2
    have hd_ := Sp.Ahead.drew u2
    replace B1 := B1.ahead hd_
    replace B2 := B2.ahead hd_
    replace A := A.trans hd_
    replace X := X.trans (Ext.of_ahead hd_)
    clear hd_
    refine ldB_t 0 B1 rfl ?_
    refine ldS_t 1 B1 rfl ?_
    refine ldB_t 0 B2 rfl ?_
    refine ldS_t 1 B2 rfl ?_
    replace h := h _ X A
    refine Calls.mono h ?_
    clear h
    rintro e1 w2 ⟨x1, he_, ha_w2, h⟩
    refine ⟨x1, he_, ?_⟩
    clear he_
    replace B1 := B1.ahead ha_w2
    replace B2 := B2.ahead ha_w2
    replace A := A.trans ha_w2
    replace X := X.trans (Ext.of_ahead ha_w2)
    replace X : Ext w2 w2 := Ext.refl _
    refine ⟨ha_w2, ?_⟩
    refine Calls.mono h ?_
    clear h
    rintro e2 w3 ⟨x2, he_, ha_w3, h⟩
    refine ⟨x2, he_, ?_⟩
    clear he_
    replace B1 := B1.ahead ha_w3
    replace B2 := B2.ahead ha_w3
    replace A := A.trans ha_w3
    replace X := X.trans (Ext.of_ahead ha_w3)
    replace X : Ext w3 w3 := Ext.refl _
    refine ⟨ha_w3, ?_⟩
    refine br_map h (fun h_ => ?_) (fun h_ => ?_)
    · skip
      clear h
      have h := h_
      clear h_
      exact ⟨A, h⟩
    · skip
      clear h
      have h := h_
      clear h_
      refine br_map h (fun h_ => ?_) (fun h_ => ?_)
      · skip
        clear h
        have h := h_
        clear h_
        exact ⟨A, h⟩
      · skip
        clear h
        have h := h_
        clear h_
        refine br_map h (fun h_ => ?_) (fun h_ => ?_)
        · skip
          clear h
          have h := h_
          clear h_
          exact ⟨A, h⟩
        · skip
          clear h
          have h := h_
          clear h_
          have hd_ := Sp.Ahead.drew w3
          replace B1 := B1.ahead hd_
          replace B2 := B2.ahead hd_
          replace A := A.trans hd_
          replace X := X.trans (Ext.of_ahead hd_)
          clear hd_
          refine ldB_t 0 B1 rfl ?_
          refine ldS_t 1 B1 rfl ?_
          refine ldI_t 2 B1 rfl ?_
          refine ldB_t 0 B2 rfl ?_
          refine ldS_t 1 B2 rfl ?_
          refine ldI_t 2 B2 rfl ?_
          replace h := h _ X A
          refine Calls.mono h ?_
          clear h
          rintro e3 w5 ⟨x3, he_, ha_w5, h⟩
          refine ⟨x3, he_, ?_⟩
          clear he_
          replace B1 := B1.ahead ha_w5
          replace B2 := B2.ahead ha_w5
          replace A := A.trans ha_w5
          replace X := X.trans (Ext.of_ahead ha_w5)
          replace X : Ext w5 w5 := Ext.refl _
          refine ⟨ha_w5, ?_⟩
          refine Calls.mono h ?_
          clear h
          rintro e4 w6 ⟨x4, he_, ha_w6, h⟩
          refine ⟨x4, he_, ?_⟩
          clear he_
          replace B1 := B1.ahead ha_w6
          replace B2 := B2.ahead ha_w6
          replace A := A.trans ha_w6
          replace X := X.trans (Ext.of_ahead ha_w6)
          replace X : Ext w6 w6 := Ext.refl _
          refine ⟨ha_w6, ?_⟩
          refine br_map h (fun h_ => ?_) (fun h_ => ?_)
          · skip
            clear h
            have h := h_
            clear h_
            have hd_ := Sp.Ahead.drew w6
            replace B1 := B1.ahead hd_
            replace B2 := B2.ahead hd_
            replace A := A.trans hd_
            replace X := X.trans (Ext.of_ahead hd_)
            clear hd_
            refine ldB_t 0 B1 rfl ?_
            refine ldS_t 1 B1 rfl ?_
            refine ldI_t 2 B1 rfl ?_
            refine ldB_t 0 B2 rfl ?_
            refine ldS_t 1 B2 rfl ?_
            refine ldI_t 2 B2 rfl ?_
            replace h := h _ X A
            refine Calls.mono h ?_
            clear h
            rintro e5 w8 ⟨x5, he_, ha_w8, h⟩
            refine ⟨x5, he_, ?_⟩
            clear he_
            replace B1 := B1.ahead ha_w8
            replace B2 := B2.ahead ha_w8
            replace A := A.trans ha_w8
            replace X := X.trans (Ext.of_ahead ha_w8)
            replace X : Ext w8 w8 := Ext.refl _
            refine ⟨ha_w8, ?_⟩
            refine Calls.mono h ?_
            clear h
            rintro e6 w9 ⟨x6, he_, ha_w9, h⟩
            refine ⟨x6, he_, ?_⟩
            clear he_
            replace B1 := B1.ahead ha_w9
            replace B2 := B2.ahead ha_w9
            replace A := A.trans ha_w9
            replace X := X.trans (Ext.of_ahead ha_w9)
            replace X : Ext w9 w9 := Ext.refl _
            refine ⟨ha_w9, ?_⟩
            refine br_map h (fun h_ => ?_) (fun h_ => ?_)
            · skip
              clear h
              have h := h_
              clear h_
              exact ⟨A, h⟩
            · skip
              clear h
              have h := h_
              clear h_
              exact ⟨A, h⟩
          · skip
            clear h
            have h := h_
            clear h_
            refine ldS_t 1 B1 rfl ?_
            refine ldS_t 1 B2 rfl ?_
            intro w10 ha_w10
            replace B1 := B1.ahead ha_w10
            replace B2 := B2.ahead ha_w10
            replace A := A.trans ha_w10
            replace X := X.trans (Ext.of_ahead ha_w10)
            clear ha_w10
            refine ldI_t 2 B1 rfl ?_
            refine ldI_t 2 B2 rfl ?_
            refine br_map h (fun h_ => ?_) (fun h_ => ?_)
            · skip
              clear h
              have h := h_
              clear h_
              refine ldI_t 2 B1 rfl ?_
              refine ldI_t 2 B2 rfl ?_
              replace h := h _ X A
              refine Calls.mono h ?_
              clear h
              rintro e7 w12 ⟨s1, he_, ha_w12, h⟩
              refine ⟨s1, he_, ?_⟩
              clear he_
              replace B1 := B1.ahead ha_w12
              replace B2 := B2.ahead ha_w12
              replace A := A.trans ha_w12
              replace X := X.trans (Ext.of_ahead ha_w12)
              replace X : Ext w12 w12 := Ext.refl _
              refine Calls.mono h ?_
              clear h
              rintro e8 w13 ⟨x7, he_, ha_w13, h⟩
              refine ⟨x7, he_, ?_⟩
              clear he_
              replace B1 := B1.ahead ha_w13
              replace B2 := B2.ahead ha_w13
              replace A := A.trans ha_w13
              replace X := X.trans (Ext.of_ahead ha_w13)
              replace X : Ext w13 w13 := Ext.refl _
              exact ⟨A, h⟩
            · skip
              clear h
              have h := h_
              clear h_
              refine ldI_t 2 B2 rfl ?_
              refine ldI_t 2 B1 rfl ?_
              replace h := h _ X A
              refine Calls.mono h ?_
              clear h
              rintro e9 w15 ⟨s2, he_, ha_w15, h⟩
              refine ⟨s2, he_, ?_⟩
              clear he_
              replace B1 := B1.ahead ha_w15
              replace B2 := B2.ahead ha_w15
              replace A := A.trans ha_w15
              replace X := X.trans (Ext.of_ahead ha_w15)
              replace X : Ext w15 w15 := Ext.refl _
              refine Calls.mono h ?_
              clear h
              rintro e10 w16 ⟨x8, he_, ha_w16, h⟩
              refine ⟨x8, he_, ?_⟩
              clear he_
              replace B1 := B1.ahead ha_w16
              replace B2 := B2.ahead ha_w16
              replace A := A.trans ha_w16
              replace X := X.trans (Ext.of_ahead ha_w16)
              replace X : Ext w16 w16 := Ext.refl _
              exact ⟨A, h⟩

/-- surd/dyadic.Compare: function 44, its local variables as values. -/
theorem dyadic_Compare_v2 (a0_a_0 : Bool) (a0_a_1 : Slc) (a0_a_2 : Int) (a1_b_0 : Bool) (a1_b_1 : Slc) (a1_b_2 : Int) (w : World) (R : Ending → World → Prop)
    
    (h : ∀ w1, Ext w w1 → Ahead w w1 →
    (Calls Tryd.prog 86 #[Value.agg #[Value.bool a0_a_0, a0_a_1.v, Value.int .i64 a0_a_2], Value.agg #[Value.bool a1_b_0, a1_b_1.v, Value.int .i64 a1_b_2]] w1 fun e1 w2 =>
     ∃ b1 : Bool, ∃ s1 : Slc, ∃ x1 : Int, ∃ b2 : Bool, ∃ s2 : Slc, ∃ x2 : Int, ∃ x3 : Int, e1 = .returned (Value.tuple #[Value.agg #[Value.bool b1, s1.v, Value.int .i64 x1], Value.agg #[Value.bool b2, s2.v, Value.int .i64 x2], Value.int .i64 x3]) ∧ Ahead w1 w2 ∧
     (br (x3 != 0)
      (∀ w3, Ext w2 w3 → Ahead w w3 →
       (R (.returned (Value.tuple #[Value.int .i64 0, Value.int .i64 x3])) w3))
      (∀ w4, Ext w2 w4 → Ahead w w4 →
       (Calls Tryd.prog 87 #[Value.agg #[Value.bool b1, s1.v, Value.int .i64 x1], Value.agg #[Value.bool b2, s2.v, Value.int .i64 x2]] w4 fun e2 w5 =>
        ∃ x4 : Int, e2 = .returned (Value.int .i64 x4) ∧ Ahead w4 w5 ∧
        (R (.returned (Value.tuple #[Value.int .i64 x4, Value.int .i64 0])) w5))))))
     :
    Calls Tryd.prog 44 #[Value.agg #[Value.bool a0_a_0, a0_a_1.v, Value.int .i64 a0_a_2], Value.agg #[Value.bool a1_b_0, a1_b_1.v, Value.int .i64 a1_b_2]] w (fun e_ w_ => Ahead w w_ ∧ R e_ w_) := by
  refine dyadic_Compare_vc a0_a_0 a0_a_1 a0_a_2 a1_b_0 a1_b_1 a1_b_2 w _  ?_
  · have A : Ahead w w := Ahead.refl w
    have X : Ext w w := Ext.refl w
    refine newC_t fun bk1 u1 hb1 ha_u1 hs B1 => ?_
    have g1 : w.heap.size ≤ bk1 := by have := A.size; omega
    replace A := A.trans ha_u1
    replace X := X.trans (Ext.of_ahead ha_u1)
    clear hs hb1
    refine newC_t fun bk2 u2 hb2 ha_u2 hs B2 => ?_
    have g2 : w.heap.size ≤ bk2 := by have := A.size; omega
    have l1_2 : bk1 < bk2 := by have := B1.lt; omega
    replace B1 := B1.ahead ha_u2
    replace A := A.trans ha_u2
    replace X := X.trans (Ext.of_ahead ha_u2)
    clear hs hb2
    refine ldB_t 0 B1 rfl ?_
    refine ldS_t 1 B1 rfl ?_
    refine ldI_t 2 B1 rfl ?_
    refine ldB_t 0 B2 rfl ?_
    refine ldS_t 1 B2 rfl ?_
    refine ldI_t 2 B2 rfl ?_
    replace h := h _ X A
    refine Calls.mono h ?_
    clear h
    rintro e1 w2 ⟨b1, s1, x1, b2, s2, x2, x3, he_, ha_w2, h⟩
    refine ⟨b1, s1, x1, b2, s2, x2, x3, he_, ?_⟩
    clear he_
    replace B1 := B1.ahead ha_w2
    replace B2 := B2.ahead ha_w2
    replace A := A.trans ha_w2
    replace X := X.trans (Ext.of_ahead ha_w2)
    replace X : Ext w2 w2 := Ext.refl _
    refine newC_t fun bk3 u3 hb3 ha_u3 hs B3 => ?_
    have g3 : w.heap.size ≤ bk3 := by have := A.size; omega
    have l1_3 : bk1 < bk3 := by have := B1.lt; omega
    have l2_3 : bk2 < bk3 := by have := B2.lt; omega
    replace B1 := B1.ahead ha_u3
    replace B2 := B2.ahead ha_u3
    replace A := A.trans ha_u3
    replace X := X.trans (Ext.of_ahead ha_u3)
    clear hs hb3
    refine newC_t fun bk4 u4 hb4 ha_u4 hs B4 => ?_
    have g4 : w.heap.size ≤ bk4 := by have := A.size; omega
    have l1_4 : bk1 < bk4 := by have := B1.lt; omega
    have l2_4 : bk2 < bk4 := by have := B2.lt; omega
    have l3_4 : bk3 < bk4 := by have := B3.lt; omega
    replace B1 := B1.ahead ha_u4
    replace B2 := B2.ahead ha_u4
    replace B3 := B3.ahead ha_u4
    replace A := A.trans ha_u4
    replace X := X.trans (Ext.of_ahead ha_u4)
    clear hs hb4
    refine stC_t 0 B3 rfl rfl rfl fun u5 k_u5 B3_ => ?_
    replace B3 : Blt u5 bk3 98 #[Value.bool b1, (⟨none, 0, 0⟩ : Slc).v, Value.int .i64 0] := B3_
    clear B3_
    refine stC_t 1 B3 rfl rfl rfl fun u6 k_u6 B3_ => ?_
    replace B3 : Blt u6 bk3 98 #[Value.bool b1, s1.v, Value.int .i64 0] := B3_
    clear B3_
    refine stC_t 2 B3 rfl rfl rfl fun u7 k_u7 B3_ => ?_
    replace B3 : Blt u7 bk3 98 #[Value.bool b1, s1.v, Value.int .i64 x1] := B3_
    clear B3_
    have kk_u5 := ((k_u5.trans k_u6).trans k_u7)
    replace B1 := kk_u5.blt B1 (by omega)
    replace B2 := kk_u5.blt B2 (by omega)
    replace B4 := kk_u5.blt B4 (by omega)
    replace A := kk_u5.ahead A g3
    replace X := X.trans kk_u5.ext
    clear k_u7 k_u6 k_u5
    refine stC_t 0 B4 rfl rfl rfl fun u8 k_u8 B4_ => ?_
    replace B4 : Blt u8 bk4 98 #[Value.bool b2, (⟨none, 0, 0⟩ : Slc).v, Value.int .i64 0] := B4_
    clear B4_
    refine stC_t 1 B4 rfl rfl rfl fun u9 k_u9 B4_ => ?_
    replace B4 : Blt u9 bk4 98 #[Value.bool b2, s2.v, Value.int .i64 0] := B4_
    clear B4_
    refine stC_t 2 B4 rfl rfl rfl fun u10 k_u10 B4_ => ?_
    replace B4 : Blt u10 bk4 98 #[Value.bool b2, s2.v, Value.int .i64 x2] := B4_
    clear B4_
    have kk_u8 := ((k_u8.trans k_u9).trans k_u10)
    replace B1 := kk_u8.blt B1 (by omega)
    replace B2 := kk_u8.blt B2 (by omega)
    replace B3 := kk_u8.blt B3 (by omega)
    replace A := kk_u8.ahead A g4
    replace X := X.trans kk_u8.ext
    clear k_u10 k_u9 k_u8
    refine br_map h (fun h_ => ?_) (fun h_ => ?_)
    · skip
      clear h
      have h := h_
      clear h_
      replace h := h _ X A
      exact ⟨A, h⟩
    · skip
      clear h
      have h := h_
      clear h_
      refine ldB_t 0 B3 rfl ?_
      refine ldS_t 1 B3 rfl ?_
      refine ldI_t 2 B3 rfl ?_
      refine ldB_t 0 B4 rfl ?_
      refine ldS_t 1 B4 rfl ?_
      refine ldI_t 2 B4 rfl ?_
      replace h := h _ X A
      refine Calls.mono h ?_
      clear h
      rintro e2 w5 ⟨x4, he_, ha_w5, h⟩
      refine ⟨x4, he_, ?_⟩
      clear he_
      replace B1 := B1.ahead ha_w5
      replace B2 := B2.ahead ha_w5
      replace B3 := B3.ahead ha_w5
      replace B4 := B4.ahead ha_w5
      replace A := A.trans ha_w5
      replace X := X.trans (Ext.of_ahead ha_w5)
      replace X : Ext w5 w5 := Ext.refl _
      exact ⟨A, h⟩

/-- surd/surdref06.Cmp: function 90, its local variables as values. -/
theorem surdref06_Cmp_v2 (a0_a_0 : Bool) (a0_a_1 : Slc) (a1_b_0 : Bool) (a1_b_1 : Slc) (w : World) (R : Ending → World → Prop)
    
    (h : br (!(a0_a_0 == a1_b_0))
    (br a0_a_0
     (∀ w1, Ext w w1 → Ahead w w1 →
      (R (.returned (Value.int .i64 (-1))) w1))
     (∀ w2, Ext w w2 → Ahead w w2 →
      (R (.returned (Value.int .i64 1)) w2)))
    (∀ w3, Ext w w3 → Ahead w w3 →
     (Calls Tryd.prog 106 #[a0_a_1.v, a1_b_1.v] w3 fun e1 w4 =>
      ∃ x1 : Int, e1 = .returned (Value.int .i64 x1) ∧ Ahead w3 w4 ∧
      (br a0_a_0
       (R (.returned (Value.int .i64 (IntKind.i64.wrap (0 - x1)))) w4)
       (R (.returned (Value.int .i64 x1)) w4)))))
     :
    Calls Tryd.prog 90 #[Value.agg #[Value.bool a0_a_0, a0_a_1.v], Value.agg #[Value.bool a1_b_0, a1_b_1.v]] w (fun e_ w_ => Ahead w w_ ∧ R e_ w_) := by
  refine surdref06_Cmp_vc a0_a_0 a0_a_1 a1_b_0 a1_b_1 w _  ?_
  · have A : Ahead w w := Ahead.refl w
    have X : Ext w w := Ext.refl w
    refine newC_t fun bk1 u1 hb1 ha_u1 hs B1 => ?_
    have g1 : w.heap.size ≤ bk1 := by have := A.size; omega
    replace A := A.trans ha_u1
    replace X := X.trans (Ext.of_ahead ha_u1)
    clear hs hb1
    refine newC_t fun bk2 u2 hb2 ha_u2 hs B2 => ?_
    have g2 : w.heap.size ≤ bk2 := by have := A.size; omega
    have l1_2 : bk1 < bk2 := by have := B1.lt; omega
    replace B1 := B1.ahead ha_u2
    replace A := A.trans ha_u2
    replace X := X.trans (Ext.of_ahead ha_u2)
    clear hs hb2
    refine ldB_t 0 B1 rfl ?_
    refine ldB_t 0 B2 rfl ?_
    refine br_map h (fun h_ => ?_) (fun h_ => ?_)
    · skip
      clear h
      have h := h_
      clear h_
      refine ldB_t 0 B1 rfl ?_
      refine br_map h (fun h_ => ?_) (fun h_ => ?_)
      · skip
        clear h
        have h := h_
        clear h_
        replace h := h _ X A
        exact ⟨A, h⟩
      · skip
        clear h
        have h := h_
        clear h_
        replace h := h _ X A
        exact ⟨A, h⟩
    · skip
      clear h
      have h := h_
      clear h_
      refine ldS_t 1 B1 rfl ?_
      refine ldS_t 1 B2 rfl ?_
      replace h := h _ X A
      refine Calls.mono h ?_
      clear h
      rintro e1 w4 ⟨x1, he_, ha_w4, h⟩
      refine ⟨x1, he_, ?_⟩
      clear he_
      replace B1 := B1.ahead ha_w4
      replace B2 := B2.ahead ha_w4
      replace A := A.trans ha_w4
      replace X := X.trans (Ext.of_ahead ha_w4)
      replace X : Ext w4 w4 := Ext.refl _
      refine ldB_t 0 B1 rfl ?_
      refine br_map h (fun h_ => ?_) (fun h_ => ?_)
      · skip
        clear h
        have h := h_
        clear h_
        exact ⟨A, h⟩
      · skip
        clear h
        have h := h_
        clear h_
        exact ⟨A, h⟩

/-- surd/surdref08.Cmp: function 48, its local variables as values. -/
theorem surdref08_Cmp_v2 (a0_a_0 : Bool) (a0_a_1 : Slc) (a0_a_2 : Int) (a1_b_0 : Bool) (a1_b_1 : Slc) (a1_b_2 : Int) (w : World) (R : Ending → World → Prop)
    
    (h : ∀ w1, Ext w w1 → Ahead w w1 →
    (Calls Tryd.prog 28 #[Value.agg #[Value.bool a0_a_0, a0_a_1.v]] w1 fun e1 w2 =>
     ∃ x1 : Int, e1 = .returned (Value.int .i64 x1) ∧ Ahead w1 w2 ∧
     (Calls Tryd.prog 28 #[Value.agg #[Value.bool a1_b_0, a1_b_1.v]] w2 fun e2 w3 =>
      ∃ x2 : Int, e2 = .returned (Value.int .i64 x2) ∧ Ahead w2 w3 ∧
      (br (x1 != x2)
       (br (decide (x1 < x2))
        (R (.returned (Value.int .i64 (-1))) w3)
        (R (.returned (Value.int .i64 1)) w3))
       (br (x1 == 0)
        (R (.returned (Value.int .i64 0)) w3)
        (∀ w4, Ext w3 w4 → Ahead w w4 →
         (Calls Tryd.prog 33 #[Value.agg #[Value.bool a0_a_0, a0_a_1.v, Value.int .i64 a0_a_2]] w4 fun e3 w5 =>
          ∃ x3 : Int, e3 = .returned (Value.int .i64 x3) ∧ Ahead w4 w5 ∧
          (Calls Tryd.prog 33 #[Value.agg #[Value.bool a1_b_0, a1_b_1.v, Value.int .i64 a1_b_2]] w5 fun e4 w6 =>
           ∃ x4 : Int, e4 = .returned (Value.int .i64 x4) ∧ Ahead w5 w6 ∧
           (br (x3 != x4)
            (∀ w7, Ext w6 w7 → Ahead w w7 →
             (Calls Tryd.prog 33 #[Value.agg #[Value.bool a0_a_0, a0_a_1.v, Value.int .i64 a0_a_2]] w7 fun e5 w8 =>
              ∃ x5 : Int, e5 = .returned (Value.int .i64 x5) ∧ Ahead w7 w8 ∧
              (Calls Tryd.prog 33 #[Value.agg #[Value.bool a1_b_0, a1_b_1.v, Value.int .i64 a1_b_2]] w8 fun e6 w9 =>
               ∃ x6 : Int, e6 = .returned (Value.int .i64 x6) ∧ Ahead w8 w9 ∧
               (br (decide (x5 < x6))
                (R (.returned (Value.int .i64 (IntKind.i64.wrap (0 - x1)))) w9)
                (R (.returned (Value.int .i64 x1)) w9)))))
            (br (decide (a0_a_2 ≤ a1_b_2))
             (∀ w10, Ext w6 w10 → Ahead w w10 →
              (Calls Tryd.prog 53 #[Value.agg #[Value.bool a1_b_0, a1_b_1.v], Value.int .i64 (IntKind.i64.wrap (a1_b_2 - a0_a_2))] w10 fun e7 w11 =>
               ∃ b1 : Bool, ∃ s1 : Slc, e7 = .returned (Value.agg #[Value.bool b1, s1.v]) ∧ Ahead w10 w11 ∧
               (Calls Tryd.prog 90 #[Value.agg #[Value.bool a0_a_0, a0_a_1.v], Value.agg #[Value.bool b1, s1.v]] w11 fun e8 w12 =>
                ∃ x7 : Int, e8 = .returned (Value.int .i64 x7) ∧ Ahead w11 w12 ∧
                (R (.returned (Value.int .i64 x7)) w12))))
             (∀ w13, Ext w6 w13 → Ahead w w13 →
              (Calls Tryd.prog 53 #[Value.agg #[Value.bool a0_a_0, a0_a_1.v], Value.int .i64 (IntKind.i64.wrap (a0_a_2 - a1_b_2))] w13 fun e9 w14 =>
               ∃ b2 : Bool, ∃ s2 : Slc, e9 = .returned (Value.agg #[Value.bool b2, s2.v]) ∧ Ahead w13 w14 ∧
               (Calls Tryd.prog 90 #[Value.agg #[Value.bool b2, s2.v], Value.agg #[Value.bool a1_b_0, a1_b_1.v]] w14 fun e10 w15 =>
                ∃ x8 : Int, e10 = .returned (Value.int .i64 x8) ∧ Ahead w14 w15 ∧
                (R (.returned (Value.int .i64 x8)) w15))))))))))))))
     :
    Calls Tryd.prog 48 #[Value.agg #[Value.bool a0_a_0, a0_a_1.v, Value.int .i64 a0_a_2], Value.agg #[Value.bool a1_b_0, a1_b_1.v, Value.int .i64 a1_b_2]] w (fun e_ w_ => Ahead w w_ ∧ R e_ w_) := by
  refine surdref08_Cmp_vc a0_a_0 a0_a_1 a0_a_2 a1_b_0 a1_b_1 a1_b_2 w _  ?_
  · have A : Ahead w w := Ahead.refl w
    have X : Ext w w := Ext.refl w
    refine newC_t fun bk1 u1 hb1 ha_u1 hs B1 => ?_
    have g1 : w.heap.size ≤ bk1 := by have := A.size; omega
    replace A := A.trans ha_u1
    replace X := X.trans (Ext.of_ahead ha_u1)
    clear hs hb1
    refine newC_t fun bk2 u2 hb2 ha_u2 hs B2 => ?_
    have g2 : w.heap.size ≤ bk2 := by have := A.size; omega
    have l1_2 : bk1 < bk2 := by have := B1.lt; omega
    replace B1 := B1.ahead ha_u2
    replace A := A.trans ha_u2
    replace X := X.trans (Ext.of_ahead ha_u2)
    clear hs hb2
    have hd_ := Sp.Ahead.drew u2
    replace B1 := B1.ahead hd_
    replace B2 := B2.ahead hd_
    replace A := A.trans hd_
    replace X := X.trans (Ext.of_ahead hd_)
    clear hd_
    refine ldB_t 0 B1 rfl ?_
    refine ldS_t 1 B1 rfl ?_
    refine ldB_t 0 B2 rfl ?_
    refine ldS_t 1 B2 rfl ?_
    replace h := h _ X A
    refine Calls.mono h ?_
    clear h
    rintro e1 w2 ⟨x1, he_, ha_w2, h⟩
    refine ⟨x1, he_, ?_⟩
    clear he_
    replace B1 := B1.ahead ha_w2
    replace B2 := B2.ahead ha_w2
    replace A := A.trans ha_w2
    replace X := X.trans (Ext.of_ahead ha_w2)
    replace X : Ext w2 w2 := Ext.refl _
    refine ⟨ha_w2, ?_⟩
    refine Calls.mono h ?_
    clear h
    rintro e2 w3 ⟨x2, he_, ha_w3, h⟩
    refine ⟨x2, he_, ?_⟩
    clear he_
    replace B1 := B1.ahead ha_w3
    replace B2 := B2.ahead ha_w3
    replace A := A.trans ha_w3
    replace X := X.trans (Ext.of_ahead ha_w3)
    replace X : Ext w3 w3 := Ext.refl _
    refine ⟨ha_w3, ?_⟩
    refine br_map h (fun h_ => ?_) (fun h_ => ?_)
    · skip
      clear h
      have h := h_
      clear h_
      refine br_map h (fun h_ => ?_) (fun h_ => ?_)
      · skip
        clear h
        have h := h_
        clear h_
        exact ⟨A, h⟩
      · skip
        clear h
        have h := h_
        clear h_
        exact ⟨A, h⟩
    · skip
      clear h
      have h := h_
      clear h_
      refine br_map h (fun h_ => ?_) (fun h_ => ?_)
      · skip
        clear h
        have h := h_
        clear h_
        exact ⟨A, h⟩
      · skip
        clear h
        have h := h_
        clear h_
        have hd_ := Sp.Ahead.drew w3
        replace B1 := B1.ahead hd_
        replace B2 := B2.ahead hd_
        replace A := A.trans hd_
        replace X := X.trans (Ext.of_ahead hd_)
        clear hd_
        refine ldB_t 0 B1 rfl ?_
        refine ldS_t 1 B1 rfl ?_
        refine ldI_t 2 B1 rfl ?_
        refine ldB_t 0 B2 rfl ?_
        refine ldS_t 1 B2 rfl ?_
        refine ldI_t 2 B2 rfl ?_
        replace h := h _ X A
        refine Calls.mono h ?_
        clear h
        rintro e3 w5 ⟨x3, he_, ha_w5, h⟩
        refine ⟨x3, he_, ?_⟩
        clear he_
        replace B1 := B1.ahead ha_w5
        replace B2 := B2.ahead ha_w5
        replace A := A.trans ha_w5
        replace X := X.trans (Ext.of_ahead ha_w5)
        replace X : Ext w5 w5 := Ext.refl _
        refine ⟨ha_w5, ?_⟩
        refine Calls.mono h ?_
        clear h
        rintro e4 w6 ⟨x4, he_, ha_w6, h⟩
        refine ⟨x4, he_, ?_⟩
        clear he_
        replace B1 := B1.ahead ha_w6
        replace B2 := B2.ahead ha_w6
        replace A := A.trans ha_w6
        replace X := X.trans (Ext.of_ahead ha_w6)
        replace X : Ext w6 w6 := Ext.refl _
        refine ⟨ha_w6, ?_⟩
        refine br_map h (fun h_ => ?_) (fun h_ => ?_)
        · skip
          clear h
          have h := h_
          clear h_
          have hd_ := Sp.Ahead.drew w6
          replace B1 := B1.ahead hd_
          replace B2 := B2.ahead hd_
          replace A := A.trans hd_
          replace X := X.trans (Ext.of_ahead hd_)
          clear hd_
          refine ldB_t 0 B1 rfl ?_
          refine ldS_t 1 B1 rfl ?_
          refine ldI_t 2 B1 rfl ?_
          refine ldB_t 0 B2 rfl ?_
          refine ldS_t 1 B2 rfl ?_
          refine ldI_t 2 B2 rfl ?_
          replace h := h _ X A
          refine Calls.mono h ?_
          clear h
          rintro e5 w8 ⟨x5, he_, ha_w8, h⟩
          refine ⟨x5, he_, ?_⟩
          clear he_
          replace B1 := B1.ahead ha_w8
          replace B2 := B2.ahead ha_w8
          replace A := A.trans ha_w8
          replace X := X.trans (Ext.of_ahead ha_w8)
          replace X : Ext w8 w8 := Ext.refl _
          refine ⟨ha_w8, ?_⟩
          refine Calls.mono h ?_
          clear h
          rintro e6 w9 ⟨x6, he_, ha_w9, h⟩
          refine ⟨x6, he_, ?_⟩
          clear he_
          replace B1 := B1.ahead ha_w9
          replace B2 := B2.ahead ha_w9
          replace A := A.trans ha_w9
          replace X := X.trans (Ext.of_ahead ha_w9)
          replace X : Ext w9 w9 := Ext.refl _
          refine ⟨ha_w9, ?_⟩
          refine br_map h (fun h_ => ?_) (fun h_ => ?_)
          · skip
            clear h
            have h := h_
            clear h_
            exact ⟨A, h⟩
          · skip
            clear h
            have h := h_
            clear h_
            exact ⟨A, h⟩
        · skip
          clear h
          have h := h_
          clear h_
          refine ldI_t 2 B1 rfl ?_
          refine ldI_t 2 B2 rfl ?_
          refine br_map h (fun h_ => ?_) (fun h_ => ?_)
          · skip
            clear h
            have h := h_
            clear h_
            have hd_ := Sp.Ahead.drew w6
            replace B1 := B1.ahead hd_
            replace B2 := B2.ahead hd_
            replace A := A.trans hd_
            replace X := X.trans (Ext.of_ahead hd_)
            clear hd_
            refine ldB_t 0 B1 rfl ?_
            refine ldS_t 1 B1 rfl ?_
            refine ldB_t 0 B2 rfl ?_
            refine ldS_t 1 B2 rfl ?_
            refine ldI_t 2 B2 rfl ?_
            refine ldI_t 2 B1 rfl ?_
            replace h := h _ X A
            refine Calls.mono h ?_
            clear h
            rintro e7 w11 ⟨b1, s1, he_, ha_w11, h⟩
            refine ⟨b1, s1, he_, ?_⟩
            clear he_
            replace B1 := B1.ahead ha_w11
            replace B2 := B2.ahead ha_w11
            replace A := A.trans ha_w11
            replace X := X.trans (Ext.of_ahead ha_w11)
            replace X : Ext w11 w11 := Ext.refl _
            refine ⟨ha_w11, ?_⟩
            refine Calls.mono h ?_
            clear h
            rintro e8 w12 ⟨x7, he_, ha_w12, h⟩
            refine ⟨x7, he_, ?_⟩
            clear he_
            replace B1 := B1.ahead ha_w12
            replace B2 := B2.ahead ha_w12
            replace A := A.trans ha_w12
            replace X := X.trans (Ext.of_ahead ha_w12)
            replace X : Ext w12 w12 := Ext.refl _
            refine ⟨ha_w12, ?_⟩
            exact ⟨A, h⟩
          · skip
            clear h
            have h := h_
            clear h_
            have hd_ := Sp.Ahead.drew w6
            replace B1 := B1.ahead hd_
            replace B2 := B2.ahead hd_
            replace A := A.trans hd_
            replace X := X.trans (Ext.of_ahead hd_)
            clear hd_
            refine ldB_t 0 B1 rfl ?_
            refine ldS_t 1 B1 rfl ?_
            refine ldI_t 2 B1 rfl ?_
            refine ldI_t 2 B2 rfl ?_
            refine ldB_t 0 B2 rfl ?_
            refine ldS_t 1 B2 rfl ?_
            replace h := h _ X A
            refine Calls.mono h ?_
            clear h
            rintro e9 w14 ⟨b2, s2, he_, ha_w14, h⟩
            refine ⟨b2, s2, he_, ?_⟩
            clear he_
            replace B1 := B1.ahead ha_w14
            replace B2 := B2.ahead ha_w14
            replace A := A.trans ha_w14
            replace X := X.trans (Ext.of_ahead ha_w14)
            replace X : Ext w14 w14 := Ext.refl _
            refine ⟨ha_w14, ?_⟩
            refine Calls.mono h ?_
            clear h
            rintro e10 w15 ⟨x8, he_, ha_w15, h⟩
            refine ⟨x8, he_, ?_⟩
            clear he_
            replace B1 := B1.ahead ha_w15
            replace B2 := B2.ahead ha_w15
            replace A := A.trans ha_w15
            replace X := X.trans (Ext.of_ahead ha_w15)
            replace X : Ext w15 w15 := Ext.refl _
            refine ⟨ha_w15, ?_⟩
            exact ⟨A, h⟩

/-- surd/surdref08.Add: function 49, its local variables as values. -/
theorem surdref08_Add_v2 (a0_a_0 : Bool) (a0_a_1 : Slc) (a0_a_2 : Int) (a1_b_0 : Bool) (a1_b_1 : Slc) (a1_b_2 : Int) (w : World) (R : Ending → World → Prop)
    
    (h : ∀ w1, Ext w w1 → Ahead w w1 →
    (Calls Tryd.prog 28 #[Value.agg #[Value.bool a0_a_0, a0_a_1.v]] w1 fun e1 w2 =>
     ∃ x1 : Int, e1 = .returned (Value.int .i64 x1) ∧ Ahead w1 w2 ∧
     (br (x1 == 0)
      (∀ w3, Ext w2 w3 → Ahead w w3 →
       (R (.returned (Value.tuple #[Value.agg #[Value.bool a1_b_0, a1_b_1.v, Value.int .i64 a1_b_2], Value.bool true])) w3))
      (Calls Tryd.prog 28 #[Value.agg #[Value.bool a1_b_0, a1_b_1.v]] w2 fun e2 w4 =>
       ∃ x2 : Int, e2 = .returned (Value.int .i64 x2) ∧ Ahead w2 w4 ∧
       (br (x2 == 0)
        (∀ w5, Ext w4 w5 → Ahead w w5 →
         (R (.returned (Value.tuple #[Value.agg #[Value.bool a0_a_0, a0_a_1.v, Value.int .i64 a0_a_2], Value.bool true])) w5))
        (br (decide (a0_a_2 < a1_b_2))
         (∀ w6, Ext w4 w6 → Ahead w w6 →
          (Calls Tryd.prog 34 #[a0_a_1.v] w6 fun e3 w7 =>
           ∃ x3 : Int, e3 = .returned (Value.int .i64 x3) ∧ Ahead w6 w7 ∧
           (br (decide ((IntKind.i64.wrap (a1_b_2 - a0_a_2)) > (IntKind.i64.wrap ((IntKind.i64.wrap (67108864 + x3)) + 2))))
            (∀ w8, Ext w7 w8 → Ahead w w8 →
             (R (.returned (Value.tuple #[Value.agg #[Value.bool (false), ((⟨none, 0, 0⟩ : Slc)).v, Value.int .i64 (0 : Int)], Value.bool false])) w8))
            (∀ w9, Ext w7 w9 → Ahead w w9 →
             (Calls Tryd.prog 53 #[Value.agg #[Value.bool a1_b_0, a1_b_1.v], Value.int .i64 (IntKind.i64.wrap (a1_b_2 - a0_a_2))] w9 fun e4 w10 =>
              ∃ b1 : Bool, ∃ s1 : Slc, e4 = .returned (Value.agg #[Value.bool b1, s1.v]) ∧ Ahead w9 w10 ∧
              (Calls Tryd.prog 91 #[Value.agg #[Value.bool b1, s1.v], Value.agg #[Value.bool a0_a_0, a0_a_1.v]] w10 fun e5 w11 =>
               ∃ b2 : Bool, ∃ s2 : Slc, e5 = .returned (Value.agg #[Value.bool b2, s2.v]) ∧ Ahead w10 w11 ∧
               (Calls Tryd.prog 22 #[Value.agg #[Value.bool b2, s2.v], Value.int .i64 a0_a_2] w11 fun e6 w12 =>
                ∃ b3 : Bool, ∃ s3 : Slc, ∃ x4 : Int, e6 = .returned (Value.agg #[Value.bool b3, s3.v, Value.int .i64 x4]) ∧ Ahead w11 w12 ∧
                (∀ w13, Ext w12 w13 → Ahead w w13 →
                 (R (.returned (Value.tuple #[Value.agg #[Value.bool b3, s3.v, Value.int .i64 x4], Value.bool true])) w13)))))))))
         (Calls Tryd.prog 34 #[a1_b_1.v] w4 fun e7 w14 =>
          ∃ x5 : Int, e7 = .returned (Value.int .i64 x5) ∧ Ahead w4 w14 ∧
          (br (decide ((IntKind.i64.wrap (a0_a_2 - a1_b_2)) > (IntKind.i64.wrap ((IntKind.i64.wrap (67108864 + x5)) + 2))))
           (∀ w15, Ext w14 w15 → Ahead w w15 →
            (R (.returned (Value.tuple #[Value.agg #[Value.bool (false), ((⟨none, 0, 0⟩ : Slc)).v, Value.int .i64 (0 : Int)], Value.bool false])) w15))
           (∀ w16, Ext w14 w16 → Ahead w w16 →
            (Calls Tryd.prog 53 #[Value.agg #[Value.bool a0_a_0, a0_a_1.v], Value.int .i64 (IntKind.i64.wrap (a0_a_2 - a1_b_2))] w16 fun e8 w17 =>
             ∃ b4 : Bool, ∃ s4 : Slc, e8 = .returned (Value.agg #[Value.bool b4, s4.v]) ∧ Ahead w16 w17 ∧
             (Calls Tryd.prog 91 #[Value.agg #[Value.bool b4, s4.v], Value.agg #[Value.bool a1_b_0, a1_b_1.v]] w17 fun e9 w18 =>
              ∃ b5 : Bool, ∃ s5 : Slc, e9 = .returned (Value.agg #[Value.bool b5, s5.v]) ∧ Ahead w17 w18 ∧
              (Calls Tryd.prog 22 #[Value.agg #[Value.bool b5, s5.v], Value.int .i64 a1_b_2] w18 fun e10 w19 =>
               ∃ b6 : Bool, ∃ s6 : Slc, ∃ x6 : Int, e10 = .returned (Value.agg #[Value.bool b6, s6.v, Value.int .i64 x6]) ∧ Ahead w18 w19 ∧
               (∀ w20, Ext w19 w20 → Ahead w w20 →
                (R (.returned (Value.tuple #[Value.agg #[Value.bool b6, s6.v, Value.int .i64 x6], Value.bool true])) w20))))))))))))))
     :
    Calls Tryd.prog 49 #[Value.agg #[Value.bool a0_a_0, a0_a_1.v, Value.int .i64 a0_a_2], Value.agg #[Value.bool a1_b_0, a1_b_1.v, Value.int .i64 a1_b_2]] w (fun e_ w_ => Ahead w w_ ∧ R e_ w_) := by
  refine surdref08_Add_vc a0_a_0 a0_a_1 a0_a_2 a1_b_0 a1_b_1 a1_b_2 w _  ?_
  · have A : Ahead w w := Ahead.refl w
    have X : Ext w w := Ext.refl w
    refine newC_t fun bk1 u1 hb1 ha_u1 hs B1 => ?_
    have g1 : w.heap.size ≤ bk1 := by have := A.size; omega
    replace A := A.trans ha_u1
    replace X := X.trans (Ext.of_ahead ha_u1)
    clear hs hb1
    refine newC_t fun bk2 u2 hb2 ha_u2 hs B2 => ?_
    have g2 : w.heap.size ≤ bk2 := by have := A.size; omega
    have l1_2 : bk1 < bk2 := by have := B1.lt; omega
    replace B1 := B1.ahead ha_u2
    replace A := A.trans ha_u2
    replace X := X.trans (Ext.of_ahead ha_u2)
    clear hs hb2
    refine newC_t fun bk3 u3 hb3 ha_u3 hs B3 => ?_
    have g3 : w.heap.size ≤ bk3 := by have := A.size; omega
    have l1_3 : bk1 < bk3 := by have := B1.lt; omega
    have l2_3 : bk2 < bk3 := by have := B2.lt; omega
    replace B1 := B1.ahead ha_u3
    replace B2 := B2.ahead ha_u3
    replace A := A.trans ha_u3
    replace X := X.trans (Ext.of_ahead ha_u3)
    clear hs hb3
    refine ldB_t 0 B1 rfl ?_
    refine ldS_t 1 B1 rfl ?_
    replace h := h _ X A
    refine Calls.mono h ?_
    clear h
    rintro e1 w2 ⟨x1, he_, ha_w2, h⟩
    refine ⟨x1, he_, ?_⟩
    clear he_
    replace B1 := B1.ahead ha_w2
    replace B2 := B2.ahead ha_w2
    replace B3 := B3.ahead ha_w2
    replace A := A.trans ha_w2
    replace X := X.trans (Ext.of_ahead ha_w2)
    replace X : Ext w2 w2 := Ext.refl _
    refine br_map h (fun h_ => ?_) (fun h_ => ?_)
    · skip
      clear h
      have h := h_
      clear h_
      refine ldB_t 0 B2 rfl ?_
      refine ldS_t 1 B2 rfl ?_
      refine ldI_t 2 B2 rfl ?_
      refine stC_t 0 B3 rfl rfl rfl fun u4 k_u4 B3_ => ?_
      replace B3 : Blt u4 bk3 47 #[Value.bool a1_b_0, (⟨none, 0, 0⟩ : Slc).v, Value.int .i64 0] := B3_
      clear B3_
      refine stC_t 1 B3 rfl rfl rfl fun u5 k_u5 B3_ => ?_
      replace B3 : Blt u5 bk3 47 #[Value.bool a1_b_0, a1_b_1.v, Value.int .i64 0] := B3_
      clear B3_
      refine stC_t 2 B3 rfl rfl rfl fun u6 k_u6 B3_ => ?_
      replace B3 : Blt u6 bk3 47 #[Value.bool a1_b_0, a1_b_1.v, Value.int .i64 a1_b_2] := B3_
      clear B3_
      have kk_u4 := ((k_u4.trans k_u5).trans k_u6)
      replace B1 := kk_u4.blt B1 (by omega)
      replace B2 := kk_u4.blt B2 (by omega)
      replace A := kk_u4.ahead A g3
      replace X := X.trans kk_u4.ext
      clear k_u6 k_u5 k_u4
      refine ldB_t 0 B3 rfl ?_
      refine ldS_t 1 B3 rfl ?_
      refine ldI_t 2 B3 rfl ?_
      replace h := h _ X A
      exact ⟨A, h⟩
    · skip
      clear h
      have h := h_
      clear h_
      refine ldB_t 0 B2 rfl ?_
      refine ldS_t 1 B2 rfl ?_
      refine Calls.mono h ?_
      clear h
      rintro e2 w4 ⟨x2, he_, ha_w4, h⟩
      refine ⟨x2, he_, ?_⟩
      clear he_
      replace B1 := B1.ahead ha_w4
      replace B2 := B2.ahead ha_w4
      replace B3 := B3.ahead ha_w4
      replace A := A.trans ha_w4
      replace X := X.trans (Ext.of_ahead ha_w4)
      replace X : Ext w4 w4 := Ext.refl _
      refine br_map h (fun h_ => ?_) (fun h_ => ?_)
      · skip
        clear h
        have h := h_
        clear h_
        refine ldB_t 0 B1 rfl ?_
        refine ldS_t 1 B1 rfl ?_
        refine ldI_t 2 B1 rfl ?_
        refine stC_t 0 B3 rfl rfl rfl fun u7 k_u7 B3_ => ?_
        replace B3 : Blt u7 bk3 47 #[Value.bool a0_a_0, (⟨none, 0, 0⟩ : Slc).v, Value.int .i64 0] := B3_
        clear B3_
        refine stC_t 1 B3 rfl rfl rfl fun u8 k_u8 B3_ => ?_
        replace B3 : Blt u8 bk3 47 #[Value.bool a0_a_0, a0_a_1.v, Value.int .i64 0] := B3_
        clear B3_
        refine stC_t 2 B3 rfl rfl rfl fun u9 k_u9 B3_ => ?_
        replace B3 : Blt u9 bk3 47 #[Value.bool a0_a_0, a0_a_1.v, Value.int .i64 a0_a_2] := B3_
        clear B3_
        have kk_u7 := ((k_u7.trans k_u8).trans k_u9)
        replace B1 := kk_u7.blt B1 (by omega)
        replace B2 := kk_u7.blt B2 (by omega)
        replace A := kk_u7.ahead A g3
        replace X := X.trans kk_u7.ext
        clear k_u9 k_u8 k_u7
        refine ldB_t 0 B3 rfl ?_
        refine ldS_t 1 B3 rfl ?_
        refine ldI_t 2 B3 rfl ?_
        replace h := h _ X A
        exact ⟨A, h⟩
      · skip
        clear h
        have h := h_
        clear h_
        refine ldI_t 2 B1 rfl ?_
        refine ldI_t 2 B2 rfl ?_
        refine br_map h (fun h_ => ?_) (fun h_ => ?_)
        · skip
          clear h
          have h := h_
          clear h_
          refine ldB_t 0 B2 rfl ?_
          refine ldS_t 1 B2 rfl ?_
          refine ldI_t 2 B2 rfl ?_
          refine ldB_t 0 B1 rfl ?_
          refine ldS_t 1 B1 rfl ?_
          refine ldI_t 2 B1 rfl ?_
          refine stC_t 0 B1 rfl rfl rfl fun u10 k_u10 B1_ => ?_
          replace B1 : Blt u10 bk1 47 #[Value.bool a1_b_0, a0_a_1.v, Value.int .i64 a0_a_2] := B1_
          clear B1_
          refine stC_t 1 B1 rfl rfl rfl fun u11 k_u11 B1_ => ?_
          replace B1 : Blt u11 bk1 47 #[Value.bool a1_b_0, a1_b_1.v, Value.int .i64 a0_a_2] := B1_
          clear B1_
          refine stC_t 2 B1 rfl rfl rfl fun u12 k_u12 B1_ => ?_
          replace B1 : Blt u12 bk1 47 #[Value.bool a1_b_0, a1_b_1.v, Value.int .i64 a1_b_2] := B1_
          clear B1_
          have kk_u10 := ((k_u10.trans k_u11).trans k_u12)
          replace B2 := kk_u10.blt B2 (by omega)
          replace B3 := kk_u10.blt B3 (by omega)
          replace A := kk_u10.ahead A g1
          replace X := X.trans kk_u10.ext
          clear k_u12 k_u11 k_u10
          refine stC_t 0 B2 rfl rfl rfl fun u13 k_u13 B2_ => ?_
          replace B2 : Blt u13 bk2 47 #[Value.bool a0_a_0, a1_b_1.v, Value.int .i64 a1_b_2] := B2_
          clear B2_
          refine stC_t 1 B2 rfl rfl rfl fun u14 k_u14 B2_ => ?_
          replace B2 : Blt u14 bk2 47 #[Value.bool a0_a_0, a0_a_1.v, Value.int .i64 a1_b_2] := B2_
          clear B2_
          refine stC_t 2 B2 rfl rfl rfl fun u15 k_u15 B2_ => ?_
          replace B2 : Blt u15 bk2 47 #[Value.bool a0_a_0, a0_a_1.v, Value.int .i64 a0_a_2] := B2_
          clear B2_
          have kk_u13 := ((k_u13.trans k_u14).trans k_u15)
          replace B1 := kk_u13.blt B1 (by omega)
          replace B3 := kk_u13.blt B3 (by omega)
          replace A := kk_u13.ahead A g2
          replace X := X.trans kk_u13.ext
          clear k_u15 k_u14 k_u13
          refine ldI_t 2 B1 rfl ?_
          refine ldI_t 2 B2 rfl ?_
          refine ldS_t 1 B2 rfl ?_
          replace h := h _ X A
          refine Calls.mono h ?_
          clear h
          rintro e3 w7 ⟨x3, he_, ha_w7, h⟩
          refine ⟨x3, he_, ?_⟩
          clear he_
          replace B1 := B1.ahead ha_w7
          replace B2 := B2.ahead ha_w7
          replace B3 := B3.ahead ha_w7
          replace A := A.trans ha_w7
          replace X := X.trans (Ext.of_ahead ha_w7)
          replace X : Ext w7 w7 := Ext.refl _
          refine br_map h (fun h_ => ?_) (fun h_ => ?_)
          · skip
            clear h
            have h := h_
            clear h_
            refine stC_t 0 B3 rfl rfl rfl fun u16 k_u16 B3_ => ?_
            replace B3 : Blt u16 bk3 47 #[Value.bool false, (⟨none, 0, 0⟩ : Slc).v, Value.int .i64 0] := B3_
            clear B3_
            refine stC_t 1 B3 rfl rfl rfl fun u17 k_u17 B3_ => ?_
            replace B3 : Blt u17 bk3 47 #[Value.bool false, (⟨none, 0, 0⟩ : Slc).v, Value.int .i64 0] := B3_
            clear B3_
            refine stC_t 2 B3 rfl rfl rfl fun u18 k_u18 B3_ => ?_
            replace B3 : Blt u18 bk3 47 #[Value.bool false, (⟨none, 0, 0⟩ : Slc).v, Value.int .i64 0] := B3_
            clear B3_
            have kk_u16 := ((k_u16.trans k_u17).trans k_u18)
            replace B1 := kk_u16.blt B1 (by omega)
            replace B2 := kk_u16.blt B2 (by omega)
            replace A := kk_u16.ahead A g3
            replace X := X.trans kk_u16.ext
            clear k_u18 k_u17 k_u16
            refine ldB_t 0 B3 rfl ?_
            refine ldS_t 1 B3 rfl ?_
            refine ldI_t 2 B3 rfl ?_
            replace h := h _ X A
            exact ⟨A, h⟩
          · skip
            clear h
            have h := h_
            clear h_
            have hd_ := Sp.Ahead.drew w7
            replace B1 := B1.ahead hd_
            replace B2 := B2.ahead hd_
            replace B3 := B3.ahead hd_
            replace A := A.trans hd_
            replace X := X.trans (Ext.of_ahead hd_)
            clear hd_
            refine ldB_t 0 B1 rfl ?_
            refine ldS_t 1 B1 rfl ?_
            refine ldB_t 0 B2 rfl ?_
            refine ldS_t 1 B2 rfl ?_
            refine ldI_t 2 B2 rfl ?_
            replace h := h _ X A
            refine Calls.mono h ?_
            clear h
            rintro e4 w10 ⟨b1, s1, he_, ha_w10, h⟩
            refine ⟨b1, s1, he_, ?_⟩
            clear he_
            replace B1 := B1.ahead ha_w10
            replace B2 := B2.ahead ha_w10
            replace B3 := B3.ahead ha_w10
            replace A := A.trans ha_w10
            replace X := X.trans (Ext.of_ahead ha_w10)
            replace X : Ext w10 w10 := Ext.refl _
            refine ⟨ha_w10, ?_⟩
            refine Calls.mono h ?_
            clear h
            rintro e5 w11 ⟨b2, s2, he_, ha_w11, h⟩
            refine ⟨b2, s2, he_, ?_⟩
            clear he_
            replace B1 := B1.ahead ha_w11
            replace B2 := B2.ahead ha_w11
            replace B3 := B3.ahead ha_w11
            replace A := A.trans ha_w11
            replace X := X.trans (Ext.of_ahead ha_w11)
            replace X : Ext w11 w11 := Ext.refl _
            refine ⟨ha_w11, ?_⟩
            refine Calls.mono h ?_
            clear h
            rintro e6 w12 ⟨b3, s3, x4, he_, ha_w12, h⟩
            refine ⟨b3, s3, x4, he_, ?_⟩
            clear he_
            replace B1 := B1.ahead ha_w12
            replace B2 := B2.ahead ha_w12
            replace B3 := B3.ahead ha_w12
            replace A := A.trans ha_w12
            replace X := X.trans (Ext.of_ahead ha_w12)
            replace X : Ext w12 w12 := Ext.refl _
            refine ⟨ha_w12, ?_⟩
            refine stC_t 0 B3 rfl rfl rfl fun u19 k_u19 B3_ => ?_
            replace B3 : Blt u19 bk3 47 #[Value.bool b3, (⟨none, 0, 0⟩ : Slc).v, Value.int .i64 0] := B3_
            clear B3_
            refine stC_t 1 B3 rfl rfl rfl fun u20 k_u20 B3_ => ?_
            replace B3 : Blt u20 bk3 47 #[Value.bool b3, s3.v, Value.int .i64 0] := B3_
            clear B3_
            refine stC_t 2 B3 rfl rfl rfl fun u21 k_u21 B3_ => ?_
            replace B3 : Blt u21 bk3 47 #[Value.bool b3, s3.v, Value.int .i64 x4] := B3_
            clear B3_
            have kk_u19 := ((k_u19.trans k_u20).trans k_u21)
            replace B1 := kk_u19.blt B1 (by omega)
            replace B2 := kk_u19.blt B2 (by omega)
            replace A := kk_u19.ahead A g3
            replace X := X.trans kk_u19.ext
            clear k_u21 k_u20 k_u19
            refine ldB_t 0 B3 rfl ?_
            refine ldS_t 1 B3 rfl ?_
            refine ldI_t 2 B3 rfl ?_
            replace h := h _ X A
            exact ⟨A, h⟩
        · skip
          clear h
          have h := h_
          clear h_
          refine ldI_t 2 B1 rfl ?_
          refine ldI_t 2 B2 rfl ?_
          refine ldS_t 1 B2 rfl ?_
          refine Calls.mono h ?_
          clear h
          rintro e7 w14 ⟨x5, he_, ha_w14, h⟩
          refine ⟨x5, he_, ?_⟩
          clear he_
          replace B1 := B1.ahead ha_w14
          replace B2 := B2.ahead ha_w14
          replace B3 := B3.ahead ha_w14
          replace A := A.trans ha_w14
          replace X := X.trans (Ext.of_ahead ha_w14)
          replace X : Ext w14 w14 := Ext.refl _
          refine br_map h (fun h_ => ?_) (fun h_ => ?_)
          · skip
            clear h
            have h := h_
            clear h_
            refine stC_t 0 B3 rfl rfl rfl fun u22 k_u22 B3_ => ?_
            replace B3 : Blt u22 bk3 47 #[Value.bool false, (⟨none, 0, 0⟩ : Slc).v, Value.int .i64 0] := B3_
            clear B3_
            refine stC_t 1 B3 rfl rfl rfl fun u23 k_u23 B3_ => ?_
            replace B3 : Blt u23 bk3 47 #[Value.bool false, (⟨none, 0, 0⟩ : Slc).v, Value.int .i64 0] := B3_
            clear B3_
            refine stC_t 2 B3 rfl rfl rfl fun u24 k_u24 B3_ => ?_
            replace B3 : Blt u24 bk3 47 #[Value.bool false, (⟨none, 0, 0⟩ : Slc).v, Value.int .i64 0] := B3_
            clear B3_
            have kk_u22 := ((k_u22.trans k_u23).trans k_u24)
            replace B1 := kk_u22.blt B1 (by omega)
            replace B2 := kk_u22.blt B2 (by omega)
            replace A := kk_u22.ahead A g3
            replace X := X.trans kk_u22.ext
            clear k_u24 k_u23 k_u22
            refine ldB_t 0 B3 rfl ?_
            refine ldS_t 1 B3 rfl ?_
            refine ldI_t 2 B3 rfl ?_
            replace h := h _ X A
            exact ⟨A, h⟩
          · skip
            clear h
            have h := h_
            clear h_
            have hd_ := Sp.Ahead.drew w14
            replace B1 := B1.ahead hd_
            replace B2 := B2.ahead hd_
            replace B3 := B3.ahead hd_
            replace A := A.trans hd_
            replace X := X.trans (Ext.of_ahead hd_)
            clear hd_
            refine ldB_t 0 B1 rfl ?_
            refine ldS_t 1 B1 rfl ?_
            refine ldB_t 0 B2 rfl ?_
            refine ldS_t 1 B2 rfl ?_
            refine ldI_t 2 B2 rfl ?_
            replace h := h _ X A
            refine Calls.mono h ?_
            clear h
            rintro e8 w17 ⟨b4, s4, he_, ha_w17, h⟩
            refine ⟨b4, s4, he_, ?_⟩
            clear he_
            replace B1 := B1.ahead ha_w17
            replace B2 := B2.ahead ha_w17
            replace B3 := B3.ahead ha_w17
            replace A := A.trans ha_w17
            replace X := X.trans (Ext.of_ahead ha_w17)
            replace X : Ext w17 w17 := Ext.refl _
            refine ⟨ha_w17, ?_⟩
            refine Calls.mono h ?_
            clear h
            rintro e9 w18 ⟨b5, s5, he_, ha_w18, h⟩
            refine ⟨b5, s5, he_, ?_⟩
            clear he_
            replace B1 := B1.ahead ha_w18
            replace B2 := B2.ahead ha_w18
            replace B3 := B3.ahead ha_w18
            replace A := A.trans ha_w18
            replace X := X.trans (Ext.of_ahead ha_w18)
            replace X : Ext w18 w18 := Ext.refl _
            refine ⟨ha_w18, ?_⟩
            refine Calls.mono h ?_
            clear h
            rintro e10 w19 ⟨b6, s6, x6, he_, ha_w19, h⟩
            refine ⟨b6, s6, x6, he_, ?_⟩
            clear he_
            replace B1 := B1.ahead ha_w19
            replace B2 := B2.ahead ha_w19
            replace B3 := B3.ahead ha_w19
            replace A := A.trans ha_w19
            replace X := X.trans (Ext.of_ahead ha_w19)
            replace X : Ext w19 w19 := Ext.refl _
            refine ⟨ha_w19, ?_⟩
            refine stC_t 0 B3 rfl rfl rfl fun u25 k_u25 B3_ => ?_
            replace B3 : Blt u25 bk3 47 #[Value.bool b6, (⟨none, 0, 0⟩ : Slc).v, Value.int .i64 0] := B3_
            clear B3_
            refine stC_t 1 B3 rfl rfl rfl fun u26 k_u26 B3_ => ?_
            replace B3 : Blt u26 bk3 47 #[Value.bool b6, s6.v, Value.int .i64 0] := B3_
            clear B3_
            refine stC_t 2 B3 rfl rfl rfl fun u27 k_u27 B3_ => ?_
            replace B3 : Blt u27 bk3 47 #[Value.bool b6, s6.v, Value.int .i64 x6] := B3_
            clear B3_
            have kk_u25 := ((k_u25.trans k_u26).trans k_u27)
            replace B1 := kk_u25.blt B1 (by omega)
            replace B2 := kk_u25.blt B2 (by omega)
            replace A := kk_u25.ahead A g3
            replace X := X.trans kk_u25.ext
            clear k_u27 k_u26 k_u25
            refine ldB_t 0 B3 rfl ?_
            refine ldS_t 1 B3 rfl ?_
            refine ldI_t 2 B3 rfl ?_
            replace h := h _ X A
            exact ⟨A, h⟩

/-- surd/surdref08.Neg: function 60, its local variables as values. -/
theorem surdref08_Neg_v2 (a0_a_0 : Bool) (a0_a_1 : Slc) (a0_a_2 : Int) (w : World) (R : Ending → World → Prop)
    
    (h : ∀ w1, Ext w w1 → Ahead w w1 →
    (Calls Tryd.prog 96 #[Value.agg #[Value.bool a0_a_0, a0_a_1.v]] w1 fun e1 w2 =>
     ∃ b1 : Bool, ∃ s1 : Slc, e1 = .returned (Value.agg #[Value.bool b1, s1.v]) ∧ Ahead w1 w2 ∧
     (∀ w3, Ext w2 w3 → Ahead w w3 →
      (R (.returned (Value.agg #[Value.bool b1, s1.v, Value.int .i64 a0_a_2])) w3))))
     :
    Calls Tryd.prog 60 #[Value.agg #[Value.bool a0_a_0, a0_a_1.v, Value.int .i64 a0_a_2]] w (fun e_ w_ => Ahead w w_ ∧ R e_ w_) := by
  refine surdref08_Neg_vc a0_a_0 a0_a_1 a0_a_2 w _  ?_
  · have A : Ahead w w := Ahead.refl w
    have X : Ext w w := Ext.refl w
    refine newC_t fun bk1 u1 hb1 ha_u1 hs B1 => ?_
    have g1 : w.heap.size ≤ bk1 := by have := A.size; omega
    replace A := A.trans ha_u1
    replace X := X.trans (Ext.of_ahead ha_u1)
    clear hs hb1
    refine newC_t fun bk2 u2 hb2 ha_u2 hs B2 => ?_
    have g2 : w.heap.size ≤ bk2 := by have := A.size; omega
    have l1_2 : bk1 < bk2 := by have := B1.lt; omega
    replace B1 := B1.ahead ha_u2
    replace A := A.trans ha_u2
    replace X := X.trans (Ext.of_ahead ha_u2)
    clear hs hb2
    have hd_ := Sp.Ahead.drew u2
    replace B1 := B1.ahead hd_
    replace B2 := B2.ahead hd_
    replace A := A.trans hd_
    replace X := X.trans (Ext.of_ahead hd_)
    clear hd_
    refine ldB_t 0 B1 rfl ?_
    refine ldS_t 1 B1 rfl ?_
    refine ldI_t 2 B1 rfl ?_
    replace h := h _ X A
    refine Calls.mono h ?_
    clear h
    rintro e1 w2 ⟨b1, s1, he_, ha_w2, h⟩
    refine ⟨b1, s1, he_, ?_⟩
    clear he_
    replace B1 := B1.ahead ha_w2
    replace B2 := B2.ahead ha_w2
    replace A := A.trans ha_w2
    replace X := X.trans (Ext.of_ahead ha_w2)
    replace X : Ext w2 w2 := Ext.refl _
    refine ⟨ha_w2, ?_⟩
    refine stC_t 0 B2 rfl rfl rfl fun u3 k_u3 B2_ => ?_
    replace B2 : Blt u3 bk2 47 #[Value.bool b1, (⟨none, 0, 0⟩ : Slc).v, Value.int .i64 0] := B2_
    clear B2_
    refine stC_t 1 B2 rfl rfl rfl fun u4 k_u4 B2_ => ?_
    replace B2 : Blt u4 bk2 47 #[Value.bool b1, s1.v, Value.int .i64 0] := B2_
    clear B2_
    refine stC_t 2 B2 rfl rfl rfl fun u5 k_u5 B2_ => ?_
    replace B2 : Blt u5 bk2 47 #[Value.bool b1, s1.v, Value.int .i64 a0_a_2] := B2_
    clear B2_
    have kk_u3 := ((k_u3.trans k_u4).trans k_u5)
    replace B1 := kk_u3.blt B1 (by omega)
    replace A := kk_u3.ahead A g2
    replace X := X.trans kk_u3.ext
    clear k_u5 k_u4 k_u3
    refine ldB_t 0 B2 rfl ?_
    refine ldS_t 1 B2 rfl ?_
    refine ldI_t 2 B2 rfl ?_
    replace h := h _ X A
    exact ⟨A, h⟩

/-- surd/surdref08.Abs: function 61, its local variables as values. -/
theorem surdref08_Abs_v2 (a0_a_0 : Bool) (a0_a_1 : Slc) (a0_a_2 : Int) (w : World) (R : Ending → World → Prop)
    
    (h : ∀ w1, Ext w w1 → Ahead w w1 →
    (Calls Tryd.prog 97 #[Value.agg #[Value.bool a0_a_0, a0_a_1.v]] w1 fun e1 w2 =>
     ∃ b1 : Bool, ∃ s1 : Slc, e1 = .returned (Value.agg #[Value.bool b1, s1.v]) ∧ Ahead w1 w2 ∧
     (∀ w3, Ext w2 w3 → Ahead w w3 →
      (R (.returned (Value.agg #[Value.bool b1, s1.v, Value.int .i64 a0_a_2])) w3))))
     :
    Calls Tryd.prog 61 #[Value.agg #[Value.bool a0_a_0, a0_a_1.v, Value.int .i64 a0_a_2]] w (fun e_ w_ => Ahead w w_ ∧ R e_ w_) := by
  refine surdref08_Abs_vc a0_a_0 a0_a_1 a0_a_2 w _  ?_
  · have A : Ahead w w := Ahead.refl w
    have X : Ext w w := Ext.refl w
    refine newC_t fun bk1 u1 hb1 ha_u1 hs B1 => ?_
    have g1 : w.heap.size ≤ bk1 := by have := A.size; omega
    replace A := A.trans ha_u1
    replace X := X.trans (Ext.of_ahead ha_u1)
    clear hs hb1
    refine newC_t fun bk2 u2 hb2 ha_u2 hs B2 => ?_
    have g2 : w.heap.size ≤ bk2 := by have := A.size; omega
    have l1_2 : bk1 < bk2 := by have := B1.lt; omega
    replace B1 := B1.ahead ha_u2
    replace A := A.trans ha_u2
    replace X := X.trans (Ext.of_ahead ha_u2)
    clear hs hb2
    have hd_ := Sp.Ahead.drew u2
    replace B1 := B1.ahead hd_
    replace B2 := B2.ahead hd_
    replace A := A.trans hd_
    replace X := X.trans (Ext.of_ahead hd_)
    clear hd_
    refine ldB_t 0 B1 rfl ?_
    refine ldS_t 1 B1 rfl ?_
    refine ldI_t 2 B1 rfl ?_
    replace h := h _ X A
    refine Calls.mono h ?_
    clear h
    rintro e1 w2 ⟨b1, s1, he_, ha_w2, h⟩
    refine ⟨b1, s1, he_, ?_⟩
    clear he_
    replace B1 := B1.ahead ha_w2
    replace B2 := B2.ahead ha_w2
    replace A := A.trans ha_w2
    replace X := X.trans (Ext.of_ahead ha_w2)
    replace X : Ext w2 w2 := Ext.refl _
    refine ⟨ha_w2, ?_⟩
    refine stC_t 0 B2 rfl rfl rfl fun u3 k_u3 B2_ => ?_
    replace B2 : Blt u3 bk2 47 #[Value.bool b1, (⟨none, 0, 0⟩ : Slc).v, Value.int .i64 0] := B2_
    clear B2_
    refine stC_t 1 B2 rfl rfl rfl fun u4 k_u4 B2_ => ?_
    replace B2 : Blt u4 bk2 47 #[Value.bool b1, s1.v, Value.int .i64 0] := B2_
    clear B2_
    refine stC_t 2 B2 rfl rfl rfl fun u5 k_u5 B2_ => ?_
    replace B2 : Blt u5 bk2 47 #[Value.bool b1, s1.v, Value.int .i64 a0_a_2] := B2_
    clear B2_
    have kk_u3 := ((k_u3.trans k_u4).trans k_u5)
    replace B1 := kk_u3.blt B1 (by omega)
    replace A := kk_u3.ahead A g2
    replace X := X.trans kk_u3.ext
    clear k_u5 k_u4 k_u3
    refine ldB_t 0 B2 rfl ?_
    refine ldS_t 1 B2 rfl ?_
    refine ldI_t 2 B2 rfl ?_
    replace h := h _ X A
    exact ⟨A, h⟩

/-- surd/surdref08.Scale: function 50, its local variables as values. -/
theorem surdref08_Scale_v2 (a0_a_0 : Bool) (a0_a_1 : Slc) (a0_a_2 : Int) (a1_k : Int) (w : World) (R : Ending → World → Prop)
    
    (h : ∀ w1, Ext w w1 → Ahead w w1 →
    (Calls Tryd.prog 28 #[Value.agg #[Value.bool a0_a_0, a0_a_1.v]] w1 fun e1 w2 =>
     ∃ x1 : Int, e1 = .returned (Value.int .i64 x1) ∧ Ahead w1 w2 ∧
     (br (x1 == 0)
      (∀ w3, Ext w2 w3 → Ahead w w3 →
       (R (.returned (Value.agg #[Value.bool a0_a_0, a0_a_1.v, Value.int .i64 a0_a_2])) w3))
      (∀ w4, Ext w2 w4 → Ahead w w4 →
       (R (.returned (Value.agg #[Value.bool a0_a_0, a0_a_1.v, Value.int .i64 (IntKind.i64.wrap (a0_a_2 + a1_k))])) w4)))))
     :
    Calls Tryd.prog 50 #[Value.agg #[Value.bool a0_a_0, a0_a_1.v, Value.int .i64 a0_a_2], Value.int .i64 a1_k] w (fun e_ w_ => Ahead w w_ ∧ R e_ w_) := by
  refine surdref08_Scale_vc a0_a_0 a0_a_1 a0_a_2 a1_k w _  ?_
  · have A : Ahead w w := Ahead.refl w
    have X : Ext w w := Ext.refl w
    refine newC_t fun bk1 u1 hb1 ha_u1 hs B1 => ?_
    have g1 : w.heap.size ≤ bk1 := by have := A.size; omega
    replace A := A.trans ha_u1
    replace X := X.trans (Ext.of_ahead ha_u1)
    clear hs hb1
    refine newC_t fun bk2 u2 hb2 ha_u2 hs B2 => ?_
    have g2 : w.heap.size ≤ bk2 := by have := A.size; omega
    have l1_2 : bk1 < bk2 := by have := B1.lt; omega
    replace B1 := B1.ahead ha_u2
    replace A := A.trans ha_u2
    replace X := X.trans (Ext.of_ahead ha_u2)
    clear hs hb2
    refine ldB_t 0 B1 rfl ?_
    refine ldS_t 1 B1 rfl ?_
    replace h := h _ X A
    refine Calls.mono h ?_
    clear h
    rintro e1 w2 ⟨x1, he_, ha_w2, h⟩
    refine ⟨x1, he_, ?_⟩
    clear he_
    replace B1 := B1.ahead ha_w2
    replace B2 := B2.ahead ha_w2
    replace A := A.trans ha_w2
    replace X := X.trans (Ext.of_ahead ha_w2)
    replace X : Ext w2 w2 := Ext.refl _
    refine br_map h (fun h_ => ?_) (fun h_ => ?_)
    · skip
      clear h
      have h := h_
      clear h_
      refine ldB_t 0 B1 rfl ?_
      refine ldS_t 1 B1 rfl ?_
      refine ldI_t 2 B1 rfl ?_
      refine stC_t 0 B2 rfl rfl rfl fun u3 k_u3 B2_ => ?_
      replace B2 : Blt u3 bk2 47 #[Value.bool a0_a_0, (⟨none, 0, 0⟩ : Slc).v, Value.int .i64 0] := B2_
      clear B2_
      refine stC_t 1 B2 rfl rfl rfl fun u4 k_u4 B2_ => ?_
      replace B2 : Blt u4 bk2 47 #[Value.bool a0_a_0, a0_a_1.v, Value.int .i64 0] := B2_
      clear B2_
      refine stC_t 2 B2 rfl rfl rfl fun u5 k_u5 B2_ => ?_
      replace B2 : Blt u5 bk2 47 #[Value.bool a0_a_0, a0_a_1.v, Value.int .i64 a0_a_2] := B2_
      clear B2_
      have kk_u3 := ((k_u3.trans k_u4).trans k_u5)
      replace B1 := kk_u3.blt B1 (by omega)
      replace A := kk_u3.ahead A g2
      replace X := X.trans kk_u3.ext
      clear k_u5 k_u4 k_u3
      refine ldB_t 0 B2 rfl ?_
      refine ldS_t 1 B2 rfl ?_
      refine ldI_t 2 B2 rfl ?_
      replace h := h _ X A
      exact ⟨A, h⟩
    · skip
      clear h
      have h := h_
      clear h_
      refine ldB_t 0 B1 rfl ?_
      refine ldS_t 1 B1 rfl ?_
      refine ldI_t 2 B1 rfl ?_
      refine stC_t 0 B2 rfl rfl rfl fun u6 k_u6 B2_ => ?_
      replace B2 : Blt u6 bk2 47 #[Value.bool a0_a_0, (⟨none, 0, 0⟩ : Slc).v, Value.int .i64 0] := B2_
      clear B2_
      refine stC_t 1 B2 rfl rfl rfl fun u7 k_u7 B2_ => ?_
      replace B2 : Blt u7 bk2 47 #[Value.bool a0_a_0, a0_a_1.v, Value.int .i64 0] := B2_
      clear B2_
      refine stC_t 2 B2 rfl rfl rfl fun u8 k_u8 B2_ => ?_
      replace B2 : Blt u8 bk2 47 #[Value.bool a0_a_0, a0_a_1.v, Value.int .i64 (IntKind.i64.wrap (a0_a_2 + a1_k))] := B2_
      clear B2_
      have kk_u6 := ((k_u6.trans k_u7).trans k_u8)
      replace B1 := kk_u6.blt B1 (by omega)
      replace A := kk_u6.ahead A g2
      replace X := X.trans kk_u6.ext
      clear k_u8 k_u7 k_u6
      refine ldB_t 0 B2 rfl ?_
      refine ldS_t 1 B2 rfl ?_
      refine ldI_t 2 B2 rfl ?_
      replace h := h _ X A
      exact ⟨A, h⟩

/-- surd/surdlaw08.read: function 58, its local variables as values. -/
theorem surdlaw08_read_v2 (a0_a_0 : Bool) (a0_a_1 : Slc) (a0_a_2 : Int) (w : World) (R : Ending → World → Prop)
    
    (h : ∀ w1, Ext w w1 → Ahead w w1 →
    (Calls Tryd.prog 21 #[Value.bool a0_a_0, a0_a_1.v] w1 fun e1 w2 =>
     ∃ b1 : Bool, ∃ s1 : Slc, e1 = .returned (Value.agg #[Value.bool b1, s1.v]) ∧ Ahead w1 w2 ∧
     (Calls Tryd.prog 22 #[Value.agg #[Value.bool b1, s1.v], Value.int .i64 a0_a_2] w2 fun e2 w3 =>
      ∃ b2 : Bool, ∃ s2 : Slc, ∃ x1 : Int, e2 = .returned (Value.agg #[Value.bool b2, s2.v, Value.int .i64 x1]) ∧ Ahead w2 w3 ∧
      (∀ w4, Ext w3 w4 → Ahead w w4 →
       (R (.returned (Value.agg #[Value.bool b2, s2.v, Value.int .i64 x1])) w4)))))
     :
    Calls Tryd.prog 58 #[Value.agg #[Value.bool a0_a_0, a0_a_1.v, Value.int .i64 a0_a_2]] w (fun e_ w_ => Ahead w w_ ∧ R e_ w_) := by
  refine surdlaw08_read_vc a0_a_0 a0_a_1 a0_a_2 w _  ?_
  · have A : Ahead w w := Ahead.refl w
    have X : Ext w w := Ext.refl w
    refine newC_t fun bk1 u1 hb1 ha_u1 hs B1 => ?_
    have g1 : w.heap.size ≤ bk1 := by have := A.size; omega
    replace A := A.trans ha_u1
    replace X := X.trans (Ext.of_ahead ha_u1)
    clear hs hb1
    refine newC_t fun bk2 u2 hb2 ha_u2 hs B2 => ?_
    have g2 : w.heap.size ≤ bk2 := by have := A.size; omega
    have l1_2 : bk1 < bk2 := by have := B1.lt; omega
    replace B1 := B1.ahead ha_u2
    replace A := A.trans ha_u2
    replace X := X.trans (Ext.of_ahead ha_u2)
    clear hs hb2
    have hd_ := Sp.Ahead.drew u2
    replace B1 := B1.ahead hd_
    replace B2 := B2.ahead hd_
    replace A := A.trans hd_
    replace X := X.trans (Ext.of_ahead hd_)
    clear hd_
    refine ldB_t 0 B1 rfl ?_
    refine ldS_t 1 B1 rfl ?_
    refine ldI_t 2 B1 rfl ?_
    replace h := h _ X A
    refine Calls.mono h ?_
    clear h
    rintro e1 w2 ⟨b1, s1, he_, ha_w2, h⟩
    refine ⟨b1, s1, he_, ?_⟩
    clear he_
    replace B1 := B1.ahead ha_w2
    replace B2 := B2.ahead ha_w2
    replace A := A.trans ha_w2
    replace X := X.trans (Ext.of_ahead ha_w2)
    replace X : Ext w2 w2 := Ext.refl _
    refine ⟨ha_w2, ?_⟩
    refine Calls.mono h ?_
    clear h
    rintro e2 w3 ⟨b2, s2, x1, he_, ha_w3, h⟩
    refine ⟨b2, s2, x1, he_, ?_⟩
    clear he_
    replace B1 := B1.ahead ha_w3
    replace B2 := B2.ahead ha_w3
    replace A := A.trans ha_w3
    replace X := X.trans (Ext.of_ahead ha_w3)
    replace X : Ext w3 w3 := Ext.refl _
    refine ⟨ha_w3, ?_⟩
    refine stC_t 0 B2 rfl rfl rfl fun u3 k_u3 B2_ => ?_
    replace B2 : Blt u3 bk2 47 #[Value.bool b2, (⟨none, 0, 0⟩ : Slc).v, Value.int .i64 0] := B2_
    clear B2_
    refine stC_t 1 B2 rfl rfl rfl fun u4 k_u4 B2_ => ?_
    replace B2 : Blt u4 bk2 47 #[Value.bool b2, s2.v, Value.int .i64 0] := B2_
    clear B2_
    refine stC_t 2 B2 rfl rfl rfl fun u5 k_u5 B2_ => ?_
    replace B2 : Blt u5 bk2 47 #[Value.bool b2, s2.v, Value.int .i64 x1] := B2_
    clear B2_
    have kk_u3 := ((k_u3.trans k_u4).trans k_u5)
    replace B1 := kk_u3.blt B1 (by omega)
    replace A := kk_u3.ahead A g2
    replace X := X.trans kk_u3.ext
    clear k_u5 k_u4 k_u3
    refine ldB_t 0 B2 rfl ?_
    refine ldS_t 1 B2 rfl ?_
    refine ldI_t 2 B2 rfl ?_
    replace h := h _ X A
    exact ⟨A, h⟩

end Go.Proofs.YthhbjhdnaopcnaaDoor
namespace Go.Proofs.YthhbjhdnaopcnaaDoor
open Go Go.RowKit Eng Sp Dg L2
set_option linter.unusedVariables false
set_option linter.unusedSimpArgs false
set_option maxRecDepth 100000
namespace Dy
open _root_.Go.Proofs.YthhbjhdnaopcnaaDoor.Nat (OwnNil Num Num.bl OwnNil.mono OwnNil.ext OwnNil.rd OwnNil.ahead OwnNil.nil digs_len_bl num_of Yes cmp_num)
open _root_.Go.Proofs.YthhbjhdnaopcnaaDoor.Ref (RN RN.nil RN.ext RN.ahead Len_spec Shl_spec Int_spec Cmp_spec len_mono bl_len32)
open Sb

def cmpZ (a b : Int) : Int := if a < b then -1 else if a = b then 0 else 1
/-- A dyadic's steps of 2^b. -/
def dv (z e b : Int) : Int := z * ((2 ^ (e - b).toNat : Nat) : Int)
def dcmp (z e z' e' : Int) : Int := cmpZ (dv z e (min e e')) (dv z' e' (min e e'))
theorem sg_mul (neg : Bool) (n m : Nat) : sg neg n * (m : Int) = sg neg (n * m) := by
  unfold sg; cases neg <;> simp [Int.neg_mul]
theorem dv_sg (neg : Bool) (n : Nat) (e b : Int) : dv (sg neg n) e b = sg neg (n * 2 ^ (e - b).toNat) := sg_mul neg n _
theorem two_pos (k : Nat) : 0 < 2 ^ k := Nat.pow_pos (by omega)
theorem mul2_zero {n k : Nat} : n * 2 ^ k = 0 ↔ n = 0 := by
  have := two_pos k
  constructor
  · intro h
    rcases Nat.mul_eq_zero.1 h with h | h
    · exact h
    · omega
  · intro h; rw [h, Nat.zero_mul]
theorem sgn_mul2 (neg : Bool) (n k : Nat) : sgn neg (n * 2 ^ k) = sgn neg n := by
  unfold sgn
  by_cases h : n = 0
  · rw [if_pos h, if_pos (mul2_zero.2 h)]
  · rw [if_neg h, if_neg (fun h' => h (mul2_zero.1 h'))]
theorem cmpZ_sg (neg neg' : Bool) (A B : Nat) : cmpZ (sg neg A) (sg neg' B) = if sgn neg A < sgn neg' B then -1 else if sgn neg' B < sgn neg A then 1 else if sgn neg A = 0 then 0 else sgn neg A * cmpI A B := by
  unfold cmpZ sg sgn cmpI
  by_cases hA : A = 0 <;> by_cases hB : B = 0 <;> cases neg <;> cases neg' <;> simp [hA, hB] <;> (repeat' split) <;> omega
theorem lt_of_bl {A B : Nat} (h : bl A < bl B) : A < B := by
  rcases Nat.lt_or_ge A B with h1 | h1
  · exact h1
  · have := bl_mono h1; omega
def calg (s : Int) (n : Nat) (e s' : Int) (n' : Nat) (e' : Int) : Int :=
  if s < s' then -1 else if s' < s then 1 else if s = 0 then 0 else if e + bl n ≠ e' + bl n' then (if e + bl n < e' + bl n' then -s else s) else
    if e' < e then s * cmpI (n * 2 ^ (e - e').toNat) n' else s * cmpI n (n' * 2 ^ (e' - e).toNat)
theorem cmpI_lt {a b : Nat} (h : a < b) : cmpI a b = -1 := if_pos h
theorem cmpI_gt {a b : Nat} (h : b < a) : cmpI a b = 1 := by rw [cmpI, if_neg (by omega), if_pos h]
theorem calg_eq (neg : Bool) (n : Nat) (e : Int) (neg' : Bool) (n' : Nat) (e' : Int) : calg (sgn neg n) n e (sgn neg' n') n' e' = dcmp (sg neg n) e (sg neg' n') e' := by
  rw [dcmp, dv_sg, dv_sg, cmpZ_sg, sgn_mul2, sgn_mul2, calg]
  by_cases h1 : sgn neg n < sgn neg' n'
  · rw [if_pos h1, if_pos h1]
  rw [if_neg h1, if_neg h1]
  by_cases h2 : sgn neg' n' < sgn neg n
  · rw [if_pos h2, if_pos h2]
  rw [if_neg h2, if_neg h2]
  by_cases h3 : sgn neg n = 0
  · rw [if_pos h3, if_pos h3]
  rw [if_neg h3, if_neg h3]
  have hn : n ≠ 0 := fun h => h3 (sgn_zero_iff.2 h)
  have hn' : n' ≠ 0 := fun h => h3 (by have := sgn_zero_iff (neg := neg').2 h; omega)
  have b1 := bl_shl (n := (e - min e e').toNat) hn
  have b2 := bl_shl (n := (e' - min e e').toNat) hn'
  by_cases h4 : e + bl n ≠ e' + bl n'
  · rw [if_pos h4]
    by_cases h5 : e + bl n < e' + bl n'
    · rw [if_pos h5, cmpI_lt (lt_of_bl (by omega))]; omega
    · rw [if_neg h5, cmpI_gt (lt_of_bl (by omega))]; omega
  · rw [if_neg h4]
    by_cases h5 : e' < e
    · rw [if_pos h5, show min e e' = e' by omega, Int.sub_self]; simp
    · rw [if_neg h5, show min e e' = e by omega, Int.sub_self]; simp
theorem sgn_range (neg : Bool) (n : Nat) : -1 ≤ sgn neg n ∧ sgn neg n ≤ 1 := by unfold sgn; split <;> (try split) <;> omega
theorem cmpI_range (a b : Nat) : -1 ≤ cmpI a b ∧ cmpI a b ≤ 1 := by unfold cmpI; split <;> (try split) <;> omega
theorem smul_range {s c : Int} (hs : -1 ≤ s ∧ s ≤ 1) (hc : -1 ≤ c ∧ c ≤ 1) : -1 ≤ s * c ∧ s * c ≤ 1 := by
  have : s = -1 ∨ s = 0 ∨ s = 1 := by omega
  rcases this with rfl | rfl | rfl <;> omega
/-- The room that a shift to the other's exponent takes. -/
theorem shift_room {n n' k m : Nat} (h : bl n + k = bl n') (hm : (digs B64 n').length + 2 ≤ m) : (digs B64 n).length + k / 64 + 1 ≤ m := by
  have h1 := bl_len (ok_digs two64 n')
  rw [val_digs two64] at h1
  have h2 := digs_len_bl (N := n) (m := bl n / 64 + 1) (by omega)
  omega
theorem shift_room32 {n n' k m : Nat} (h : bl n + k = bl n') (hm : (digs B32 n').length + 2 ≤ m) : (digs B32 n).length + k / 32 + 1 ≤ m := by
  have h1 := bl_len32 (ok_digs two32 n')
  rw [val_digs two32] at h1
  have h2 := digs_len_bl32 (N := n) (m := bl n / 32 + 1) (by omega)
  omega
def far (e : Int) : Prop := -2305843009213693952 ≤ e ∧ e ≤ 2305843009213693952
theorem num_digs {w : World} {s : Slc} {n : Nat} (r : Rd .u64 w s (nn (digs B64 n))) (h : (digs B64 n).length ≤ 2 ^ 44) : Num w s n := ⟨_, r, h, ok_digs two64 _, val_digs two64 _⟩

theorem compare_spec {w : World} {neg neg' : Bool} {s s' : Slc} {n n' : Nat} {e e' : Int} (r : Rd .u64 w s (nn (digs B64 n))) (r' : Rd .u64 w s' (nn (digs B64 n'))) (hl : (digs B64 n).length + 2 ≤ 2 ^ 44) (hl' : (digs B64 n').length + 2 ≤ 2 ^ 44) (he : far e) (he' : far e') :
    Calls pr dyadic_compare_id #[.agg (c3 neg s e), .agg (c3 neg' s' e')] w fun en w' => Ahead w w' ∧ en = .returned (.int .i64 (dcmp (sg neg n) e (sg neg' n') e')) := by
  unfold far at he he'
  rw [← calg_eq]
  have N1 := num_digs r (by omega)
  have N2 := num_digs r' (by omega)
  have hb1 := Num.bl N1
  have hb2 := Num.bl N2
  refine dyadic_compare_v2 neg s e neg' s' e' w _ fun w1 x1 a1 => Calls.mono (part_sign_spec (N1.ahead a1)) ?_
  rintro en w2 ⟨h2, rfl⟩
  refine ⟨_, rfl, h2, Calls.mono (part_sign_spec (N2.ahead (a1.trans h2))) ?_⟩
  rintro en w3 ⟨h3, rfl⟩
  have hs1 := sgn_range neg n
  unfold calg
  refine ⟨_, rfl, h3, br_intro (fun h => ?_) (fun h => br_intro (fun h4 => ?_) (fun h4 => br_intro (fun h5 => ?_) (fun h5 => ?_)))⟩
  · rw [if_pos (of_decide_eq_true h)]
  · rw [if_neg (of_decide_eq_false h), if_pos (of_decide_eq_true h4)]
  · rw [if_neg (of_decide_eq_false h), if_neg (of_decide_eq_false h4), if_pos (eq_of_beq h5)]
  · rw [if_neg (of_decide_eq_false h), if_neg (of_decide_eq_false h4), if_neg (fun h6 => by rw [h6] at h5; simp at h5)]
    intro w4 x4 a4
    refine Calls.mono (number_top_spec (N1.ahead a4) (by omega)) ?_
    rintro en w5 ⟨h5', rfl⟩
    have a5 := a4.trans h5'
    refine ⟨_, rfl, h5', Calls.mono (number_top_spec (N2.ahead a5) (by omega)) ?_⟩
    rintro en w6 ⟨h6, rfl⟩
    refine ⟨_, rfl, h6, br_intro (fun ht => ?_) (fun ht => br_intro (fun hg => ?_) (fun hg => ?_))⟩
    · have ht' : e + bl n ≠ e' + bl n' := fun h => by rw [h] at ht; simp at ht
      rw [if_pos ht']
      intro w7 x7 a7
      refine Calls.mono (number_top_spec (N1.ahead a7) (by omega)) ?_
      rintro en w8 ⟨h8, rfl⟩
      refine ⟨_, rfl, h8, Calls.mono (number_top_spec (N2.ahead (a7.trans h8)) (by omega)) ?_⟩
      rintro en w9 ⟨h9, rfl⟩
      refine ⟨_, rfl, h9, br_intro (fun hl => ?_) (fun hl => ?_)⟩
      · have := of_decide_eq_true hl
        rw [if_pos (by omega), wrap_i64 (by omega) (by omega), Int.zero_sub]
      · have := of_decide_eq_false hl
        rw [if_neg (by omega)]
    · have ht' : e + bl n = e' + bl n' := by have : e + bl n - 1 = e' + bl n' - 1 := by simpa using ht
                                             omega
      have hg' := of_decide_eq_true hg
      rw [if_neg (fun h => h ht'), if_pos (by omega)]
      intro w11 x11 a11
      have hk := shift_room (n := n) (n' := n') (k := (e - e').toNat) (by omega) hl'
      rw [wrap_i64 (by omega) (by omega), show e - e' = (((e - e').toNat : Nat) : Int) by omega]
      refine Calls.mono (dleft_spec (r.ahead a11) hk) ?_
      rintro en w12 ⟨h12, s1, rfl, o1⟩
      have o12 := o1.rd
      have lsh : (digs B64 (n * 2 ^ (e - e').toNat)).length ≤ 2 ^ 44 := by
        by_cases h0 : n = 0
        · rw [h0, Nat.zero_mul, digs_zero]; simp
        · have hb := bl_shl (n := (e - e').toNat) h0
          have h1 := bl_len (ok_digs two64 n')
          rw [val_digs two64] at h1
          have := digs_len_bl (N := n * 2 ^ (e - e').toNat) (m := (digs B64 n').length) (by omega)
          omega
      refine ⟨_, rfl, h12, Calls.mono (cmp_num (num_digs o12 lsh) (N2.ahead (a11.trans h12))) ?_⟩
      rintro en w13 ⟨h13, rfl⟩
      refine ⟨_, rfl, h13, ?_⟩
      have hr := smul_range hs1 (cmpI_range (n * 2 ^ (e - e').toNat) n')
      rw [wrap_i64 (by omega) (by omega)]
      rfl
    · have ht' : e + bl n = e' + bl n' := by have : e + bl n - 1 = e' + bl n' - 1 := by simpa using ht
                                             omega
      have hg' := of_decide_eq_false hg
      rw [if_neg (fun h => h ht'), if_neg (by omega)]
      intro w11 x11 a11
      have hk := shift_room (n := n') (n' := n) (k := (e' - e).toNat) (by omega) hl
      rw [wrap_i64 (by omega) (by omega), show e' - e = (((e' - e).toNat : Nat) : Int) by omega]
      refine Calls.mono (dleft_spec (r'.ahead a11) hk) ?_
      rintro en w12 ⟨h12, s1, rfl, o1⟩
      have o12 := o1.rd
      have lsh : (digs B64 (n' * 2 ^ (e' - e).toNat)).length ≤ 2 ^ 44 := by
        by_cases h0 : n' = 0
        · rw [h0, Nat.zero_mul, digs_zero]; simp
        · have hb := bl_shl (n := (e' - e).toNat) h0
          have h1 := bl_len (ok_digs two64 n)
          rw [val_digs two64] at h1
          have := digs_len_bl (N := n' * 2 ^ (e' - e).toNat) (m := (digs B64 n).length) (by omega)
          omega
      refine ⟨_, rfl, h12, Calls.mono (cmp_num (N1.ahead (a11.trans h12)) (num_digs o12 lsh)) ?_⟩
      rintro en w13 ⟨h13, rfl⟩
      refine ⟨_, rfl, h13, ?_⟩
      have hr := smul_range hs1 (cmpI_range n (n' * 2 ^ (e' - e).toNat))
      rw [wrap_i64 (by omega) (by omega)]
      rfl

theorem zCmp_spec {w : World} {a b : Slc} {x y : Int} (ha : RN w a x.natAbs) (hb : RN w b y.natAbs) (la : (digs B32 x.natAbs).length ≤ 2 ^ 46) (lb : (digs B32 y.natAbs).length ≤ 2 ^ 46) :
    Calls pr surdref06_Cmp_id #[.agg (c2 (zb x) a), .agg (c2 (zb y) b)] w fun e w' => Ahead w w' ∧ e = .returned (.int .i64 (cmpZ x y)) := by
  refine surdref06_Cmp_v2 (zb x) a (zb y) b w _ (br_intro (fun hne => br_intro (fun hx => ?_) (fun hx => ?_)) (fun he => ?_))
  · intro w1 x1 a1
    have h1 : x < 0 := of_decide_eq_true hx
    have h2 : ¬ y < 0 := fun h => by
      have e1 : zb y = true := decide_eq_true h
      rw [hx, e1] at hne; simp at hne
    rw [cmpZ, if_pos (by omega)]
  · intro w1 x1 a1
    have h1 : ¬ x < 0 := of_decide_eq_false hx
    have h2 : y < 0 := by
      by_cases h : y < 0
      · exact h
      · have e1 : zb y = false := decide_eq_false h
        rw [hx, e1] at hne; simp at hne
    rw [cmpZ, if_neg (by omega), if_neg (by omega)]
  · have he' : zb x = zb y := by simpa using he
    intro w1 x1 a1
    refine Calls.mono (Cmp_spec (ha.ahead a1) (hb.ahead a1) la lb) ?_
    rintro e w2 ⟨h2, rfl⟩
    have hr := cmpI_range x.natAbs y.natAbs
    refine ⟨_, rfl, h2, br_intro (fun hx => ?_) (fun hx => ?_)⟩
    · have h1 : x < 0 := of_decide_eq_true hx
      have h2 : y < 0 := of_decide_eq_true (he'.symm.trans hx)
      rw [wrap_i64 (by omega) (by omega)]
      congr 2
      unfold cmpI cmpZ
      split <;> (try split) <;> (try split) <;> omega
    · have h1 : ¬ x < 0 := of_decide_eq_false hx
      have h2 : ¬ y < 0 := of_decide_eq_false (he'.symm.trans hx)
      congr 2
      unfold cmpI cmpZ
      split <;> (try split) <;> (try split) <;> omega
theorem dCmp_spec {w : World} {neg neg' : Bool} {s s' : Slc} {n n' : Nat} {e e' : Int} (r : RN w s n) (r' : RN w s' n') (hn : nD neg n = neg) (hn' : nD neg' n' = neg') (hl : (digs B32 n).length + 2 ≤ 2 ^ 45) (hl' : (digs B32 n').length + 2 ≤ 2 ^ 45) (he : far e) (he' : far e') :
    Calls pr surdref08_Cmp_id #[.agg (c3 neg s e), .agg (c3 neg' s' e')] w fun en w' => Ahead w w' ∧ en = .returned (.int .i64 (dcmp (sg neg n) e (sg neg' n') e')) := by
  unfold far at he he'
  have heq := calg_eq neg n e neg' n' e'
  have hb1 : bl n ≤ 2 ^ 51 := by
    have := bl_len32 (ok_digs two32 n)
    rw [val_digs two32] at this
    omega
  have hb2 : bl n' ≤ 2 ^ 51 := by
    have := bl_len32 (ok_digs two32 n')
    rw [val_digs two32] at this
    omega
  have sgs := fun w2 (h : Ahead w w2) => zSign_spec (neg := neg) (r.ahead h)
  have sgs' := fun w2 (h : Ahead w w2) => zSign_spec (neg := neg') (r'.ahead h)
  rw [hn] at sgs
  rw [hn'] at sgs'
  have hs1 := sgn_range neg n
  refine surdref08_Cmp_v2 neg s e neg' s' e' w _ fun w1 x1 a1 => Calls.mono (sgs w1 a1) ?_
  rintro en w2 ⟨h2, rfl⟩
  refine ⟨_, rfl, h2, Calls.mono (sgs' w2 (a1.trans h2)) ?_⟩
  rintro en w3 ⟨h3, rfl⟩
  unfold calg at heq
  refine ⟨_, rfl, h3, br_intro (fun h => br_intro (fun h4 => ?_) (fun h4 => ?_)) (fun h => br_intro (fun h5 => ?_) (fun h5 => ?_))⟩
  · rw [if_pos (of_decide_eq_true h4)] at heq
    rw [heq]
  · have h4' := of_decide_eq_false h4
    have h' : sgn neg n ≠ sgn neg' n' := fun h1 => by rw [h1] at h; simp at h
    rw [if_neg h4', if_pos (by omega)] at heq
    rw [heq]
  · have h' : sgn neg n = sgn neg' n' := by simpa using h
    rw [if_neg (by omega), if_neg (by omega), if_pos (eq_of_beq h5)] at heq
    rw [heq]
  · have h' : sgn neg n = sgn neg' n' := by simpa using h
    have h0 : sgn neg n ≠ 0 := fun h6 => by rw [h6] at h5; simp at h5
    rw [if_neg (by omega), if_neg (by omega), if_neg h0] at heq
    intro w4 x4 a4
    refine Calls.mono (dTop_spec (r.ahead a4) (by omega) (by omega)) ?_
    rintro en w5 ⟨h5', rfl⟩
    have a5 := a4.trans h5'
    refine ⟨_, rfl, h5', Calls.mono (dTop_spec (r'.ahead a5) (by omega) (by omega)) ?_⟩
    rintro en w6 ⟨h6, rfl⟩
    refine ⟨_, rfl, h6, br_intro (fun ht => ?_) (fun ht => br_intro (fun hg => ?_) (fun hg => ?_))⟩
    · have ht' : e + bl n ≠ e' + bl n' := fun h => by
        have : (bl n : Int) - 1 + e = bl n' - 1 + e' := by omega
        rw [this] at ht; simp at ht
      rw [if_pos ht'] at heq
      intro w7 x7 a7
      refine Calls.mono (dTop_spec (r.ahead a7) (by omega) (by omega)) ?_
      rintro en w8 ⟨h8, rfl⟩
      refine ⟨_, rfl, h8, Calls.mono (dTop_spec (r'.ahead (a7.trans h8)) (by omega) (by omega)) ?_⟩
      rintro en w9 ⟨h9, rfl⟩
      refine ⟨_, rfl, h9, br_intro (fun hl => ?_) (fun hl => ?_)⟩
      · have := of_decide_eq_true hl
        rw [if_pos (by omega)] at heq
        rw [wrap_i64 (by omega) (by omega), Int.zero_sub, heq]
      · have := of_decide_eq_false hl
        rw [if_neg (by omega)] at heq
        rw [heq]
    · have ht' : e + bl n = e' + bl n' := by have : (bl n : Int) - 1 + e = bl n' - 1 + e' := by simpa using ht
                                             omega
      have hg' := of_decide_eq_true hg
      intro w10 x10 a10
      rw [wrap_i64 (by omega) (by omega)]
      have hk := shift_room32 (n := n') (n' := n) (k := (e' - e).toNat) (by omega) hl
      have hz := zShift_spec (w := w10) (s := s') (z := sg neg' n') (n := e' - e) (by rw [sg_abs]; exact r'.ahead a10) (by omega) (by omega) (by rw [sg_abs]; omega)
      rw [zb_sg, hn'] at hz
      refine Calls.mono hz ?_
      rintro en w11 ⟨h11, s1, rfl, r1⟩
      have hsz : ((digs B32 (sg neg' n' * 2 ^ (e' - e).toNat).natAbs).length) ≤ 2 ^ 46 := by
        rw [show (2 : Int) ^ (e' - e).toNat = ((2 ^ (e' - e).toNat : Nat) : Int) by push_cast; rfl, sg_mul, sg_abs]
        by_cases h0 : n' = 0
        · rw [h0, Nat.zero_mul, digs_zero]; simp
        · have hb := bl_shl (n := (e' - e).toNat) h0
          have := digs_len_bl32 (N := n' * 2 ^ (e' - e).toNat) (m := 2 ^ 46) (by omega)
          omega
      have hc := zCmp_spec (w := w11) (a := s) (x := sg neg n) (by rw [sg_abs]; exact r.ahead (a10.trans h11)) r1 (by rw [sg_abs]; omega) hsz
      rw [zb_sg, hn] at hc
      refine ⟨_, _, rfl, h11, Calls.mono hc ?_⟩
      rintro en w12 ⟨h12, rfl⟩
      refine ⟨_, rfl, h12, ?_⟩
      rw [dcmp, show min e e' = e by omega, dv, dv, Int.sub_self]
      simp
    · have ht' : e + bl n = e' + bl n' := by have : (bl n : Int) - 1 + e = bl n' - 1 + e' := by simpa using ht
                                             omega
      have hg' := of_decide_eq_false hg
      intro w10 x10 a10
      rw [wrap_i64 (by omega) (by omega)]
      have hk := shift_room32 (n := n) (n' := n') (k := (e - e').toNat) (by omega) hl'
      have hz := zShift_spec (w := w10) (s := s) (z := sg neg n) (n := e - e') (by rw [sg_abs]; exact r.ahead a10) (by omega) (by omega) (by rw [sg_abs]; omega)
      rw [zb_sg, hn] at hz
      refine Calls.mono hz ?_
      rintro en w11 ⟨h11, s1, rfl, r1⟩
      have hsz : ((digs B32 (sg neg n * 2 ^ (e - e').toNat).natAbs).length) ≤ 2 ^ 46 := by
        rw [show (2 : Int) ^ (e - e').toNat = ((2 ^ (e - e').toNat : Nat) : Int) by push_cast; rfl, sg_mul, sg_abs]
        by_cases h0 : n = 0
        · rw [h0, Nat.zero_mul, digs_zero]; simp
        · have hb := bl_shl (n := (e - e').toNat) h0
          have := digs_len_bl32 (N := n * 2 ^ (e - e').toNat) (m := 2 ^ 46) (by omega)
          omega
      have hc := zCmp_spec (w := w11) (b := s') (y := sg neg' n') r1 (by rw [sg_abs]; exact r'.ahead (a10.trans h11)) hsz (by rw [sg_abs]; omega)
      rw [zb_sg neg' n', hn'] at hc
      refine ⟨_, _, rfl, h11, Calls.mono hc ?_⟩
      rintro en w12 ⟨h12, rfl⟩
      refine ⟨_, rfl, h12, ?_⟩
      rw [dcmp, show min e e' = e' by omega, dv, dv, Int.sub_self]
      simp

end Dy
end Go.Proofs.YthhbjhdnaopcnaaDoor
