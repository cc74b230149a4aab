/- What the law leans on, part 4. No condition. -/
import Derived.Test.YtahbekmnphkiiaaDoorZDyadicPolys3
namespace Go.Proofs.YtahbekmnphkiiaaDoor
open Go Go.RowKit Eng
set_option linter.unusedVariables false

def dyadic_right_cut (J0 : Slc → Int → Int → World → Prop) (m0 : Slc → Int → Int → World → Nat) (J2 : Slc → Int → Int → World → Slc → Int → Int → Slc → Int → Int → World → Prop) (m2 : Slc → Int → Int → World → Slc → Int → Int → Slc → Int → Int → World → Nat) : Nat → Option ((Act → World → Prop) × (Act → World → Nat))
  | 0 => some (fun a_ w_ => atSz a_ 25 (atS a_ 7 fun t7 => atI .i64 a_ 8 fun t8 => atI .i64 a_ 9 fun t9 => J0 t7 t8 t9 w_), fun a_ w_ => mS a_ 7 fun t7 => mI a_ 8 fun t8 => mI a_ 9 fun t9 => m0 t7 t8 t9 w_)
  | _ => none

def dyadic_right_cut_0 (J0 : Slc → Int → Int → World → Prop) (m0 : Slc → Int → Int → World → Nat) (J2 : Slc → Int → Int → World → Slc → Int → Int → Slc → Int → Int → World → Prop) (m2 : Slc → Int → Int → World → Slc → Int → Int → Slc → Int → Int → World → Nat) (o_t7 : Slc) (o_t8 : Int) (o_t9 : Int) (o_w_ : World) : Nat → Option ((Act → World → Prop) × (Act → World → Nat))
  | 2 => some (fun a_ w_ => atSz a_ 25 (atS a_ 7 fun t7 => atI .i64 a_ 8 fun t8 => atI .i64 a_ 9 fun t9 => atS a_ 13 fun t13 => atI .i64 a_ 14 fun t14 => atI .i64 a_ 15 fun t15 => J2 o_t7 o_t8 o_t9 o_w_ t7 t8 t9 t13 t14 t15 w_), fun a_ w_ => mS a_ 7 fun t7 => mI a_ 8 fun t8 => mI a_ 9 fun t9 => mS a_ 13 fun t13 => mI a_ 14 fun t14 => mI a_ 15 fun t15 => m2 o_t7 o_t8 o_t9 o_w_ t7 t8 t9 t13 t14 t15 w_)
  | _ => none

set_option maxRecDepth 100000 in
/-- surd/dyadic.right: function 61. -/
theorem dyadic_right_vc (a0_lists : Slc) (w : World) (R : Ending → World → Prop)
    (J0 : Slc → Int → Int → World → Prop) (m0 : Slc → Int → Int → World → Nat) (J2 : Slc → Int → Int → World → Slc → Int → Int → Slc → Int → Int → World → Prop) (m2 : Slc → Int → Int → World → Slc → Int → Int → Slc → Int → Int → World → Nat)
    (h : J0 a0_lists (a0_lists.n : Int) 0 w)
    (h0 : ∀ (t7 : Slc) (t8 : Int) (t9 : Int) (w_ : World), J0 t7 t8 t9 w_ → 
    br (decide (t9 < t8))
    (semA Tryd.prog (Instr.indexAt 121 t7.v (Value.int .i64 t9)) w_ fun ad1 w1 =>
     ldS ad1 w1 fun s1 =>
     J2 t7 t8 t9 w_ t7 t8 t9 s1 (s1.n : Int) 0 w1)
    (R (.returned (Value.int .i64 0)) w_))
    (h2 : ∀ (t7 : Slc) (t8 : Int) (t9 : Int) (w_ : World), J0 t7 t8 t9 w_ → ∀ (t7' : Slc) (t8' : Int) (t9' : Int) (t13' : Slc) (t14' : Int) (t15' : Int) (w__ : World), J2 t7 t8 t9 w_ t7' t8' t9' t13' t14' t15' w__ → 
    br (decide (t15' < t14'))
    (semA Tryd.prog (Instr.indexAt 64 t13'.v (Value.int .i64 t15')) w__ fun ad2 w2 =>
     ldB ad2 w2 fun b1 =>
     ldS (ad2.add 1) w2 fun s2 =>
     ldI .i64 (ad2.add 2) w2 fun x1 =>
     newC w2 #[Value.bool false, (⟨none, 0, 0⟩ : Slc).v, Value.int .i64 0] 39 fun ad3 w3 =>
     stC ad3 (Value.bool b1) w3 fun w4 =>
     stC (ad3.add 1) s2.v w4 fun w5 =>
     stC (ad3.add 2) (Value.int .i64 x1) w5 fun w6 =>
     ldI .i64 (ad3.add 2) w6 fun x2 =>
     Calls Tryd.prog 37 #[Value.int .i64 x2] w6 fun e1 w7 =>
     ∃ b2 : Bool, e1 = .returned (Value.bool b2) ∧
     (br (!b2)
      (R (.returned (Value.int .i64 80)) w7)
      (J2 t7 t8 t9 w_ t7' t8' t9' t13' t14' (IntKind.i64.wrap (t15' + 1)) w7 ∧
       m2 t7 t8 t9 w_ t7' t8' t9' t13' t14' (IntKind.i64.wrap (t15' + 1)) w7 < m2 t7 t8 t9 w_ t7' t8' t9' t13' t14' t15' w__)))
    (J0 t7' t8' (IntKind.i64.wrap (t9' + 1)) w__ ∧
     m0 t7' t8' (IntKind.i64.wrap (t9' + 1)) w__ < m0 t7 t8 t9 w_)) :
    Calls Tryd.prog 61 #[a0_lists.v] w R := by
  refine calls_of_vc (dyadic_right_cut J0 m0 J2 m2) (by kernel_rfl) Tryd.func61 rfl ?_ ?_
  · refine kcast h ?_; kernel_rfl
  · exact (obl_seq rfl (obl_reg (obl_seq rfl (obl_seq rfl (obl_reg (obl_loop _ rfl (fun a_ w_ hL_ => (by
    obtain ⟨hz_, hd_, hL_⟩ := atSz_out hL_
    obtain ⟨t7, h7_, hL_⟩ := atS_out hL_
    obtain ⟨t8, h8_, hL_⟩ := atI_out hL_
    obtain ⟨t9, h9_, hL_⟩ := atI_out hL_
    obtain ⟨g0, rfl⟩ : ∃ g, a_ = Fr 25 [(7, t7.v), (8, Value.int .i64 t8), (9, Value.int .i64 t9)] g := ⟨_, fr_of hz_ hd_ [(7, t7.v), (8, Value.int .i64 t8), (9, Value.int .i64 t9)] (sel_cons h7_ (sel_cons h8_ (sel_cons h9_ sel_nil)))⟩
    clear hz_ hd_ h7_ h8_ h9_
    have hJ0_ := hL_
    refine ⟨(dyadic_right_cut_0 J0 m0 J2 m2 t7 t8 t9 w_), kcast (h0 t7 t8 t9 w_ hJ0_) ?_, ?_⟩
    · kernel_rfl
    · exact (obl_seq rfl (obl_reg (obl_seq rfl (obl_cond (obl_skip (obl_exit (obl_seq rfl (obl_blk rfl (obl_seq rfl (obl_reg (obl_seq rfl (obl_reg (obl_loop _ rfl (fun a_ w__ hL_ => (by
      obtain ⟨hz_, hd_, hL_⟩ := atSz_out hL_
      obtain ⟨t7', h7_, hL_⟩ := atS_out hL_
      obtain ⟨t8', h8_, hL_⟩ := atI_out hL_
      obtain ⟨t9', h9_, hL_⟩ := atI_out hL_
      obtain ⟨t13', h13_, hL_⟩ := atS_out hL_
      obtain ⟨t14', h14_, hL_⟩ := atI_out hL_
      obtain ⟨t15', h15_, hL_⟩ := atI_out hL_
      obtain ⟨g2, rfl⟩ : ∃ g, a_ = Fr 25 [(7, t7'.v), (8, Value.int .i64 t8'), (9, Value.int .i64 t9'), (13, t13'.v), (14, Value.int .i64 t14'), (15, Value.int .i64 t15')] g := ⟨_, fr_of hz_ hd_ [(7, t7'.v), (8, Value.int .i64 t8'), (9, Value.int .i64 t9'), (13, t13'.v), (14, Value.int .i64 t14'), (15, Value.int .i64 t15')] (sel_cons h7_ (sel_cons h8_ (sel_cons h9_ (sel_cons h13_ (sel_cons h14_ (sel_cons h15_ sel_nil))))))⟩
      clear hz_ hd_ h7_ h8_ h9_ h13_ h14_ h15_
      have hJ2_ := hL_
      refine ⟨(fun _ => none), kcast (h2 t7 t8 t9 w_ hJ0_ t7' t8' t9' t13' t14' t15' w__ hJ2_) ?_, ?_⟩
      · kernel_rfl
      · exact (obl_seq rfl (obl_reg (obl_seq rfl (obl_cond (obl_skip (obl_exit (obl_seq rfl (obl_blk rfl (obl_seq rfl (obl_reg (obl_seq rfl (obl_reg (obl_cond (obl_seq rfl (obl_reg (obl_ret (obl_skip (obl_reg trivial)))))))))))))))))))) (obl_reg trivial)))))))))))))))) (obl_seq rfl (obl_reg (obl_ret trivial)))))))))

def dyadic_Sum_cut (J0 : Addr → Addr → Slc → Int → Int → World → Prop) (m0 : Addr → Addr → Slc → Int → Int → World → Nat) : Nat → Option ((Act → World → Prop) × (Act → World → Nat))
  | 0 => some (fun a_ w_ => atSz a_ 34 (atA a_ 2 fun t2 => atA a_ 5 fun t5_s => atS a_ 16 fun t16 => atI .i64 a_ 17 fun t17 => atI .i64 a_ 18 fun t18 => J0 t2 t5_s t16 t17 t18 w_), fun a_ w_ => mA a_ 2 fun t2 => mA a_ 5 fun t5_s => mS a_ 16 fun t16 => mI a_ 17 fun t17 => mI a_ 18 fun t18 => m0 t2 t5_s t16 t17 t18 w_)
  | _ => none

set_option maxRecDepth 100000 in
/-- surd/dyadic.Sum: function 29. -/
theorem dyadic_Sum_vc (a0_l : Slc) (w : World) (R : Ending → World → Prop)
    (J0 : Addr → Addr → Slc → Int → Int → World → Prop) (m0 : Addr → Addr → Slc → Int → Int → World → Nat)
    (h : newC w #[Value.bool false, (⟨none, 0, 0⟩ : Slc).v, Value.int .i64 0] 39 fun ad1 w1 =>
    newC w1 #[a0_l.v] 64 fun ad2 w2 =>
    Calls Tryd.prog 61 #[(⟨some ad2, 1, 1⟩ : Slc).v] w2 fun e1 w3 =>
    ∃ x1 : Int, e1 = .returned (Value.int .i64 x1) ∧
    (br (x1 != 0)
     (stC ad1 (Value.bool false) w3 fun w4 =>
      stC (ad1.add 1) ((⟨none, 0, 0⟩ : Slc).v) w4 fun w5 =>
      stC (ad1.add 2) (Value.int .i64 0) w5 fun w6 =>
      ldB ad1 w6 fun b1 =>
      ldS (ad1.add 1) w6 fun s1 =>
      ldI .i64 (ad1.add 2) w6 fun x2 =>
      R (.returned (Value.tuple #[Value.agg #[Value.bool b1, s1.v, Value.int .i64 x2], Value.int .i64 x1])) w6)
     (newC w3 #[Value.bool false, (⟨none, 0, 0⟩ : Slc).v, Value.int .i64 0] 39 fun ad3 w7 =>
      J0 ad1 ad3 a0_l (a0_l.n : Int) 0 w7)))
    (h0 : ∀ (t2 : Addr) (t5_s : Addr) (t16 : Slc) (t17 : Int) (t18 : Int) (w_ : World), J0 t2 t5_s t16 t17 t18 w_ → 
    br (decide (t18 < t17))
    (semA Tryd.prog (Instr.indexAt 64 t16.v (Value.int .i64 t18)) w_ fun ad4 w8 =>
     ldB ad4 w8 fun b2 =>
     ldS (ad4.add 1) w8 fun s2 =>
     ldI .i64 (ad4.add 2) w8 fun x3 =>
     newC w8 #[Value.bool false, (⟨none, 0, 0⟩ : Slc).v, Value.int .i64 0] 39 fun ad5 w9 =>
     stC ad5 (Value.bool b2) w9 fun w10 =>
     stC (ad5.add 1) s2.v w10 fun w11 =>
     stC (ad5.add 2) (Value.int .i64 x3) w11 fun w12 =>
     ldB t5_s w12 fun b3 =>
     ldS (t5_s.add 1) w12 fun s3 =>
     ldI .i64 (t5_s.add 2) w12 fun x4 =>
     ldB ad5 w12 fun b4 =>
     ldS (ad5.add 1) w12 fun s4 =>
     ldI .i64 (ad5.add 2) w12 fun x5 =>
     Calls Tryd.prog 21 #[Value.agg #[Value.bool b3, s3.v, Value.int .i64 x4], Value.agg #[Value.bool b4, s4.v, Value.int .i64 x5]] w12 fun e2 w13 =>
     ∃ b5 : Bool, ∃ s5 : Slc, ∃ x6 : Int, ∃ x7 : Int, e2 = .returned (Value.tuple #[Value.agg #[Value.bool b5, s5.v, Value.int .i64 x6], Value.int .i64 x7]) ∧
     (stC t5_s (Value.bool b5) w13 fun w14 =>
      stC (t5_s.add 1) s5.v w14 fun w15 =>
      stC (t5_s.add 2) (Value.int .i64 x6) w15 fun w16 =>
      br (x7 != 0)
      (stC t2 (Value.bool false) w16 fun w17 =>
       stC (t2.add 1) ((⟨none, 0, 0⟩ : Slc).v) w17 fun w18 =>
       stC (t2.add 2) (Value.int .i64 0) w18 fun w19 =>
       ldB t2 w19 fun b6 =>
       ldS (t2.add 1) w19 fun s6 =>
       ldI .i64 (t2.add 2) w19 fun x8 =>
       R (.returned (Value.tuple #[Value.agg #[Value.bool b6, s6.v, Value.int .i64 x8], Value.int .i64 x7])) w19)
      (J0 t2 t5_s t16 t17 (IntKind.i64.wrap (t18 + 1)) w16 ∧
       m0 t2 t5_s t16 t17 (IntKind.i64.wrap (t18 + 1)) w16 < m0 t2 t5_s t16 t17 t18 w_)))
    (ldB t5_s w_ fun b7 =>
     ldS (t5_s.add 1) w_ fun s7 =>
     ldI .i64 (t5_s.add 2) w_ fun x9 =>
     stC t2 (Value.bool b7) w_ fun w20 =>
     stC (t2.add 1) s7.v w20 fun w21 =>
     stC (t2.add 2) (Value.int .i64 x9) w21 fun w22 =>
     ldB t2 w22 fun b8 =>
     ldS (t2.add 1) w22 fun s8 =>
     ldI .i64 (t2.add 2) w22 fun x10 =>
     R (.returned (Value.tuple #[Value.agg #[Value.bool b8, s8.v, Value.int .i64 x10], Value.int .i64 0])) w22)) :
    Calls Tryd.prog 29 #[a0_l.v] w R := by
  refine calls_of_vc (dyadic_Sum_cut J0 m0) (by kernel_rfl) Tryd.func29 rfl ?_ ?_
  · refine kcast h ?_; kernel_rfl
  · exact (obl_seq rfl (obl_reg (obl_seq rfl (obl_seq rfl (obl_reg (obl_seq rfl (obl_reg (obl_cond (obl_seq rfl (obl_reg (obl_ret (obl_skip (obl_seq rfl (obl_reg (obl_seq rfl (obl_seq rfl (obl_reg (obl_loop _ rfl (fun a_ w_ hL_ => (by
    obtain ⟨hz_, hd_, hL_⟩ := atSz_out hL_
    obtain ⟨t2, h2_, hL_⟩ := atA_out hL_
    obtain ⟨t5_s, h5_, hL_⟩ := atA_out hL_
    obtain ⟨t16, h16_, hL_⟩ := atS_out hL_
    obtain ⟨t17, h17_, hL_⟩ := atI_out hL_
    obtain ⟨t18, h18_, hL_⟩ := atI_out hL_
    obtain ⟨g0, rfl⟩ : ∃ g, a_ = Fr 34 [(2, Value.pointer (some t2)), (5, Value.pointer (some t5_s)), (16, t16.v), (17, Value.int .i64 t17), (18, Value.int .i64 t18)] g := ⟨_, fr_of hz_ hd_ [(2, Value.pointer (some t2)), (5, Value.pointer (some t5_s)), (16, t16.v), (17, Value.int .i64 t17), (18, Value.int .i64 t18)] (sel_cons h2_ (sel_cons h5_ (sel_cons h16_ (sel_cons h17_ (sel_cons h18_ sel_nil)))))⟩
    clear hz_ hd_ h2_ h5_ h16_ h17_ h18_
    have hJ0_ := hL_
    refine ⟨(fun _ => none), kcast (h0 t2 t5_s t16 t17 t18 w_ hJ0_) ?_, ?_⟩
    · kernel_rfl
    · exact (obl_seq rfl (obl_reg (obl_seq rfl (obl_cond (obl_skip (obl_exit (obl_seq rfl (obl_blk rfl (obl_seq rfl (obl_reg (obl_seq rfl (obl_reg (obl_seq rfl (obl_reg (obl_seq rfl (obl_reg (obl_cond (obl_seq rfl (obl_reg (obl_ret (obl_skip (obl_reg trivial)))))))))))))))))))))))) (obl_seq rfl (obl_reg (obl_ret trivial)))))))))))))))))))))

def dyadic_Dot_cut (J0 : Slc → Slc → Addr → Addr → Int → Int → World → Prop) (m0 : Slc → Slc → Addr → Addr → Int → Int → World → Nat) : Nat → Option ((Act → World → Prop) × (Act → World → Nat))
  | 0 => some (fun a_ w_ => atSz a_ 56 (atS a_ 0 fun t0_a => atS a_ 1 fun t1_b => atA a_ 4 fun t4 => atA a_ 7 fun t7_s => atI .i64 a_ 26 fun t26 => atI .i64 a_ 27 fun t27 => J0 t0_a t1_b t4 t7_s t26 t27 w_), fun a_ w_ => mS a_ 0 fun t0_a => mS a_ 1 fun t1_b => mA a_ 4 fun t4 => mA a_ 7 fun t7_s => mI a_ 26 fun t26 => mI a_ 27 fun t27 => m0 t0_a t1_b t4 t7_s t26 t27 w_)
  | _ => none

set_option maxRecDepth 100000 in
/-- surd/dyadic.Dot: function 30. -/
theorem dyadic_Dot_vc (a0_a : Slc) (a1_b : Slc) (w : World) (R : Ending → World → Prop)
    (J0 : Slc → Slc → Addr → Addr → Int → Int → World → Prop) (m0 : Slc → Slc → Addr → Addr → Int → Int → World → Nat)
    (h : newC w #[Value.bool false, (⟨none, 0, 0⟩ : Slc).v, Value.int .i64 0] 39 fun ad1 w1 =>
    newC w1 #[a0_a.v, a1_b.v] 64 fun ad2 w2 =>
    Calls Tryd.prog 61 #[(⟨some ad2, 2, 2⟩ : Slc).v] w2 fun e1 w3 =>
    ∃ x1 : Int, e1 = .returned (Value.int .i64 x1) ∧
    (br (x1 != 0)
     (stC ad1 (Value.bool false) w3 fun w4 =>
      stC (ad1.add 1) ((⟨none, 0, 0⟩ : Slc).v) w4 fun w5 =>
      stC (ad1.add 2) (Value.int .i64 0) w5 fun w6 =>
      ldB ad1 w6 fun b1 =>
      ldS (ad1.add 1) w6 fun s1 =>
      ldI .i64 (ad1.add 2) w6 fun x2 =>
      R (.returned (Value.tuple #[Value.agg #[Value.bool b1, s1.v, Value.int .i64 x2], Value.int .i64 x1])) w6)
     (br ((a0_a.n : Int) != (a1_b.n : Int))
      (stC ad1 (Value.bool false) w3 fun w7 =>
       stC (ad1.add 1) ((⟨none, 0, 0⟩ : Slc).v) w7 fun w8 =>
       stC (ad1.add 2) (Value.int .i64 0) w8 fun w9 =>
       ldB ad1 w9 fun b2 =>
       ldS (ad1.add 1) w9 fun s2 =>
       ldI .i64 (ad1.add 2) w9 fun x3 =>
       R (.returned (Value.tuple #[Value.agg #[Value.bool b2, s2.v, Value.int .i64 x3], Value.int .i64 1])) w9)
      (newC w3 #[Value.bool false, (⟨none, 0, 0⟩ : Slc).v, Value.int .i64 0] 39 fun ad3 w10 =>
       J0 a0_a a1_b ad1 ad3 (a0_a.n : Int) 0 w10))))
    (h0 : ∀ (t0_a : Slc) (t1_b : Slc) (t4 : Addr) (t7_s : Addr) (t26 : Int) (t27 : Int) (w_ : World), J0 t0_a t1_b t4 t7_s t26 t27 w_ → 
    br (decide (t27 < t26))
    (∃ V1 : Nat → Nat → Prop, anyA Tryd.prog (Instr.indexAt 64 t0_a.v (Value.int .i64 t27)) fun ad4 =>
     Out (V1 3) ad4 (ldB ad4 w_.drew fun b3 =>
      ldS (ad4.add 1) w_.drew fun s3 =>
      ldI .i64 (ad4.add 2) w_.drew fun x4 =>
      anyA Tryd.prog (Instr.indexAt 64 t1_b.v (Value.int .i64 t27)) fun ad5 =>
      Out (V1 7) ad5 (ldB ad5 w_.drew fun b4 =>
       ldS (ad5.add 1) w_.drew fun s4 =>
       ldI .i64 (ad5.add 2) w_.drew fun x5 =>
       (Calls Tryd.prog 11 #[Value.agg #[Value.bool b3, s3.v, Value.int .i64 x4], Value.agg #[Value.bool b4, s4.v, Value.int .i64 x5]] w_.drew fun e2 w11 =>
        ∃ b5 : Bool, ∃ s5 : Slc, ∃ x6 : Int, ∃ x7 : Int, e2 = .returned (Value.tuple #[Value.agg #[Value.bool b5, s5.v, Value.int .i64 x6], Value.int .i64 x7]) ∧
        (newC w11 #[Value.bool false, (⟨none, 0, 0⟩ : Slc).v, Value.int .i64 0] 39 fun ad6 w12 =>
         Bar (V1 3) w11 w12 ∧
         (Bar (V1 7) w11 w12 ∧
          (stC ad6 (Value.bool b5) w12 fun w13 =>
           stC (ad6.add 1) s5.v w13 fun w14 =>
           stC (ad6.add 2) (Value.int .i64 x6) w14 fun w15 =>
           br (x7 == 0)
           (ldB t7_s w15 fun b6 =>
            ldS (t7_s.add 1) w15 fun s6 =>
            ldI .i64 (t7_s.add 2) w15 fun x8 =>
            ldB ad6 w15 fun b7 =>
            ldS (ad6.add 1) w15 fun s7 =>
            ldI .i64 (ad6.add 2) w15 fun x9 =>
            Calls Tryd.prog 21 #[Value.agg #[Value.bool b6, s6.v, Value.int .i64 x8], Value.agg #[Value.bool b7, s7.v, Value.int .i64 x9]] w15 fun e3 w16 =>
            ∃ b8 : Bool, ∃ s8 : Slc, ∃ x10 : Int, ∃ x11 : Int, e3 = .returned (Value.tuple #[Value.agg #[Value.bool b8, s8.v, Value.int .i64 x10], Value.int .i64 x11]) ∧
            (stC t7_s (Value.bool b8) w16 fun w17 =>
             stC (t7_s.add 1) s8.v w17 fun w18 =>
             stC (t7_s.add 2) (Value.int .i64 x10) w18 fun w19 =>
             br (x11 != 0)
             (stC t4 (Value.bool false) w19 fun w20 =>
              stC (t4.add 1) ((⟨none, 0, 0⟩ : Slc).v) w20 fun w21 =>
              stC (t4.add 2) (Value.int .i64 0) w21 fun w22 =>
              ldB t4 w22 fun b9 =>
              ldS (t4.add 1) w22 fun s9 =>
              ldI .i64 (t4.add 2) w22 fun x12 =>
              R (.returned (Value.tuple #[Value.agg #[Value.bool b9, s9.v, Value.int .i64 x12], Value.int .i64 x11])) w22)
             (J0 t0_a t1_b t4 t7_s t26 (IntKind.i64.wrap (t27 + 1)) w19 ∧
              m0 t0_a t1_b t4 t7_s t26 (IntKind.i64.wrap (t27 + 1)) w19 < m0 t0_a t1_b t4 t7_s t26 t27 w_)))
           (br (x7 != 0)
            (stC t4 (Value.bool false) w15 fun w23 =>
             stC (t4.add 1) ((⟨none, 0, 0⟩ : Slc).v) w23 fun w24 =>
             stC (t4.add 2) (Value.int .i64 0) w24 fun w25 =>
             ldB t4 w25 fun b10 =>
             ldS (t4.add 1) w25 fun s10 =>
             ldI .i64 (t4.add 2) w25 fun x13 =>
             R (.returned (Value.tuple #[Value.agg #[Value.bool b10, s10.v, Value.int .i64 x13], Value.int .i64 x7])) w25)
            (J0 t0_a t1_b t4 t7_s t26 (IntKind.i64.wrap (t27 + 1)) w15 ∧
             m0 t0_a t1_b t4 t7_s t26 (IntKind.i64.wrap (t27 + 1)) w15 < m0 t0_a t1_b t4 t7_s t26 t27 w_)))))) ∧
       (newC w_.drew #[Value.bool false, (⟨none, 0, 0⟩ : Slc).v, Value.int .i64 0] 39 fun ad7 w26 =>
        Bar (V1 3) w_.drew w26 ∧
        (Bar (V1 7) w_.drew w26 ∧
         (Calls Tryd.prog 11 #[Value.agg #[Value.bool b3, s3.v, Value.int .i64 x4], Value.agg #[Value.bool b4, s4.v, Value.int .i64 x5]] w26 fun e4 w27 =>
          ∃ b11 : Bool, ∃ s11 : Slc, ∃ x14 : Int, ∃ x15 : Int, e4 = .returned (Value.tuple #[Value.agg #[Value.bool b11, s11.v, Value.int .i64 x14], Value.int .i64 x15]) ∧
          (stC ad7 (Value.bool b11) w27 fun w28 =>
           stC (ad7.add 1) s11.v w28 fun w29 =>
           stC (ad7.add 2) (Value.int .i64 x14) w29 fun w30 =>
           br (x15 == 0)
           (ldB t7_s w30 fun b12 =>
            ldS (t7_s.add 1) w30 fun s12 =>
            ldI .i64 (t7_s.add 2) w30 fun x16 =>
            ldB ad7 w30 fun b13 =>
            ldS (ad7.add 1) w30 fun s13 =>
            ldI .i64 (ad7.add 2) w30 fun x17 =>
            Calls Tryd.prog 21 #[Value.agg #[Value.bool b12, s12.v, Value.int .i64 x16], Value.agg #[Value.bool b13, s13.v, Value.int .i64 x17]] w30 fun e5 w31 =>
            ∃ b14 : Bool, ∃ s14 : Slc, ∃ x18 : Int, ∃ x19 : Int, e5 = .returned (Value.tuple #[Value.agg #[Value.bool b14, s14.v, Value.int .i64 x18], Value.int .i64 x19]) ∧
            (stC t7_s (Value.bool b14) w31 fun w32 =>
             stC (t7_s.add 1) s14.v w32 fun w33 =>
             stC (t7_s.add 2) (Value.int .i64 x18) w33 fun w34 =>
             br (x19 != 0)
             (stC t4 (Value.bool false) w34 fun w35 =>
              stC (t4.add 1) ((⟨none, 0, 0⟩ : Slc).v) w35 fun w36 =>
              stC (t4.add 2) (Value.int .i64 0) w36 fun w37 =>
              ldB t4 w37 fun b15 =>
              ldS (t4.add 1) w37 fun s15 =>
              ldI .i64 (t4.add 2) w37 fun x20 =>
              R (.returned (Value.tuple #[Value.agg #[Value.bool b15, s15.v, Value.int .i64 x20], Value.int .i64 x19])) w37)
             (J0 t0_a t1_b t4 t7_s t26 (IntKind.i64.wrap (t27 + 1)) w34 ∧
              m0 t0_a t1_b t4 t7_s t26 (IntKind.i64.wrap (t27 + 1)) w34 < m0 t0_a t1_b t4 t7_s t26 t27 w_)))
           (br (x15 != 0)
            (stC t4 (Value.bool false) w30 fun w38 =>
             stC (t4.add 1) ((⟨none, 0, 0⟩ : Slc).v) w38 fun w39 =>
             stC (t4.add 2) (Value.int .i64 0) w39 fun w40 =>
             ldB t4 w40 fun b16 =>
             ldS (t4.add 1) w40 fun s16 =>
             ldI .i64 (t4.add 2) w40 fun x21 =>
             R (.returned (Value.tuple #[Value.agg #[Value.bool b16, s16.v, Value.int .i64 x21], Value.int .i64 x15])) w40)
            (J0 t0_a t1_b t4 t7_s t26 (IntKind.i64.wrap (t27 + 1)) w30 ∧
             m0 t0_a t1_b t4 t7_s t26 (IntKind.i64.wrap (t27 + 1)) w30 < m0 t0_a t1_b t4 t7_s t26 t27 w_)))))))))
    (ldB t7_s w_ fun b17 =>
     ldS (t7_s.add 1) w_ fun s17 =>
     ldI .i64 (t7_s.add 2) w_ fun x22 =>
     stC t4 (Value.bool b17) w_ fun w41 =>
     stC (t4.add 1) s17.v w41 fun w42 =>
     stC (t4.add 2) (Value.int .i64 x22) w42 fun w43 =>
     ldB t4 w43 fun b18 =>
     ldS (t4.add 1) w43 fun s18 =>
     ldI .i64 (t4.add 2) w43 fun x23 =>
     R (.returned (Value.tuple #[Value.agg #[Value.bool b18, s18.v, Value.int .i64 x23], Value.int .i64 0])) w43)) :
    Calls Tryd.prog 30 #[a0_a.v, a1_b.v] w R := by
  refine calls_of_vc (marks [2000010] (dyadic_Dot_cut J0 m0)) (by kernel_rfl) Tryd.func30 rfl ?_ ?_
  · refine kcast h ?_; kernel_rfl
  · exact (obl_seq rfl (obl_reg (obl_seq rfl (obl_seq rfl (obl_reg (obl_seq rfl (obl_reg (obl_cond (obl_seq rfl (obl_reg (obl_ret (obl_skip (obl_seq rfl (obl_seq rfl (obl_reg (obl_cond (obl_seq rfl (obl_reg (obl_ret (obl_skip (obl_seq rfl (obl_reg (obl_seq rfl (obl_seq rfl (obl_reg (obl_loop _ rfl (fun a_ w_ hL_ => (by
    obtain ⟨hz_, hd_, hL_⟩ := atSz_out hL_
    obtain ⟨t0_a, h0_, hL_⟩ := atS_out hL_
    obtain ⟨t1_b, h1_, hL_⟩ := atS_out hL_
    obtain ⟨t4, h4_, hL_⟩ := atA_out hL_
    obtain ⟨t7_s, h7_, hL_⟩ := atA_out hL_
    obtain ⟨t26, h26_, hL_⟩ := atI_out hL_
    obtain ⟨t27, h27_, hL_⟩ := atI_out hL_
    obtain ⟨g0, rfl⟩ : ∃ g, a_ = Fr 56 [(0, t0_a.v), (1, t1_b.v), (4, Value.pointer (some t4)), (7, Value.pointer (some t7_s)), (26, Value.int .i64 t26), (27, Value.int .i64 t27)] g := ⟨_, fr_of hz_ hd_ [(0, t0_a.v), (1, t1_b.v), (4, Value.pointer (some t4)), (7, Value.pointer (some t7_s)), (26, Value.int .i64 t26), (27, Value.int .i64 t27)] (sel_cons h0_ (sel_cons h1_ (sel_cons h4_ (sel_cons h7_ (sel_cons h26_ (sel_cons h27_ sel_nil))))))⟩
    clear hz_ hd_ h0_ h1_ h4_ h7_ h26_ h27_
    have hJ0_ := hL_
    refine ⟨(marks [2000010] (fun _ => none)), kcast (h0 t0_a t1_b t4 t7_s t26 t27 w_ hJ0_) ?_, ?_⟩
    · kernel_rfl
    · exact (obl_seq rfl (obl_reg (obl_seq rfl (obl_cond (obl_skip (obl_exit (obl_seq rfl (obl_blk rfl (obl_seq rfl (obl_reg (obl_seq rfl (obl_store _ rfl (by kernel_rfl) (obl_seq rfl (obl_seq rfl (obl_reg (obl_cond (obl_reg (obl_skip (obl_seq rfl (obl_reg (obl_cond (obl_seq rfl (obl_reg (obl_ret (obl_skip (obl_reg trivial)))))))))))))))))))))))))))) (obl_seq rfl (obl_reg (obl_ret trivial)))))))))))))))))))))))))))))

def dyadic_Value_cut (J0 : Slc → Addr → Addr → Addr → Int → World → Prop) (m0 : Slc → Addr → Addr → Addr → Int → World → Nat) : Nat → Option ((Act → World → Prop) × (Act → World → Nat))
  | 0 => some (fun a_ w_ => atSz a_ 53 (atS a_ 0 fun t0_c => atA a_ 3 fun t3_x => atA a_ 4 fun t4 => atA a_ 7 fun t7_s => atI .i64 a_ 8 fun t8_i => J0 t0_c t3_x t4 t7_s t8_i w_), fun a_ w_ => mS a_ 0 fun t0_c => mA a_ 3 fun t3_x => mA a_ 4 fun t4 => mA a_ 7 fun t7_s => mI a_ 8 fun t8_i => m0 t0_c t3_x t4 t7_s t8_i w_)
  | _ => none

set_option maxRecDepth 100000 in
/-- surd/dyadic.Value: function 31. -/
theorem dyadic_Value_vc (a0_c : Slc) (a1_x_0 : Bool) (a1_x_1 : Slc) (a1_x_2 : Int) (w : World) (R : Ending → World → Prop)
    (J0 : Slc → Addr → Addr → Addr → Int → World → Prop) (m0 : Slc → Addr → Addr → Addr → Int → World → Nat)
    (h : newC w #[Value.bool a1_x_0, a1_x_1.v, Value.int .i64 a1_x_2] 39 fun ad1 w1 =>
    newC w1 #[Value.bool false, (⟨none, 0, 0⟩ : Slc).v, Value.int .i64 0] 39 fun ad2 w2 =>
    br (decide ((a0_c.n : Int) > 1000))
    (stC ad2 (Value.bool false) w2 fun w3 =>
     stC (ad2.add 1) ((⟨none, 0, 0⟩ : Slc).v) w3 fun w4 =>
     stC (ad2.add 2) (Value.int .i64 0) w4 fun w5 =>
     ldB ad2 w5 fun b1 =>
     ldS (ad2.add 1) w5 fun s1 =>
     ldI .i64 (ad2.add 2) w5 fun x1 =>
     R (.returned (Value.tuple #[Value.agg #[Value.bool b1, s1.v, Value.int .i64 x1], Value.int .i64 1])) w5)
    (ldB ad1 w2 fun b2 =>
     ldS (ad1.add 1) w2 fun s2 =>
     ldI .i64 (ad1.add 2) w2 fun x2 =>
     newC w2 #[Value.bool b2, s2.v, Value.int .i64 x2] 39 fun ad3 w6 =>
     newC w6 #[a0_c.v, (⟨some ad3, 1, 1⟩ : Slc).v] 64 fun ad4 w7 =>
     Calls Tryd.prog 61 #[(⟨some ad4, 2, 2⟩ : Slc).v] w7 fun e1 w8 =>
     ∃ x3 : Int, e1 = .returned (Value.int .i64 x3) ∧
     (br (x3 != 0)
      (stC ad2 (Value.bool false) w8 fun w9 =>
       stC (ad2.add 1) ((⟨none, 0, 0⟩ : Slc).v) w9 fun w10 =>
       stC (ad2.add 2) (Value.int .i64 0) w10 fun w11 =>
       ldB ad2 w11 fun b3 =>
       ldS (ad2.add 1) w11 fun s3 =>
       ldI .i64 (ad2.add 2) w11 fun x4 =>
       R (.returned (Value.tuple #[Value.agg #[Value.bool b3, s3.v, Value.int .i64 x4], Value.int .i64 x3])) w11)
      (newC w8 #[Value.bool false, (⟨none, 0, 0⟩ : Slc).v, Value.int .i64 0] 39 fun ad5 w12 =>
       J0 a0_c ad1 ad2 ad5 (IntKind.i64.wrap ((a0_c.n : Int) - 1)) w12))))
    (h0 : ∀ (t0_c : Slc) (t3_x : Addr) (t4 : Addr) (t7_s : Addr) (t8_i : Int) (w_ : World), J0 t0_c t3_x t4 t7_s t8_i w_ → 
    br (decide (t8_i ≥ 0))
    (ldB t7_s w_ fun b4 =>
     ldS (t7_s.add 1) w_ fun s4 =>
     ldI .i64 (t7_s.add 2) w_ fun x5 =>
     ldB t3_x w_ fun b5 =>
     ldS (t3_x.add 1) w_ fun s5 =>
     ldI .i64 (t3_x.add 2) w_ fun x6 =>
     Calls Tryd.prog 11 #[Value.agg #[Value.bool b4, s4.v, Value.int .i64 x5], Value.agg #[Value.bool b5, s5.v, Value.int .i64 x6]] w_ fun e2 w13 =>
     ∃ b6 : Bool, ∃ s6 : Slc, ∃ x7 : Int, ∃ x8 : Int, e2 = .returned (Value.tuple #[Value.agg #[Value.bool b6, s6.v, Value.int .i64 x7], Value.int .i64 x8]) ∧
     (newC w13 #[Value.bool false, (⟨none, 0, 0⟩ : Slc).v, Value.int .i64 0] 39 fun ad6 w14 =>
      stC ad6 (Value.bool b6) w14 fun w15 =>
      stC (ad6.add 1) s6.v w15 fun w16 =>
      stC (ad6.add 2) (Value.int .i64 x7) w16 fun w17 =>
      br (x8 == 0)
      (∃ V1 : Nat → Nat → Prop, Out (V1 0) ad6 (ldB ad6 w17.drew fun b7 =>
        ldS (ad6.add 1) w17.drew fun s7 =>
        ldI .i64 (ad6.add 2) w17.drew fun x9 =>
        anyA Tryd.prog (Instr.indexAt 64 t0_c.v (Value.int .i64 t8_i)) fun ad7 =>
        Out (V1 4) ad7 (ldB ad7 w17.drew fun b8 =>
         ldS (ad7.add 1) w17.drew fun s8 =>
         ldI .i64 (ad7.add 2) w17.drew fun x10 =>
         Calls Tryd.prog 21 #[Value.agg #[Value.bool b7, s7.v, Value.int .i64 x9], Value.agg #[Value.bool b8, s8.v, Value.int .i64 x10]] w17.drew fun e3 w18 =>
         ∃ b9 : Bool, ∃ s9 : Slc, ∃ x11 : Int, ∃ x12 : Int, e3 = .returned (Value.tuple #[Value.agg #[Value.bool b9, s9.v, Value.int .i64 x11], Value.int .i64 x12]) ∧
         (stC t7_s (Value.bool b9) w18 fun w19 =>
          stC (t7_s.add 1) s9.v w19 fun w20 =>
          stC (t7_s.add 2) (Value.int .i64 x11) w20 fun w21 =>
          br (x12 != 0)
          (stC t4 (Value.bool false) w21 fun w22 =>
           stC (t4.add 1) ((⟨none, 0, 0⟩ : Slc).v) w22 fun w23 =>
           stC (t4.add 2) (Value.int .i64 0) w23 fun w24 =>
           ldB t4 w24 fun b10 =>
           ldS (t4.add 1) w24 fun s10 =>
           ldI .i64 (t4.add 2) w24 fun x13 =>
           R (.returned (Value.tuple #[Value.agg #[Value.bool b10, s10.v, Value.int .i64 x13], Value.int .i64 x12])) w24)
          (J0 t0_c t3_x t4 t7_s (IntKind.i64.wrap (t8_i - 1)) w21 ∧
           m0 t0_c t3_x t4 t7_s (IntKind.i64.wrap (t8_i - 1)) w21 < m0 t0_c t3_x t4 t7_s t8_i w_)))))
      (br (x8 != 0)
       (stC t4 (Value.bool false) w17 fun w25 =>
        stC (t4.add 1) ((⟨none, 0, 0⟩ : Slc).v) w25 fun w26 =>
        stC (t4.add 2) (Value.int .i64 0) w26 fun w27 =>
        ldB t4 w27 fun b11 =>
        ldS (t4.add 1) w27 fun s11 =>
        ldI .i64 (t4.add 2) w27 fun x14 =>
        R (.returned (Value.tuple #[Value.agg #[Value.bool b11, s11.v, Value.int .i64 x14], Value.int .i64 x8])) w27)
       (J0 t0_c t3_x t4 t7_s (IntKind.i64.wrap (t8_i - 1)) w17 ∧
        m0 t0_c t3_x t4 t7_s (IntKind.i64.wrap (t8_i - 1)) w17 < m0 t0_c t3_x t4 t7_s t8_i w_))))
    (ldB t7_s w_ fun b12 =>
     ldS (t7_s.add 1) w_ fun s12 =>
     ldI .i64 (t7_s.add 2) w_ fun x15 =>
     stC t4 (Value.bool b12) w_ fun w28 =>
     stC (t4.add 1) s12.v w28 fun w29 =>
     stC (t4.add 2) (Value.int .i64 x15) w29 fun w30 =>
     ldB t4 w30 fun b13 =>
     ldS (t4.add 1) w30 fun s13 =>
     ldI .i64 (t4.add 2) w30 fun x16 =>
     R (.returned (Value.tuple #[Value.agg #[Value.bool b13, s13.v, Value.int .i64 x16], Value.int .i64 0])) w30)) :
    Calls Tryd.prog 31 #[a0_c.v, Value.agg #[Value.bool a1_x_0, a1_x_1.v, Value.int .i64 a1_x_2]] w R := by
  refine calls_of_vc (marks [2000012] (dyadic_Value_cut J0 m0)) (by kernel_rfl) Tryd.func31 rfl ?_ ?_
  · refine kcast h ?_; kernel_rfl
  · exact (obl_seq rfl (obl_reg (obl_seq rfl (obl_seq rfl (obl_reg (obl_cond (obl_seq rfl (obl_reg (obl_ret (obl_skip (obl_seq rfl (obl_seq rfl (obl_reg (obl_seq rfl (obl_reg (obl_cond (obl_seq rfl (obl_reg (obl_ret (obl_skip (obl_seq rfl (obl_reg (obl_seq rfl (obl_seq rfl (obl_reg (obl_loop _ rfl (fun a_ w_ hL_ => (by
    obtain ⟨hz_, hd_, hL_⟩ := atSz_out hL_
    obtain ⟨t0_c, h0_, hL_⟩ := atS_out hL_
    obtain ⟨t3_x, h3_, hL_⟩ := atA_out hL_
    obtain ⟨t4, h4_, hL_⟩ := atA_out hL_
    obtain ⟨t7_s, h7_, hL_⟩ := atA_out hL_
    obtain ⟨t8_i, h8_, hL_⟩ := atI_out hL_
    obtain ⟨g0, rfl⟩ : ∃ g, a_ = Fr 53 [(0, t0_c.v), (3, Value.pointer (some t3_x)), (4, Value.pointer (some t4)), (7, Value.pointer (some t7_s)), (8, Value.int .i64 t8_i)] g := ⟨_, fr_of hz_ hd_ [(0, t0_c.v), (3, Value.pointer (some t3_x)), (4, Value.pointer (some t4)), (7, Value.pointer (some t7_s)), (8, Value.int .i64 t8_i)] (sel_cons h0_ (sel_cons h3_ (sel_cons h4_ (sel_cons h7_ (sel_cons h8_ sel_nil)))))⟩
    clear hz_ hd_ h0_ h3_ h4_ h7_ h8_
    have hJ0_ := hL_
    refine ⟨(marks [2000012] (fun _ => none)), kcast (h0 t0_c t3_x t4 t7_s t8_i w_ hJ0_) ?_, ?_⟩
    · kernel_rfl
    · exact (obl_seq rfl (obl_seq rfl (obl_reg (obl_cond (obl_skip (obl_exit (obl_seq rfl (obl_blk rfl (obl_seq rfl (obl_reg (obl_seq rfl (obl_seq rfl (obl_reg (obl_cond (obl_store _ rfl (by kernel_rfl) (obl_skip (obl_seq rfl (obl_reg (obl_cond (obl_seq rfl (obl_reg (obl_ret (obl_skip (obl_reg trivial)))))))))))))))))))))))))) (obl_seq rfl (obl_reg (obl_ret trivial)))))))))))))))))))))))))))))

def surdlaw08_DyadicPolys_cut (J0 : Slc → Slc → Addr → Slc → Slc → Slc → Slc → Int → Int → World → Prop) (m0 : Slc → Slc → Addr → Slc → Slc → Slc → Slc → Int → Int → World → Nat) (K11 : Slc → Slc → Addr → Slc → Slc → Slc → Slc → Int → Int → World → Slc → Slc → Addr → Slc → Slc → Slc → Slc → Int → Addr → Addr → Int → Int → World → Prop) (K13 : Slc → Slc → Addr → Slc → Slc → Slc → Slc → Int → Int → World → Slc → Slc → Addr → Slc → Slc → Slc → Slc → Addr → Addr → Int → Int → World → Prop) (K28 : Addr → Int → Addr → Int → Addr → Int → World → Prop) : Nat → Option ((Act → World → Prop) × (Act → World → Nat))
  | 0 => some (fun a_ w_ => atSz a_ 185 (atS a_ 0 fun t0 => atS a_ 1 fun t1 => atA a_ 5 fun t5 => atS a_ 7 fun t7 => atS a_ 8 fun t8 => atS a_ 9 fun t9 => atS a_ 10 fun t10 => atI .i64 a_ 45 fun t45 => atI .i64 a_ 46 fun t46 => J0 t0 t1 t5 t7 t8 t9 t10 t45 t46 w_), fun a_ w_ => mS a_ 0 fun t0 => mS a_ 1 fun t1 => mA a_ 5 fun t5 => mS a_ 7 fun t7 => mS a_ 8 fun t8 => mS a_ 9 fun t9 => mS a_ 10 fun t10 => mI a_ 45 fun t45 => mI a_ 46 fun t46 => m0 t0 t1 t5 t7 t8 t9 t10 t45 t46 w_)
  | 3000028 => some (fun a_ w_ => atSz a_ 185 (atA a_ 24 fun t24 => atI .i64 a_ 25 fun t25 => atA a_ 26 fun t26 => atI .i64 a_ 27 fun t27 => atA a_ 28 fun t28 => atI .i64 a_ 29 fun t29 => K28 t24 t25 t26 t27 t28 t29 w_), fun _ _ => 0)
  | _ => none

def surdlaw08_DyadicPolys_cut_0 (J0 : Slc → Slc → Addr → Slc → Slc → Slc → Slc → Int → Int → World → Prop) (m0 : Slc → Slc → Addr → Slc → Slc → Slc → Slc → Int → Int → World → Nat) (K11 : Slc → Slc → Addr → Slc → Slc → Slc → Slc → Int → Int → World → Slc → Slc → Addr → Slc → Slc → Slc → Slc → Int → Addr → Addr → Int → Int → World → Prop) (K13 : Slc → Slc → Addr → Slc → Slc → Slc → Slc → Int → Int → World → Slc → Slc → Addr → Slc → Slc → Slc → Slc → Addr → Addr → Int → Int → World → Prop) (K28 : Addr → Int → Addr → Int → Addr → Int → World → Prop) (o_t0 : Slc) (o_t1 : Slc) (o_t5 : Addr) (o_t7 : Slc) (o_t8 : Slc) (o_t9 : Slc) (o_t10 : Slc) (o_t45 : Int) (o_t46 : Int) (o_w_ : World) : Nat → Option ((Act → World → Prop) × (Act → World → Nat))
  | 3000011 => some (fun a_ w_ => atSz a_ 185 (atS a_ 0 fun t0 => atS a_ 1 fun t1 => atA a_ 5 fun t5 => atS a_ 7 fun t7 => atS a_ 8 fun t8 => atS a_ 9 fun t9 => atS a_ 10 fun t10 => atI .i64 a_ 11 fun t11 => atA a_ 12 fun t12 => atA a_ 13 fun t13 => atI .i64 a_ 45 fun t45 => atI .i64 a_ 46 fun t46 => K11 o_t0 o_t1 o_t5 o_t7 o_t8 o_t9 o_t10 o_t45 o_t46 o_w_ t0 t1 t5 t7 t8 t9 t10 t11 t12 t13 t45 t46 w_), fun _ _ => 0)
  | 3000013 => some (fun a_ w_ => atSz a_ 185 (atS a_ 0 fun t0 => atS a_ 1 fun t1 => atA a_ 5 fun t5 => atS a_ 7 fun t7 => atS a_ 8 fun t8 => atS a_ 9 fun t9 => atS a_ 10 fun t10 => atA a_ 12 fun t12 => atA a_ 13 fun t13 => atI .i64 a_ 45 fun t45 => atI .i64 a_ 46 fun t46 => K13 o_t0 o_t1 o_t5 o_t7 o_t8 o_t9 o_t10 o_t45 o_t46 o_w_ t0 t1 t5 t7 t8 t9 t10 t12 t13 t45 t46 w_), fun _ _ => 0)
  | _ => none

set_option maxRecDepth 100000 in
/-- surd/surdlaw08.DyadicPolys: function 5. -/
theorem surdlaw08_DyadicPolys_vc (a0 : Slc) (a1 : Slc) (a2_0 : Bool) (a2_1 : Slc) (a2_2 : Int) (w : World) (R : Ending → World → Prop)
    (J0 : Slc → Slc → Addr → Slc → Slc → Slc → Slc → Int → Int → World → Prop) (m0 : Slc → Slc → Addr → Slc → Slc → Slc → Slc → Int → Int → World → Nat) (K11 : Slc → Slc → Addr → Slc → Slc → Slc → Slc → Int → Int → World → Slc → Slc → Addr → Slc → Slc → Slc → Slc → Int → Addr → Addr → Int → Int → World → Prop) (K13 : Slc → Slc → Addr → Slc → Slc → Slc → Slc → Int → Int → World → Slc → Slc → Addr → Slc → Slc → Slc → Slc → Addr → Addr → Int → Int → World → Prop) (K28 : Addr → Int → Addr → Int → Addr → Int → World → Prop)
    (h : newC w #[Value.bool a2_0, a2_1.v, Value.int .i64 a2_2] 24 fun ad1 w1 =>
    br (decide ((a0.n : Int) > 1000))
    (Calls Tryd.prog 8 #[] w1 fun e1 w2 =>
     ∃ b1 : Bool, e1 = .returned (Value.bool b1) ∧
     (R (.returned (Value.bool b1)) w2))
    (br (decide ((a1.n : Int) > 1000))
     (Calls Tryd.prog 8 #[] w1 fun e2 w3 =>
      ∃ b2 : Bool, e2 = .returned (Value.bool b2) ∧
      (R (.returned (Value.bool b2)) w3))
     (J0 a0 a1 ad1 (⟨none, 0, 0⟩ : Slc) (⟨none, 0, 0⟩ : Slc) (⟨none, 0, 0⟩ : Slc) (⟨none, 0, 0⟩ : Slc) (maxI (a0.n : Int) (a1.n : Int)) 0 w1)))
    (h0 : ∀ (t0 : Slc) (t1 : Slc) (t5 : Addr) (t7 : Slc) (t8 : Slc) (t9 : Slc) (t10 : Slc) (t45 : Int) (t46 : Int) (w_ : World), J0 t0 t1 t5 t7 t8 t9 t10 t45 t46 w_ → 
    br (decide (t46 < t45))
    (newC w_ #[Value.bool false, (⟨none, 0, 0⟩ : Slc).v, Value.int .i64 0] 39 fun ad2 w4 =>
     newC w4 #[Value.bool false, (⟨none, 0, 0⟩ : Slc).v, Value.int .i64 0] 39 fun ad3 w5 =>
     stC ad2 (Value.bool false) w5 fun w6 =>
     stC (ad2.add 1) ((⟨none, 0, 0⟩ : Slc).v) w6 fun w7 =>
     stC (ad2.add 2) (Value.int .i64 0) w7 fun w8 =>
     stC ad3 (Value.bool false) w8 fun w9 =>
     stC (ad3.add 1) ((⟨none, 0, 0⟩ : Slc).v) w9 fun w10 =>
     stC (ad3.add 2) (Value.int .i64 0) w10 fun w11 =>
     br (decide (t46 < (t0.n : Int)))
     (semA Tryd.prog (Instr.indexAt 63 t0.v (Value.int .i64 t46)) w11 fun ad4 w12 =>
      ldB ad4 w12 fun b3 =>
      ldS (ad4.add 1) w12 fun s1 =>
      ldI .i64 (ad4.add 2) w12 fun x1 =>
      Calls Tryd.prog 12 #[Value.agg #[Value.bool b3, s1.v, Value.int .i64 x1]] w12 fun e3 w13 =>
      ∃ b4 : Bool, ∃ s2 : Slc, ∃ x2 : Int, e3 = .returned (Value.agg #[Value.bool b4, s2.v, Value.int .i64 x2]) ∧
      (stC ad2 (Value.bool b4) w13 fun w14 =>
       stC (ad2.add 1) s2.v w14 fun w15 =>
       stC (ad2.add 2) (Value.int .i64 x2) w15 fun w16 =>
       K11 t0 t1 t5 t7 t8 t9 t10 t45 t46 w_ t0 t1 t5 t7 t8 t9 t10 t46 ad2 ad3 t45 t46 w16))
     (K11 t0 t1 t5 t7 t8 t9 t10 t45 t46 w_ t0 t1 t5 t7 t8 t9 t10 t46 ad2 ad3 t45 t46 w11))
    (Calls Tryd.prog 29 #[t7.v] w_ fun e8 w126 =>
     ∃ b29 : Bool, ∃ s82 : Slc, ∃ x28 : Int, ∃ x29 : Int, e8 = .returned (Value.tuple #[Value.agg #[Value.bool b29, s82.v, Value.int .i64 x28], Value.int .i64 x29]) ∧
     (newC w126 #[Value.bool false, (⟨none, 0, 0⟩ : Slc).v, Value.int .i64 0] 39 fun ad48 w127 =>
      stC ad48 (Value.bool b29) w127 fun w128 =>
      stC (ad48.add 1) s82.v w128 fun w129 =>
      stC (ad48.add 2) (Value.int .i64 x28) w129 fun w130 =>
      Calls Tryd.prog 29 #[t9.v] w130 fun e9 w131 =>
      ∃ b30 : Bool, ∃ s83 : Slc, ∃ x30 : Int, ∃ x31 : Int, e9 = .returned (Value.tuple #[Value.agg #[Value.bool b30, s83.v, Value.int .i64 x30], Value.int .i64 x31]) ∧
      (newC w131 #[Value.bool false, (⟨none, 0, 0⟩ : Slc).v, Value.int .i64 0] 39 fun ad49 w132 =>
       stC ad49 (Value.bool b30) w132 fun w133 =>
       stC (ad49.add 1) s83.v w133 fun w134 =>
       stC (ad49.add 2) (Value.int .i64 x30) w134 fun w135 =>
       Calls Tryd.prog 30 #[t7.v, t8.v] w135 fun e10 w136 =>
       ∃ b31 : Bool, ∃ s84 : Slc, ∃ x32 : Int, ∃ x33 : Int, e10 = .returned (Value.tuple #[Value.agg #[Value.bool b31, s84.v, Value.int .i64 x32], Value.int .i64 x33]) ∧
       (newC w136 #[Value.bool false, (⟨none, 0, 0⟩ : Slc).v, Value.int .i64 0] 39 fun ad50 w137 =>
        stC ad50 (Value.bool b31) w137 fun w138 =>
        stC (ad50.add 1) s84.v w138 fun w139 =>
        stC (ad50.add 2) (Value.int .i64 x32) w139 fun w140 =>
        Calls Tryd.prog 30 #[t8.v, t7.v] w140 fun e11 w141 =>
        ∃ b32 : Bool, ∃ s85 : Slc, ∃ x34 : Int, ∃ x35 : Int, e11 = .returned (Value.tuple #[Value.agg #[Value.bool b32, s85.v, Value.int .i64 x34], Value.int .i64 x35]) ∧
        (newC w141 #[Value.bool false, (⟨none, 0, 0⟩ : Slc).v, Value.int .i64 0] 39 fun ad51 w142 =>
         stC ad51 (Value.bool b32) w142 fun w143 =>
         stC (ad51.add 1) s85.v w143 fun w144 =>
         stC (ad51.add 2) (Value.int .i64 x34) w144 fun w145 =>
         ldB t5 w145 fun b33 =>
         ldS (t5.add 1) w145 fun s86 =>
         ldI .i64 (t5.add 2) w145 fun x36 =>
         Calls Tryd.prog 12 #[Value.agg #[Value.bool b33, s86.v, Value.int .i64 x36]] w145 fun e12 w146 =>
         ∃ b34 : Bool, ∃ s87 : Slc, ∃ x37 : Int, e12 = .returned (Value.agg #[Value.bool b34, s87.v, Value.int .i64 x37]) ∧
         (Calls Tryd.prog 31 #[t7.v, Value.agg #[Value.bool b34, s87.v, Value.int .i64 x37]] w146 fun e13 w147 =>
          ∃ b35 : Bool, ∃ s88 : Slc, ∃ x38 : Int, ∃ x39 : Int, e13 = .returned (Value.tuple #[Value.agg #[Value.bool b35, s88.v, Value.int .i64 x38], Value.int .i64 x39]) ∧
          (newC w147 #[Value.bool false, (⟨none, 0, 0⟩ : Slc).v, Value.int .i64 0] 39 fun ad52 w148 =>
           stC ad52 (Value.bool b35) w148 fun w149 =>
           stC (ad52.add 1) s88.v w149 fun w150 =>
           stC (ad52.add 2) (Value.int .i64 x38) w150 fun w151 =>
           ldB t5 w151 fun b36 =>
           ldS (t5.add 1) w151 fun s89 =>
           ldI .i64 (t5.add 2) w151 fun x40 =>
           Calls Tryd.prog 12 #[Value.agg #[Value.bool b36, s89.v, Value.int .i64 x40]] w151 fun e14 w152 =>
           ∃ b37 : Bool, ∃ s90 : Slc, ∃ x41 : Int, e14 = .returned (Value.agg #[Value.bool b37, s90.v, Value.int .i64 x41]) ∧
           (Calls Tryd.prog 31 #[t8.v, Value.agg #[Value.bool b37, s90.v, Value.int .i64 x41]] w152 fun e15 w153 =>
            ∃ b38 : Bool, ∃ s91 : Slc, ∃ x42 : Int, ∃ x43 : Int, e15 = .returned (Value.tuple #[Value.agg #[Value.bool b38, s91.v, Value.int .i64 x42], Value.int .i64 x43]) ∧
            (newC w153 #[Value.bool false, (⟨none, 0, 0⟩ : Slc).v, Value.int .i64 0] 39 fun ad53 w154 =>
             stC ad53 (Value.bool b38) w154 fun w155 =>
             stC (ad53.add 1) s91.v w155 fun w156 =>
             stC (ad53.add 2) (Value.int .i64 x42) w156 fun w157 =>
             ldB t5 w157 fun b39 =>
             ldS (t5.add 1) w157 fun s92 =>
             ldI .i64 (t5.add 2) w157 fun x44 =>
             Calls Tryd.prog 12 #[Value.agg #[Value.bool b39, s92.v, Value.int .i64 x44]] w157 fun e16 w158 =>
             ∃ b40 : Bool, ∃ s93 : Slc, ∃ x45 : Int, e16 = .returned (Value.agg #[Value.bool b40, s93.v, Value.int .i64 x45]) ∧
             (Calls Tryd.prog 31 #[t10.v, Value.agg #[Value.bool b40, s93.v, Value.int .i64 x45]] w158 fun e17 w159 =>
              ∃ b41 : Bool, ∃ s94 : Slc, ∃ x46 : Int, ∃ x47 : Int, e17 = .returned (Value.tuple #[Value.agg #[Value.bool b41, s94.v, Value.int .i64 x46], Value.int .i64 x47]) ∧
              (newC w159 #[Value.bool false, (⟨none, 0, 0⟩ : Slc).v, Value.int .i64 0] 39 fun ad54 w160 =>
               stC ad54 (Value.bool b41) w160 fun w161 =>
               stC (ad54.add 1) s94.v w161 fun w162 =>
               stC (ad54.add 2) (Value.int .i64 x46) w162 fun w163 =>
               newC w163 #[Value.int .i64 x29, Value.int .i64 x31] 40 fun ad55 w164 =>
               Calls Tryd.prog 24 #[(⟨some ad55, 2, 2⟩ : Slc).v] w164 fun e18 w165 =>
               ∃ b42 : Bool, e18 = .returned (Value.bool b42) ∧
               (br b42
                (ldB ad48 w165 fun b43 =>
                 ldS (ad48.add 1) w165 fun s95 =>
                 ldI .i64 (ad48.add 2) w165 fun x48 =>
                 ldB ad49 w165 fun b44 =>
                 ldS (ad49.add 1) w165 fun s96 =>
                 ldI .i64 (ad49.add 2) w165 fun x49 =>
                 Calls Tryd.prog 26 #[Value.agg #[Value.bool b43, s95.v, Value.int .i64 x48], Value.agg #[Value.bool b44, s96.v, Value.int .i64 x49]] w165 fun e19 w166 =>
                 ∃ b45 : Bool, e19 = .returned (Value.bool b45) ∧
                 (br (!b45)
                  (R (.returned (Value.bool false)) w166)
                  (newC w166 #[Value.int .i64 x33, Value.int .i64 x35] 40 fun ad56 w167 =>
                   Calls Tryd.prog 24 #[(⟨some ad56, 2, 2⟩ : Slc).v] w167 fun e20 w168 =>
                   ∃ b46 : Bool, e20 = .returned (Value.bool b46) ∧
                   (br b46
                    (ldB ad50 w168 fun b47 =>
                     ldS (ad50.add 1) w168 fun s97 =>
                     ldI .i64 (ad50.add 2) w168 fun x50 =>
                     ldB ad51 w168 fun b48 =>
                     ldS (ad51.add 1) w168 fun s98 =>
                     ldI .i64 (ad51.add 2) w168 fun x51 =>
                     Calls Tryd.prog 26 #[Value.agg #[Value.bool b47, s97.v, Value.int .i64 x50], Value.agg #[Value.bool b48, s98.v, Value.int .i64 x51]] w168 fun e21 w169 =>
                     ∃ b49 : Bool, e21 = .returned (Value.bool b49) ∧
                     (br (!b49)
                      (R (.returned (Value.bool false)) w169)
                      (K28 ad52 x39 ad53 x43 ad54 x47 w169)))
                    (K28 ad52 x39 ad53 x43 ad54 x47 w168)))))
                (newC w165 #[Value.int .i64 x33, Value.int .i64 x35] 40 fun ad59 w181 =>
                 Calls Tryd.prog 24 #[(⟨some ad59, 2, 2⟩ : Slc).v] w181 fun e28 w182 =>
                 ∃ b59 : Bool, e28 = .returned (Value.bool b59) ∧
                 (br b59
                  (ldB ad50 w182 fun b60 =>
                   ldS (ad50.add 1) w182 fun s104 =>
                   ldI .i64 (ad50.add 2) w182 fun x59 =>
                   ldB ad51 w182 fun b61 =>
                   ldS (ad51.add 1) w182 fun s105 =>
                   ldI .i64 (ad51.add 2) w182 fun x60 =>
                   Calls Tryd.prog 26 #[Value.agg #[Value.bool b60, s104.v, Value.int .i64 x59], Value.agg #[Value.bool b61, s105.v, Value.int .i64 x60]] w182 fun e29 w183 =>
                   ∃ b62 : Bool, e29 = .returned (Value.bool b62) ∧
                   (br (!b62)
                    (R (.returned (Value.bool false)) w183)
                    (K28 ad52 x39 ad53 x43 ad54 x47 w183)))
                  (K28 ad52 x39 ad53 x43 ad54 x47 w182))))))))))))))))
    (h3000011 : ∀ (t0 : Slc) (t1 : Slc) (t5 : Addr) (t7 : Slc) (t8 : Slc) (t9 : Slc) (t10 : Slc) (t45 : Int) (t46 : Int) (w_ : World), J0 t0 t1 t5 t7 t8 t9 t10 t45 t46 w_ → ∀ (t0' : Slc) (t1' : Slc) (t5' : Addr) (t7' : Slc) (t8' : Slc) (t9' : Slc) (t10' : Slc) (t11' : Int) (t12' : Addr) (t13' : Addr) (t45' : Int) (t46' : Int) (w__ : World), K11 t0 t1 t5 t7 t8 t9 t10 t45 t46 w_ t0' t1' t5' t7' t8' t9' t10' t11' t12' t13' t45' t46' w__ → 
    br (decide (t11' < (t1'.n : Int)))
    (semA Tryd.prog (Instr.indexAt 63 t1'.v (Value.int .i64 t11')) w__ fun ad5 w17 =>
     ldB ad5 w17 fun b5 =>
     ldS (ad5.add 1) w17 fun s3 =>
     ldI .i64 (ad5.add 2) w17 fun x3 =>
     Calls Tryd.prog 12 #[Value.agg #[Value.bool b5, s3.v, Value.int .i64 x3]] w17 fun e4 w18 =>
     ∃ b6 : Bool, ∃ s4 : Slc, ∃ x4 : Int, e4 = .returned (Value.agg #[Value.bool b6, s4.v, Value.int .i64 x4]) ∧
     (stC t13' (Value.bool b6) w18 fun w19 =>
      stC (t13'.add 1) s4.v w19 fun w20 =>
      stC (t13'.add 2) (Value.int .i64 x4) w20 fun w21 =>
      K13 t0 t1 t5 t7 t8 t9 t10 t45 t46 w_ t0' t1' t5' t7' t8' t9' t10' t12' t13' t45' t46' w21))
    (K13 t0 t1 t5 t7 t8 t9 t10 t45 t46 w_ t0' t1' t5' t7' t8' t9' t10' t12' t13' t45' t46' w__))
    (h3000013 : ∀ (t0 : Slc) (t1 : Slc) (t5 : Addr) (t7 : Slc) (t8 : Slc) (t9 : Slc) (t10 : Slc) (t45 : Int) (t46 : Int) (w_ : World), J0 t0 t1 t5 t7 t8 t9 t10 t45 t46 w_ → ∀ (t0' : Slc) (t1' : Slc) (t5' : Addr) (t7' : Slc) (t8' : Slc) (t9' : Slc) (t10' : Slc) (t12' : Addr) (t13' : Addr) (t45' : Int) (t46' : Int) (w__ : World), K13 t0 t1 t5 t7 t8 t9 t10 t45 t46 w_ t0' t1' t5' t7' t8' t9' t10' t12' t13' t45' t46' w__ → 
    ldB t12' w__ fun b7 =>
    ldS (t12'.add 1) w__ fun s5 =>
    ldI .i64 (t12'.add 2) w__ fun x5 =>
    ldB t13' w__ fun b8 =>
    ldS (t13'.add 1) w__ fun s6 =>
    ldI .i64 (t13'.add 2) w__ fun x6 =>
    Calls Tryd.prog 21 #[Value.agg #[Value.bool b7, s5.v, Value.int .i64 x5], Value.agg #[Value.bool b8, s6.v, Value.int .i64 x6]] w__ fun e5 w22 =>
    ∃ b9 : Bool, ∃ s7 : Slc, ∃ x7 : Int, ∃ x8 : Int, e5 = .returned (Value.tuple #[Value.agg #[Value.bool b9, s7.v, Value.int .i64 x7], Value.int .i64 x8]) ∧
    (newC w22 #[Value.bool false, (⟨none, 0, 0⟩ : Slc).v, Value.int .i64 0] 39 fun ad6 w23 =>
     stC ad6 (Value.bool b9) w23 fun w24 =>
     stC (ad6.add 1) s7.v w24 fun w25 =>
     stC (ad6.add 2) (Value.int .i64 x7) w25 fun w26 =>
     Calls Tryd.prog 28 #[Value.int .i64 x8] w26 fun e6 w27 =>
     ∃ x9 : Int, e6 = .returned (Value.int .i64 x9) ∧
     (br (x9 != 0)
      (Calls Tryd.prog 8 #[] w27 fun e7 w28 =>
       ∃ b10 : Bool, e7 = .returned (Value.bool b10) ∧
       (R (.returned (Value.bool b10)) w28))
      (∃ V1 : Nat → Prop, Out V1 t12' (ldB t12' w27.drew fun b11 =>
        ldS (t12'.add 1) w27.drew fun s8 =>
        ldI .i64 (t12'.add 2) w27.drew fun x10 =>
        Out V1 t13' (ldB t13' w27.drew fun b12 =>
         ldS (t13'.add 1) w27.drew fun s9 =>
         ldI .i64 (t13'.add 2) w27.drew fun x11 =>
         Out V1 ad6 (ldB ad6 w27.drew fun b13 =>
          ldS (ad6.add 1) w27.drew fun s10 =>
          ldI .i64 (ad6.add 2) w27.drew fun x12 =>
          (newC w27.drew #[Value.bool b11, s8.v, Value.int .i64 x10] 39 fun ad7 w29 =>
           Bar V1 w27.drew w29 ∧
           ((semS Tryd.prog (Builtin.append_ #[64, 64] 64 #[t7'.v, (⟨some ad7, 1, 1⟩ : Slc).v]) w29 fun s11 w30 =>
             Bar V1 w29 w30 ∧
             ((newC w30 #[Value.bool b12, s9.v, Value.int .i64 x11] 39 fun ad8 w31 =>
               Bar V1 w30 w31 ∧
               ((semS Tryd.prog (Builtin.append_ #[64, 64] 64 #[t8'.v, (⟨some ad8, 1, 1⟩ : Slc).v]) w31 fun s12 w32 =>
                 Bar V1 w31 w32 ∧
                 (newC w32 #[Value.bool b13, s10.v, Value.int .i64 x12] 39 fun ad9 w33 =>
                  Bar V1 w32 w33 ∧
                  (semS Tryd.prog (Builtin.append_ #[64, 64] 64 #[t10'.v, (⟨some ad9, 1, 1⟩ : Slc).v]) w33 fun s13 w34 =>
                   Bar V1 w33 w34 ∧
                   (ldB t12' w34 fun b14 =>
                    ldS (t12'.add 1) w34 fun s14 =>
                    ldI .i64 (t12'.add 2) w34 fun x13 =>
                    newC w34 #[Value.bool b14, s14.v, Value.int .i64 x13] 39 fun ad10 w35 =>
                    semS Tryd.prog (Builtin.append_ #[64, 64] 64 #[(⟨some ad10, 1, 1⟩ : Slc).v, t9'.v]) w35 fun s15 w36 =>
                    J0 t0' t1' t5' s11 s12 s15 s13 t45' (IntKind.i64.wrap (t46' + 1)) w36 ∧
                    m0 t0' t1' t5' s11 s12 s15 s13 t45' (IntKind.i64.wrap (t46' + 1)) w36 < m0 t0 t1 t5 t7 t8 t9 t10 t45 t46 w_)))) ∧
                (newC w31 #[Value.bool b13, s10.v, Value.int .i64 x12] 39 fun ad11 w37 =>
                 Bar V1 w31 w37 ∧
                 (semS Tryd.prog (Builtin.append_ #[64, 64] 64 #[t8'.v, (⟨some ad8, 1, 1⟩ : Slc).v]) w37 fun s16 w38 =>
                  Bar V1 w37 w38 ∧
                  (semS Tryd.prog (Builtin.append_ #[64, 64] 64 #[t10'.v, (⟨some ad11, 1, 1⟩ : Slc).v]) w38 fun s17 w39 =>
                   Bar V1 w38 w39 ∧
                   (ldB t12' w39 fun b15 =>
                    ldS (t12'.add 1) w39 fun s18 =>
                    ldI .i64 (t12'.add 2) w39 fun x14 =>
                    newC w39 #[Value.bool b15, s18.v, Value.int .i64 x14] 39 fun ad12 w40 =>
                    semS Tryd.prog (Builtin.append_ #[64, 64] 64 #[(⟨some ad12, 1, 1⟩ : Slc).v, t9'.v]) w40 fun s19 w41 =>
                    J0 t0' t1' t5' s11 s16 s19 s17 t45' (IntKind.i64.wrap (t46' + 1)) w41 ∧
                    m0 t0' t1' t5' s11 s16 s19 s17 t45' (IntKind.i64.wrap (t46' + 1)) w41 < m0 t0 t1 t5 t7 t8 t9 t10 t45 t46 w_)))))) ∧
              (newC w30 #[Value.bool b13, s10.v, Value.int .i64 x12] 39 fun ad13 w42 =>
               Bar V1 w30 w42 ∧
               (newC w42 #[Value.bool b12, s9.v, Value.int .i64 x11] 39 fun ad14 w43 =>
                Bar V1 w42 w43 ∧
                (semS Tryd.prog (Builtin.append_ #[64, 64] 64 #[t8'.v, (⟨some ad14, 1, 1⟩ : Slc).v]) w43 fun s20 w44 =>
                 Bar V1 w43 w44 ∧
                 (semS Tryd.prog (Builtin.append_ #[64, 64] 64 #[t10'.v, (⟨some ad13, 1, 1⟩ : Slc).v]) w44 fun s21 w45 =>
                  Bar V1 w44 w45 ∧
                  (ldB t12' w45 fun b16 =>
                   ldS (t12'.add 1) w45 fun s22 =>
                   ldI .i64 (t12'.add 2) w45 fun x15 =>
                   newC w45 #[Value.bool b16, s22.v, Value.int .i64 x15] 39 fun ad15 w46 =>
                   semS Tryd.prog (Builtin.append_ #[64, 64] 64 #[(⟨some ad15, 1, 1⟩ : Slc).v, t9'.v]) w46 fun s23 w47 =>
                   J0 t0' t1' t5' s11 s20 s23 s21 t45' (IntKind.i64.wrap (t46' + 1)) w47 ∧
                   m0 t0' t1' t5' s11 s20 s23 s21 t45' (IntKind.i64.wrap (t46' + 1)) w47 < m0 t0 t1 t5 t7 t8 t9 t10 t45 t46 w_))))))) ∧
            ((newC w29 #[Value.bool b12, s9.v, Value.int .i64 x11] 39 fun ad16 w48 =>
              Bar V1 w29 w48 ∧
              ((semS Tryd.prog (Builtin.append_ #[64, 64] 64 #[t7'.v, (⟨some ad7, 1, 1⟩ : Slc).v]) w48 fun s24 w49 =>
                Bar V1 w48 w49 ∧
                ((semS Tryd.prog (Builtin.append_ #[64, 64] 64 #[t8'.v, (⟨some ad16, 1, 1⟩ : Slc).v]) w49 fun s25 w50 =>
                  Bar V1 w49 w50 ∧
                  (newC w50 #[Value.bool b13, s10.v, Value.int .i64 x12] 39 fun ad17 w51 =>
                   Bar V1 w50 w51 ∧
                   (semS Tryd.prog (Builtin.append_ #[64, 64] 64 #[t10'.v, (⟨some ad17, 1, 1⟩ : Slc).v]) w51 fun s26 w52 =>
                    Bar V1 w51 w52 ∧
                    (ldB t12' w52 fun b17 =>
                     ldS (t12'.add 1) w52 fun s27 =>
                     ldI .i64 (t12'.add 2) w52 fun x16 =>
                     newC w52 #[Value.bool b17, s27.v, Value.int .i64 x16] 39 fun ad18 w53 =>
                     semS Tryd.prog (Builtin.append_ #[64, 64] 64 #[(⟨some ad18, 1, 1⟩ : Slc).v, t9'.v]) w53 fun s28 w54 =>
                     J0 t0' t1' t5' s24 s25 s28 s26 t45' (IntKind.i64.wrap (t46' + 1)) w54 ∧
                     m0 t0' t1' t5' s24 s25 s28 s26 t45' (IntKind.i64.wrap (t46' + 1)) w54 < m0 t0 t1 t5 t7 t8 t9 t10 t45 t46 w_)))) ∧
                 (newC w49 #[Value.bool b13, s10.v, Value.int .i64 x12] 39 fun ad19 w55 =>
                  Bar V1 w49 w55 ∧
                  (semS Tryd.prog (Builtin.append_ #[64, 64] 64 #[t8'.v, (⟨some ad16, 1, 1⟩ : Slc).v]) w55 fun s29 w56 =>
                   Bar V1 w55 w56 ∧
                   (semS Tryd.prog (Builtin.append_ #[64, 64] 64 #[t10'.v, (⟨some ad19, 1, 1⟩ : Slc).v]) w56 fun s30 w57 =>
                    Bar V1 w56 w57 ∧
                    (ldB t12' w57 fun b18 =>
                     ldS (t12'.add 1) w57 fun s31 =>
                     ldI .i64 (t12'.add 2) w57 fun x17 =>
                     newC w57 #[Value.bool b18, s31.v, Value.int .i64 x17] 39 fun ad20 w58 =>
                     semS Tryd.prog (Builtin.append_ #[64, 64] 64 #[(⟨some ad20, 1, 1⟩ : Slc).v, t9'.v]) w58 fun s32 w59 =>
                     J0 t0' t1' t5' s24 s29 s32 s30 t45' (IntKind.i64.wrap (t46' + 1)) w59 ∧
                     m0 t0' t1' t5' s24 s29 s32 s30 t45' (IntKind.i64.wrap (t46' + 1)) w59 < m0 t0 t1 t5 t7 t8 t9 t10 t45 t46 w_)))))) ∧
               (newC w48 #[Value.bool b13, s10.v, Value.int .i64 x12] 39 fun ad21 w60 =>
                Bar V1 w48 w60 ∧
                (semS Tryd.prog (Builtin.append_ #[64, 64] 64 #[t7'.v, (⟨some ad7, 1, 1⟩ : Slc).v]) w60 fun s33 w61 =>
                 Bar V1 w60 w61 ∧
                 (semS Tryd.prog (Builtin.append_ #[64, 64] 64 #[t8'.v, (⟨some ad16, 1, 1⟩ : Slc).v]) w61 fun s34 w62 =>
                  Bar V1 w61 w62 ∧
                  (semS Tryd.prog (Builtin.append_ #[64, 64] 64 #[t10'.v, (⟨some ad21, 1, 1⟩ : Slc).v]) w62 fun s35 w63 =>
                   Bar V1 w62 w63 ∧
                   (ldB t12' w63 fun b19 =>
                    ldS (t12'.add 1) w63 fun s36 =>
                    ldI .i64 (t12'.add 2) w63 fun x18 =>
                    newC w63 #[Value.bool b19, s36.v, Value.int .i64 x18] 39 fun ad22 w64 =>
                    semS Tryd.prog (Builtin.append_ #[64, 64] 64 #[(⟨some ad22, 1, 1⟩ : Slc).v, t9'.v]) w64 fun s37 w65 =>
                    J0 t0' t1' t5' s33 s34 s37 s35 t45' (IntKind.i64.wrap (t46' + 1)) w65 ∧
                    m0 t0' t1' t5' s33 s34 s37 s35 t45' (IntKind.i64.wrap (t46' + 1)) w65 < m0 t0 t1 t5 t7 t8 t9 t10 t45 t46 w_))))))) ∧
             (newC w29 #[Value.bool b13, s10.v, Value.int .i64 x12] 39 fun ad23 w66 =>
              Bar V1 w29 w66 ∧
              ((semS Tryd.prog (Builtin.append_ #[64, 64] 64 #[t7'.v, (⟨some ad7, 1, 1⟩ : Slc).v]) w66 fun s38 w67 =>
                Bar V1 w66 w67 ∧
                (newC w67 #[Value.bool b12, s9.v, Value.int .i64 x11] 39 fun ad24 w68 =>
                 Bar V1 w67 w68 ∧
                 (semS Tryd.prog (Builtin.append_ #[64, 64] 64 #[t8'.v, (⟨some ad24, 1, 1⟩ : Slc).v]) w68 fun s39 w69 =>
                  Bar V1 w68 w69 ∧
                  (semS Tryd.prog (Builtin.append_ #[64, 64] 64 #[t10'.v, (⟨some ad23, 1, 1⟩ : Slc).v]) w69 fun s40 w70 =>
                   Bar V1 w69 w70 ∧
                   (ldB t12' w70 fun b20 =>
                    ldS (t12'.add 1) w70 fun s41 =>
                    ldI .i64 (t12'.add 2) w70 fun x19 =>
                    newC w70 #[Value.bool b20, s41.v, Value.int .i64 x19] 39 fun ad25 w71 =>
                    semS Tryd.prog (Builtin.append_ #[64, 64] 64 #[(⟨some ad25, 1, 1⟩ : Slc).v, t9'.v]) w71 fun s42 w72 =>
                    J0 t0' t1' t5' s38 s39 s42 s40 t45' (IntKind.i64.wrap (t46' + 1)) w72 ∧
                    m0 t0' t1' t5' s38 s39 s42 s40 t45' (IntKind.i64.wrap (t46' + 1)) w72 < m0 t0 t1 t5 t7 t8 t9 t10 t45 t46 w_))))) ∧
               (newC w66 #[Value.bool b12, s9.v, Value.int .i64 x11] 39 fun ad26 w73 =>
                Bar V1 w66 w73 ∧
                (semS Tryd.prog (Builtin.append_ #[64, 64] 64 #[t7'.v, (⟨some ad7, 1, 1⟩ : Slc).v]) w73 fun s43 w74 =>
                 Bar V1 w73 w74 ∧
                 (semS Tryd.prog (Builtin.append_ #[64, 64] 64 #[t8'.v, (⟨some ad26, 1, 1⟩ : Slc).v]) w74 fun s44 w75 =>
                  Bar V1 w74 w75 ∧
                  (semS Tryd.prog (Builtin.append_ #[64, 64] 64 #[t10'.v, (⟨some ad23, 1, 1⟩ : Slc).v]) w75 fun s45 w76 =>
                   Bar V1 w75 w76 ∧
                   (ldB t12' w76 fun b21 =>
                    ldS (t12'.add 1) w76 fun s46 =>
                    ldI .i64 (t12'.add 2) w76 fun x20 =>
                    newC w76 #[Value.bool b21, s46.v, Value.int .i64 x20] 39 fun ad27 w77 =>
                    semS Tryd.prog (Builtin.append_ #[64, 64] 64 #[(⟨some ad27, 1, 1⟩ : Slc).v, t9'.v]) w77 fun s47 w78 =>
                    J0 t0' t1' t5' s43 s44 s47 s45 t45' (IntKind.i64.wrap (t46' + 1)) w78 ∧
                    m0 t0' t1' t5' s43 s44 s47 s45 t45' (IntKind.i64.wrap (t46' + 1)) w78 < m0 t0 t1 t5 t7 t8 t9 t10 t45 t46 w_)))))))))) ∧
          ((newC w27.drew #[Value.bool b12, s9.v, Value.int .i64 x11] 39 fun ad28 w79 =>
            Bar V1 w27.drew w79 ∧
            ((newC w79 #[Value.bool b11, s8.v, Value.int .i64 x10] 39 fun ad29 w80 =>
              Bar V1 w79 w80 ∧
              ((semS Tryd.prog (Builtin.append_ #[64, 64] 64 #[t7'.v, (⟨some ad29, 1, 1⟩ : Slc).v]) w80 fun s48 w81 =>
                Bar V1 w80 w81 ∧
                ((semS Tryd.prog (Builtin.append_ #[64, 64] 64 #[t8'.v, (⟨some ad28, 1, 1⟩ : Slc).v]) w81 fun s49 w82 =>
                  Bar V1 w81 w82 ∧
                  (newC w82 #[Value.bool b13, s10.v, Value.int .i64 x12] 39 fun ad30 w83 =>
                   Bar V1 w82 w83 ∧
                   (semS Tryd.prog (Builtin.append_ #[64, 64] 64 #[t10'.v, (⟨some ad30, 1, 1⟩ : Slc).v]) w83 fun s50 w84 =>
                    Bar V1 w83 w84 ∧
                    (ldB t12' w84 fun b22 =>
                     ldS (t12'.add 1) w84 fun s51 =>
                     ldI .i64 (t12'.add 2) w84 fun x21 =>
                     newC w84 #[Value.bool b22, s51.v, Value.int .i64 x21] 39 fun ad31 w85 =>
                     semS Tryd.prog (Builtin.append_ #[64, 64] 64 #[(⟨some ad31, 1, 1⟩ : Slc).v, t9'.v]) w85 fun s52 w86 =>
                     J0 t0' t1' t5' s48 s49 s52 s50 t45' (IntKind.i64.wrap (t46' + 1)) w86 ∧
                     m0 t0' t1' t5' s48 s49 s52 s50 t45' (IntKind.i64.wrap (t46' + 1)) w86 < m0 t0 t1 t5 t7 t8 t9 t10 t45 t46 w_)))) ∧
                 (newC w81 #[Value.bool b13, s10.v, Value.int .i64 x12] 39 fun ad32 w87 =>
                  Bar V1 w81 w87 ∧
                  (semS Tryd.prog (Builtin.append_ #[64, 64] 64 #[t8'.v, (⟨some ad28, 1, 1⟩ : Slc).v]) w87 fun s53 w88 =>
                   Bar V1 w87 w88 ∧
                   (semS Tryd.prog (Builtin.append_ #[64, 64] 64 #[t10'.v, (⟨some ad32, 1, 1⟩ : Slc).v]) w88 fun s54 w89 =>
                    Bar V1 w88 w89 ∧
                    (ldB t12' w89 fun b23 =>
                     ldS (t12'.add 1) w89 fun s55 =>
                     ldI .i64 (t12'.add 2) w89 fun x22 =>
                     newC w89 #[Value.bool b23, s55.v, Value.int .i64 x22] 39 fun ad33 w90 =>
                     semS Tryd.prog (Builtin.append_ #[64, 64] 64 #[(⟨some ad33, 1, 1⟩ : Slc).v, t9'.v]) w90 fun s56 w91 =>
                     J0 t0' t1' t5' s48 s53 s56 s54 t45' (IntKind.i64.wrap (t46' + 1)) w91 ∧
                     m0 t0' t1' t5' s48 s53 s56 s54 t45' (IntKind.i64.wrap (t46' + 1)) w91 < m0 t0 t1 t5 t7 t8 t9 t10 t45 t46 w_)))))) ∧
               (newC w80 #[Value.bool b13, s10.v, Value.int .i64 x12] 39 fun ad34 w92 =>
                Bar V1 w80 w92 ∧
                (semS Tryd.prog (Builtin.append_ #[64, 64] 64 #[t7'.v, (⟨some ad29, 1, 1⟩ : Slc).v]) w92 fun s57 w93 =>
                 Bar V1 w92 w93 ∧
                 (semS Tryd.prog (Builtin.append_ #[64, 64] 64 #[t8'.v, (⟨some ad28, 1, 1⟩ : Slc).v]) w93 fun s58 w94 =>
                  Bar V1 w93 w94 ∧
                  (semS Tryd.prog (Builtin.append_ #[64, 64] 64 #[t10'.v, (⟨some ad34, 1, 1⟩ : Slc).v]) w94 fun s59 w95 =>
                   Bar V1 w94 w95 ∧
                   (ldB t12' w95 fun b24 =>
                    ldS (t12'.add 1) w95 fun s60 =>
                    ldI .i64 (t12'.add 2) w95 fun x23 =>
                    newC w95 #[Value.bool b24, s60.v, Value.int .i64 x23] 39 fun ad35 w96 =>
                    semS Tryd.prog (Builtin.append_ #[64, 64] 64 #[(⟨some ad35, 1, 1⟩ : Slc).v, t9'.v]) w96 fun s61 w97 =>
                    J0 t0' t1' t5' s57 s58 s61 s59 t45' (IntKind.i64.wrap (t46' + 1)) w97 ∧
                    m0 t0' t1' t5' s57 s58 s61 s59 t45' (IntKind.i64.wrap (t46' + 1)) w97 < m0 t0 t1 t5 t7 t8 t9 t10 t45 t46 w_))))))) ∧
             (newC w79 #[Value.bool b13, s10.v, Value.int .i64 x12] 39 fun ad36 w98 =>
              Bar V1 w79 w98 ∧
              (newC w98 #[Value.bool b11, s8.v, Value.int .i64 x10] 39 fun ad37 w99 =>
               Bar V1 w98 w99 ∧
               (semS Tryd.prog (Builtin.append_ #[64, 64] 64 #[t7'.v, (⟨some ad37, 1, 1⟩ : Slc).v]) w99 fun s62 w100 =>
                Bar V1 w99 w100 ∧
                (semS Tryd.prog (Builtin.append_ #[64, 64] 64 #[t8'.v, (⟨some ad28, 1, 1⟩ : Slc).v]) w100 fun s63 w101 =>
                 Bar V1 w100 w101 ∧
                 (semS Tryd.prog (Builtin.append_ #[64, 64] 64 #[t10'.v, (⟨some ad36, 1, 1⟩ : Slc).v]) w101 fun s64 w102 =>
                  Bar V1 w101 w102 ∧
                  (ldB t12' w102 fun b25 =>
                   ldS (t12'.add 1) w102 fun s65 =>
                   ldI .i64 (t12'.add 2) w102 fun x24 =>
                   newC w102 #[Value.bool b25, s65.v, Value.int .i64 x24] 39 fun ad38 w103 =>
                   semS Tryd.prog (Builtin.append_ #[64, 64] 64 #[(⟨some ad38, 1, 1⟩ : Slc).v, t9'.v]) w103 fun s66 w104 =>
                   J0 t0' t1' t5' s62 s63 s66 s64 t45' (IntKind.i64.wrap (t46' + 1)) w104 ∧
                   m0 t0' t1' t5' s62 s63 s66 s64 t45' (IntKind.i64.wrap (t46' + 1)) w104 < m0 t0 t1 t5 t7 t8 t9 t10 t45 t46 w_)))))))) ∧
           (newC w27.drew #[Value.bool b13, s10.v, Value.int .i64 x12] 39 fun ad39 w105 =>
            Bar V1 w27.drew w105 ∧
            ((newC w105 #[Value.bool b11, s8.v, Value.int .i64 x10] 39 fun ad40 w106 =>
              Bar V1 w105 w106 ∧
              ((semS Tryd.prog (Builtin.append_ #[64, 64] 64 #[t7'.v, (⟨some ad40, 1, 1⟩ : Slc).v]) w106 fun s67 w107 =>
                Bar V1 w106 w107 ∧
                (newC w107 #[Value.bool b12, s9.v, Value.int .i64 x11] 39 fun ad41 w108 =>
                 Bar V1 w107 w108 ∧
                 (semS Tryd.prog (Builtin.append_ #[64, 64] 64 #[t8'.v, (⟨some ad41, 1, 1⟩ : Slc).v]) w108 fun s68 w109 =>
                  Bar V1 w108 w109 ∧
                  (semS Tryd.prog (Builtin.append_ #[64, 64] 64 #[t10'.v, (⟨some ad39, 1, 1⟩ : Slc).v]) w109 fun s69 w110 =>
                   Bar V1 w109 w110 ∧
                   (ldB t12' w110 fun b26 =>
                    ldS (t12'.add 1) w110 fun s70 =>
                    ldI .i64 (t12'.add 2) w110 fun x25 =>
                    newC w110 #[Value.bool b26, s70.v, Value.int .i64 x25] 39 fun ad42 w111 =>
                    semS Tryd.prog (Builtin.append_ #[64, 64] 64 #[(⟨some ad42, 1, 1⟩ : Slc).v, t9'.v]) w111 fun s71 w112 =>
                    J0 t0' t1' t5' s67 s68 s71 s69 t45' (IntKind.i64.wrap (t46' + 1)) w112 ∧
                    m0 t0' t1' t5' s67 s68 s71 s69 t45' (IntKind.i64.wrap (t46' + 1)) w112 < m0 t0 t1 t5 t7 t8 t9 t10 t45 t46 w_))))) ∧
               (newC w106 #[Value.bool b12, s9.v, Value.int .i64 x11] 39 fun ad43 w113 =>
                Bar V1 w106 w113 ∧
                (semS Tryd.prog (Builtin.append_ #[64, 64] 64 #[t7'.v, (⟨some ad40, 1, 1⟩ : Slc).v]) w113 fun s72 w114 =>
                 Bar V1 w113 w114 ∧
                 (semS Tryd.prog (Builtin.append_ #[64, 64] 64 #[t8'.v, (⟨some ad43, 1, 1⟩ : Slc).v]) w114 fun s73 w115 =>
                  Bar V1 w114 w115 ∧
                  (semS Tryd.prog (Builtin.append_ #[64, 64] 64 #[t10'.v, (⟨some ad39, 1, 1⟩ : Slc).v]) w115 fun s74 w116 =>
                   Bar V1 w115 w116 ∧
                   (ldB t12' w116 fun b27 =>
                    ldS (t12'.add 1) w116 fun s75 =>
                    ldI .i64 (t12'.add 2) w116 fun x26 =>
                    newC w116 #[Value.bool b27, s75.v, Value.int .i64 x26] 39 fun ad44 w117 =>
                    semS Tryd.prog (Builtin.append_ #[64, 64] 64 #[(⟨some ad44, 1, 1⟩ : Slc).v, t9'.v]) w117 fun s76 w118 =>
                    J0 t0' t1' t5' s72 s73 s76 s74 t45' (IntKind.i64.wrap (t46' + 1)) w118 ∧
                    m0 t0' t1' t5' s72 s73 s76 s74 t45' (IntKind.i64.wrap (t46' + 1)) w118 < m0 t0 t1 t5 t7 t8 t9 t10 t45 t46 w_))))))) ∧
             (newC w105 #[Value.bool b12, s9.v, Value.int .i64 x11] 39 fun ad45 w119 =>
              Bar V1 w105 w119 ∧
              (newC w119 #[Value.bool b11, s8.v, Value.int .i64 x10] 39 fun ad46 w120 =>
               Bar V1 w119 w120 ∧
               (semS Tryd.prog (Builtin.append_ #[64, 64] 64 #[t7'.v, (⟨some ad46, 1, 1⟩ : Slc).v]) w120 fun s77 w121 =>
                Bar V1 w120 w121 ∧
                (semS Tryd.prog (Builtin.append_ #[64, 64] 64 #[t8'.v, (⟨some ad45, 1, 1⟩ : Slc).v]) w121 fun s78 w122 =>
                 Bar V1 w121 w122 ∧
                 (semS Tryd.prog (Builtin.append_ #[64, 64] 64 #[t10'.v, (⟨some ad39, 1, 1⟩ : Slc).v]) w122 fun s79 w123 =>
                  Bar V1 w122 w123 ∧
                  (ldB t12' w123 fun b28 =>
                   ldS (t12'.add 1) w123 fun s80 =>
                   ldI .i64 (t12'.add 2) w123 fun x27 =>
                   newC w123 #[Value.bool b28, s80.v, Value.int .i64 x27] 39 fun ad47 w124 =>
                   semS Tryd.prog (Builtin.append_ #[64, 64] 64 #[(⟨some ad47, 1, 1⟩ : Slc).v, t9'.v]) w124 fun s81 w125 =>
                   J0 t0' t1' t5' s77 s78 s81 s79 t45' (IntKind.i64.wrap (t46' + 1)) w125 ∧
                   m0 t0' t1' t5' s77 s78 s81 s79 t45' (IntKind.i64.wrap (t46' + 1)) w125 < m0 t0 t1 t5 t7 t8 t9 t10 t45 t46 w_))))))))))))))))
    (h3000028 : ∀ (t24 : Addr) (t25 : Int) (t26 : Addr) (t27 : Int) (t28 : Addr) (t29 : Int) (w_ : World), K28 t24 t25 t26 t27 t28 t29 w_ → 
    newC w_ #[Value.int .i64 t25, Value.int .i64 t27, Value.int .i64 t29] 40 fun ad57 w170 =>
    Calls Tryd.prog 24 #[(⟨some ad57, 3, 3⟩ : Slc).v] w170 fun e22 w171 =>
    ∃ b50 : Bool, e22 = .returned (Value.bool b50) ∧
    (br (!b50)
     (Calls Tryd.prog 8 #[] w171 fun e23 w172 =>
      ∃ b51 : Bool, e23 = .returned (Value.bool b51) ∧
      (R (.returned (Value.bool b51)) w172))
     (ldB t24 w171 fun b52 =>
      ldS (t24.add 1) w171 fun s99 =>
      ldI .i64 (t24.add 2) w171 fun x52 =>
      ldB t26 w171 fun b53 =>
      ldS (t26.add 1) w171 fun s100 =>
      ldI .i64 (t26.add 2) w171 fun x53 =>
      Calls Tryd.prog 21 #[Value.agg #[Value.bool b52, s99.v, Value.int .i64 x52], Value.agg #[Value.bool b53, s100.v, Value.int .i64 x53]] w171 fun e24 w173 =>
      ∃ b54 : Bool, ∃ s101 : Slc, ∃ x54 : Int, ∃ x55 : Int, e24 = .returned (Value.tuple #[Value.agg #[Value.bool b54, s101.v, Value.int .i64 x54], Value.int .i64 x55]) ∧
      (newC w173 #[Value.bool false, (⟨none, 0, 0⟩ : Slc).v, Value.int .i64 0] 39 fun ad58 w174 =>
       stC ad58 (Value.bool b54) w174 fun w175 =>
       stC (ad58.add 1) s101.v w175 fun w176 =>
       stC (ad58.add 2) (Value.int .i64 x54) w176 fun w177 =>
       Calls Tryd.prog 28 #[Value.int .i64 x55] w177 fun e25 w178 =>
       ∃ x56 : Int, e25 = .returned (Value.int .i64 x56) ∧
       (br (x56 == 0)
        (ldB ad58 w178 fun b55 =>
         ldS (ad58.add 1) w178 fun s102 =>
         ldI .i64 (ad58.add 2) w178 fun x57 =>
         ldB t28 w178 fun b56 =>
         ldS (t28.add 1) w178 fun s103 =>
         ldI .i64 (t28.add 2) w178 fun x58 =>
         Calls Tryd.prog 26 #[Value.agg #[Value.bool b55, s102.v, Value.int .i64 x57], Value.agg #[Value.bool b56, s103.v, Value.int .i64 x58]] w178 fun e26 w179 =>
         ∃ b57 : Bool, e26 = .returned (Value.bool b57) ∧
         (br b57
          (Calls Tryd.prog 8 #[] w179 fun e27 w180 =>
           ∃ b58 : Bool, e27 = .returned (Value.bool b58) ∧
           (R (.returned (Value.bool b58)) w180))
          (R (.returned (Value.bool false)) w179)))
        (R (.returned (Value.bool false)) w178)))))) :
    Calls Tryd.prog 5 #[a0.v, a1.v, Value.agg #[Value.bool a2_0, a2_1.v, Value.int .i64 a2_2]] w R := by
  refine calls_of_vc (marks [1000015] (surdlaw08_DyadicPolys_cut J0 m0 K11 K13 K28)) (by kernel_rfl) Tryd.func5 rfl ?_ ?_
  · refine kcast h ?_; kernel_rfl
  · exact (obl_seq rfl (obl_reg (obl_seq rfl (obl_seq rfl (obl_reg (obl_cond (obl_seq rfl (obl_reg (obl_ret (obl_skip (obl_seq rfl (obl_reg (obl_seq rfl (obl_seq rfl (obl_reg (obl_loop _ rfl (fun a_ w_ hL_ => (by
    obtain ⟨hz_, hd_, hL_⟩ := atSz_out hL_
    obtain ⟨t0, h0_, hL_⟩ := atS_out hL_
    obtain ⟨t1, h1_, hL_⟩ := atS_out hL_
    obtain ⟨t5, h5_, hL_⟩ := atA_out hL_
    obtain ⟨t7, h7_, hL_⟩ := atS_out hL_
    obtain ⟨t8, h8_, hL_⟩ := atS_out hL_
    obtain ⟨t9, h9_, hL_⟩ := atS_out hL_
    obtain ⟨t10, h10_, hL_⟩ := atS_out hL_
    obtain ⟨t45, h45_, hL_⟩ := atI_out hL_
    obtain ⟨t46, h46_, hL_⟩ := atI_out hL_
    obtain ⟨g0, rfl⟩ : ∃ g, a_ = Fr 185 [(0, t0.v), (1, t1.v), (5, Value.pointer (some t5)), (7, t7.v), (8, t8.v), (9, t9.v), (10, t10.v), (45, Value.int .i64 t45), (46, Value.int .i64 t46)] g := ⟨_, fr_of hz_ hd_ [(0, t0.v), (1, t1.v), (5, Value.pointer (some t5)), (7, t7.v), (8, t8.v), (9, t9.v), (10, t10.v), (45, Value.int .i64 t45), (46, Value.int .i64 t46)] (sel_cons h0_ (sel_cons h1_ (sel_cons h5_ (sel_cons h7_ (sel_cons h8_ (sel_cons h9_ (sel_cons h10_ (sel_cons h45_ (sel_cons h46_ sel_nil)))))))))⟩
    clear hz_ hd_ h0_ h1_ h5_ h7_ h8_ h9_ h10_ h45_ h46_
    have hJ0_ := hL_
    refine ⟨(marks [1000015] (surdlaw08_DyadicPolys_cut_0 J0 m0 K11 K13 K28 t0 t1 t5 t7 t8 t9 t10 t45 t46 w_)), kcast (h0 t0 t1 t5 t7 t8 t9 t10 t45 t46 w_ hJ0_) ?_, ?_⟩
    · kernel_rfl
    · exact (obl_seq rfl (obl_reg (obl_seq rfl (obl_cond (obl_skip (obl_exit (obl_seq rfl (obl_blk rfl (obl_seq rfl (obl_reg (obl_seq rfl (obl_reg (obl_join _ rfl (obl_seq rfl (obl_reg (obl_cond (obl_reg (obl_skip (obl_reg trivial)))))) (fun a_ w__ hL_ => (by
      obtain ⟨hz_, hd_, hL_⟩ := atSz_out hL_
      obtain ⟨t0', h0_, hL_⟩ := atS_out hL_
      obtain ⟨t1', h1_, hL_⟩ := atS_out hL_
      obtain ⟨t5', h5_, hL_⟩ := atA_out hL_
      obtain ⟨t7', h7_, hL_⟩ := atS_out hL_
      obtain ⟨t8', h8_, hL_⟩ := atS_out hL_
      obtain ⟨t9', h9_, hL_⟩ := atS_out hL_
      obtain ⟨t10', h10_, hL_⟩ := atS_out hL_
      obtain ⟨t11', h11_, hL_⟩ := atI_out hL_
      obtain ⟨t12', h12_, hL_⟩ := atA_out hL_
      obtain ⟨t13', h13_, hL_⟩ := atA_out hL_
      obtain ⟨t45', h45_, hL_⟩ := atI_out hL_
      obtain ⟨t46', h46_, hL_⟩ := atI_out hL_
      obtain ⟨g3000011, rfl⟩ : ∃ g, a_ = Fr 185 [(0, t0'.v), (1, t1'.v), (5, Value.pointer (some t5')), (7, t7'.v), (8, t8'.v), (9, t9'.v), (10, t10'.v), (11, Value.int .i64 t11'), (12, Value.pointer (some t12')), (13, Value.pointer (some t13')), (45, Value.int .i64 t45'), (46, Value.int .i64 t46')] g := ⟨_, fr_of hz_ hd_ [(0, t0'.v), (1, t1'.v), (5, Value.pointer (some t5')), (7, t7'.v), (8, t8'.v), (9, t9'.v), (10, t10'.v), (11, Value.int .i64 t11'), (12, Value.pointer (some t12')), (13, Value.pointer (some t13')), (45, Value.int .i64 t45'), (46, Value.int .i64 t46')] (sel_cons h0_ (sel_cons h1_ (sel_cons h5_ (sel_cons h7_ (sel_cons h8_ (sel_cons h9_ (sel_cons h10_ (sel_cons h11_ (sel_cons h12_ (sel_cons h13_ (sel_cons h45_ (sel_cons h46_ sel_nil))))))))))))⟩
      clear hz_ hd_ h0_ h1_ h5_ h7_ h8_ h9_ h10_ h11_ h12_ h13_ h45_ h46_
      have hJ3000011_ := hL_
      refine ⟨(marks [1000015] (surdlaw08_DyadicPolys_cut_0 J0 m0 K11 K13 K28 t0 t1 t5 t7 t8 t9 t10 t45 t46 w_)), kcast (h3000011 t0 t1 t5 t7 t8 t9 t10 t45 t46 w_ hJ0_ t0' t1' t5' t7' t8' t9' t10' t11' t12' t13' t45' t46' w__ hJ3000011_) ?_, ?_⟩
      · kernel_rfl
      · exact (obl_join _ rfl (obl_seq rfl (obl_reg (obl_cond (obl_reg (obl_skip trivial))))) (fun a_ w__ hL_ => (by
        obtain ⟨hz_, hd_, hL_⟩ := atSz_out hL_
        obtain ⟨t0', h0_, hL_⟩ := atS_out hL_
        obtain ⟨t1', h1_, hL_⟩ := atS_out hL_
        obtain ⟨t5', h5_, hL_⟩ := atA_out hL_
        obtain ⟨t7', h7_, hL_⟩ := atS_out hL_
        obtain ⟨t8', h8_, hL_⟩ := atS_out hL_
        obtain ⟨t9', h9_, hL_⟩ := atS_out hL_
        obtain ⟨t10', h10_, hL_⟩ := atS_out hL_
        obtain ⟨t12', h12_, hL_⟩ := atA_out hL_
        obtain ⟨t13', h13_, hL_⟩ := atA_out hL_
        obtain ⟨t45', h45_, hL_⟩ := atI_out hL_
        obtain ⟨t46', h46_, hL_⟩ := atI_out hL_
        obtain ⟨g3000013, rfl⟩ : ∃ g, a_ = Fr 185 [(0, t0'.v), (1, t1'.v), (5, Value.pointer (some t5')), (7, t7'.v), (8, t8'.v), (9, t9'.v), (10, t10'.v), (12, Value.pointer (some t12')), (13, Value.pointer (some t13')), (45, Value.int .i64 t45'), (46, Value.int .i64 t46')] g := ⟨_, fr_of hz_ hd_ [(0, t0'.v), (1, t1'.v), (5, Value.pointer (some t5')), (7, t7'.v), (8, t8'.v), (9, t9'.v), (10, t10'.v), (12, Value.pointer (some t12')), (13, Value.pointer (some t13')), (45, Value.int .i64 t45'), (46, Value.int .i64 t46')] (sel_cons h0_ (sel_cons h1_ (sel_cons h5_ (sel_cons h7_ (sel_cons h8_ (sel_cons h9_ (sel_cons h10_ (sel_cons h12_ (sel_cons h13_ (sel_cons h45_ (sel_cons h46_ sel_nil)))))))))))⟩
        clear hz_ hd_ h0_ h1_ h5_ h7_ h8_ h9_ h10_ h12_ h13_ h45_ h46_
        have hJ3000013_ := hL_
        refine ⟨(marks [1000015] (surdlaw08_DyadicPolys_cut_0 J0 m0 K11 K13 K28 t0 t1 t5 t7 t8 t9 t10 t45 t46 w_)), kcast (h3000013 t0 t1 t5 t7 t8 t9 t10 t45 t46 w_ hJ0_ t0' t1' t5' t7' t8' t9' t10' t12' t13' t45' t46' w__ hJ3000013_) ?_, ?_⟩
        · kernel_rfl
        · exact (obl_seq rfl (obl_reg (obl_seq rfl (obl_seq rfl (obl_reg (obl_cond (obl_seq rfl (obl_reg (obl_ret (obl_skip (obl_seq rfl (obl_held (by kernel_rfl) (by kernel_rfl) (by kernel_rfl) (obl_reg trivial))))))))))))))))))))))))))))))))) (obl_seq rfl (obl_reg (obl_seq rfl (obl_reg (obl_seq rfl (obl_reg (obl_seq rfl (obl_reg (obl_seq rfl (obl_reg (obl_seq rfl (obl_reg (obl_seq rfl (obl_reg (obl_join _ rfl (obl_seq rfl (obl_reg (obl_cond (obl_seq rfl (obl_reg (obl_ret (obl_skip trivial))))))) (fun a_ w_ hL_ => (by
    obtain ⟨hz_, hd_, hL_⟩ := atSz_out hL_
    obtain ⟨t24, h24_, hL_⟩ := atA_out hL_
    obtain ⟨t25, h25_, hL_⟩ := atI_out hL_
    obtain ⟨t26, h26_, hL_⟩ := atA_out hL_
    obtain ⟨t27, h27_, hL_⟩ := atI_out hL_
    obtain ⟨t28, h28_, hL_⟩ := atA_out hL_
    obtain ⟨t29, h29_, hL_⟩ := atI_out hL_
    obtain ⟨g3000028, rfl⟩ : ∃ g, a_ = Fr 185 [(24, Value.pointer (some t24)), (25, Value.int .i64 t25), (26, Value.pointer (some t26)), (27, Value.int .i64 t27), (28, Value.pointer (some t28)), (29, Value.int .i64 t29)] g := ⟨_, fr_of hz_ hd_ [(24, Value.pointer (some t24)), (25, Value.int .i64 t25), (26, Value.pointer (some t26)), (27, Value.int .i64 t27), (28, Value.pointer (some t28)), (29, Value.int .i64 t29)] (sel_cons h24_ (sel_cons h25_ (sel_cons h26_ (sel_cons h27_ (sel_cons h28_ (sel_cons h29_ sel_nil))))))⟩
    clear hz_ hd_ h24_ h25_ h26_ h27_ h28_ h29_
    have hJ3000028_ := hL_
    refine ⟨(marks [1000015] (surdlaw08_DyadicPolys_cut J0 m0 K11 K13 K28)), kcast (h3000028 t24 t25 t26 t27 t28 t29 w_ hJ3000028_) ?_, ?_⟩
    · kernel_rfl
    · exact (obl_seq rfl (obl_seq rfl (obl_reg (obl_cond (obl_seq rfl (obl_reg (obl_ret (obl_skip (obl_seq rfl (obl_reg (obl_seq rfl (obl_reg (obl_ret trivial))))))))))))))))))))))))))))))))))))))))))))))

end Go.Proofs.YtahbekmnphkiiaaDoor
namespace Go.Proofs.YtahbekmnphkiiaaDoor
open Go Go.RowKit Eng L2
set_option linter.unusedVariables false
set_option maxHeartbeats 2000000
set_option maxRecDepth 100000

/-- surd/dyadic.right: function 61, its local variables as values. -/
theorem dyadic_right_v2 (a0_lists : Slc) (w : World) (R : Ending → World → Prop)
    (J0 : Slc → Int → Int → World → Prop) (m0 : Slc → Int → Int → World → Nat) (J2 : Slc → Int → Int → World → Slc → Int → Int → Slc → Int → Int → World → Prop) (m2 : Slc → Int → Int → World → Slc → Int → Int → Slc → Int → Int → World → Nat)
    (h : J0 a0_lists (a0_lists.n : Int) 0 w)
    (h0 : ∀ (t7 : Slc) (t8 : Int) (t9 : Int) (w_ : World), Ahead w w_ → J0 t7 t8 t9 w_ → 
    br (decide (t9 < t8))
    (semA Tryd.prog (Instr.indexAt 121 t7.v (Value.int .i64 t9)) w_ fun ad1 w1 => w1 = w_ ∧
     (ldS ad1 w_ fun s1 =>
      J2 t7 t8 t9 w_ t7 t8 t9 s1 (s1.n : Int) 0 w_))
    (R (.returned (Value.int .i64 0)) w_))
    (h2 : ∀ (t7 : Slc) (t8 : Int) (t9 : Int) (w_ : World), Ahead w w_ → J0 t7 t8 t9 w_ → ∀ (t7' : Slc) (t8' : Int) (t9' : Int) (t13' : Slc) (t14' : Int) (t15' : Int) (w__ : World), Ahead w w__ → J2 t7 t8 t9 w_ t7' t8' t9' t13' t14' t15' w__ → 
    br (decide (t15' < t14'))
    (semA Tryd.prog (Instr.indexAt 64 t13'.v (Value.int .i64 t15')) w__ fun ad2 w2 => w2 = w__ ∧
     (ldB ad2 w__ fun b1 =>
      ldS (ad2.add 1) w__ fun s2 =>
      ldI .i64 (ad2.add 2) w__ fun x1 =>
      ∀ w3, Ext w__ w3 → Ahead w w3 →
      (Calls Tryd.prog 37 #[Value.int .i64 x1] w3 fun e1 w4 =>
       ∃ b2 : Bool, e1 = .returned (Value.bool b2) ∧ Ahead w3 w4 ∧
       (br (!b2)
        (R (.returned (Value.int .i64 80)) w4)
        (J2 t7 t8 t9 w_ t7' t8' t9' t13' t14' (IntKind.i64.wrap (t15' + 1)) w4 ∧
         m2 t7 t8 t9 w_ t7' t8' t9' t13' t14' (IntKind.i64.wrap (t15' + 1)) w4 < m2 t7 t8 t9 w_ t7' t8' t9' t13' t14' t15' w__)))))
    (J0 t7' t8' (IntKind.i64.wrap (t9' + 1)) w__ ∧
     m0 t7' t8' (IntKind.i64.wrap (t9' + 1)) w__ < m0 t7 t8 t9 w_)) :
    Calls Tryd.prog 61 #[a0_lists.v] w (fun e_ w_ => Ahead w w_ ∧ R e_ w_) := by
  refine dyadic_right_vc a0_lists w _ (fun t7 t8 t9 w_ => Ahead w w_ ∧ J0 t7 t8 t9 w_) (fun t7 t8 t9 w_ => m0 t7 t8 t9 w_) (fun t7 t8 t9 w_ t7' t8' t9' t13' t14' t15' w__ => Ahead w w__ ∧ J2 t7 t8 t9 w_ t7' t8' t9' t13' t14' t15' w__) (fun t7 t8 t9 w_ t7' t8' t9' t13' t14' t15' w__ => m2 t7 t8 t9 w_ t7' t8' t9' t13' t14' t15' w__) ?_ ?_ ?_
  · have A : Ahead w w := Ahead.refl w
    have X : Ext w w := Ext.refl w
    exact ⟨A, h⟩
  · clear h
    rintro t7 t8 t9 w_ ⟨A, hJ0⟩
    have h := h0  t7 t8 t9 w_ A hJ0
    have X : Ext w_ w_ := Ext.refl _
    refine br_map h (fun h_ => ?_) (fun h_ => ?_)
    ·replace h := h_;clear h_;refine semA_map h ?_;clear h;rintro ad1 _ ⟨rfl, h⟩;obtain ⟨s1, hc_, h⟩ := h;refine ⟨s1, hc_, ?_⟩;clear hc_;exact ⟨A, h⟩
    ·replace h := h_;clear h_;exact ⟨A, h⟩
  · clear h
    rintro t7 t8 t9 w_ ⟨A_0, hJ0⟩
    rintro t7' t8' t9' t13' t14' t15' w__ ⟨A, hJ2⟩
    have h := h2  t7 t8 t9 w_ A_0 hJ0 t7' t8' t9' t13' t14' t15' w__ A hJ2
    have X : Ext w__ w__ := Ext.refl _
    refine br_map h (fun h_ => ?_) (fun h_ => ?_)
    ·replace h := h_;clear h_;refine semA_map h ?_;clear h;rintro ad2 _ ⟨rfl, h⟩;obtain ⟨b1, hc_, h⟩ := h;refine ⟨b1, hc_, ?_⟩;clear hc_;obtain ⟨s2, hc_, h⟩ := h;refine ⟨s2, hc_, ?_⟩;clear hc_;obtain ⟨x1, hc_, h⟩ := h;refine ⟨x1, hc_, ?_⟩;clear hc_;refine newC_t fun bk1 u1 hb a _ B1 => ?_;have g1 := le_eq A.size hb;obtain ⟨A, X⟩ := axa2 a A X;refine s3_t B1 fun u2 k B1 => ?_;obtain ⟨A, X⟩ := axu2 k g1 A X;refine ldI_t 2 B1 rfl ?_;replace h := h _ X A;refine Calls.mono h ?_;clear h;rintro e1 w4 ⟨b2, he_, a, h⟩;refine ⟨b2, he_, ?_⟩;clear he_;replace B1 := B1.ahead a;obtain ⟨A, X⟩ := axr2 a A;refine br_map h (fun h_ => ?_) (fun h_ => ?_)
     ·replace h := h_;clear h_;exact ⟨A, h⟩
     ·replace h := h_;clear h_;exact ⟨⟨A, h.1⟩, h.2⟩
    ·replace h := h_;clear h_;exact ⟨⟨A, h.1⟩, h.2⟩

/-- surd/dyadic.Sum: function 29, its local variables as values. -/
theorem dyadic_Sum_v2 (a0_l : Slc) (w : World) (R : Ending → World → Prop)
    (J0 : Slc → Int → Int → Bool → Slc → Int → Bool → Slc → Int → World → Prop) (m0 : Slc → Int → Int → World → Nat)
    (h : ∀ w1, Ext w w1 → Ahead w w1 →
    (newC w1 #[a0_l.v] 64 fun ad1 w2 =>
     Calls Tryd.prog 61 #[(⟨some ad1, 1, 1⟩ : Slc).v] w2 fun e1 w3 =>
     ∃ x1 : Int, e1 = .returned (Value.int .i64 x1) ∧ Ahead w2 w3 ∧
     (br (x1 != 0)
      (∀ w4, Ext w3 w4 → Ahead w w4 →
       (R (.returned (Value.tuple #[Value.agg #[Value.bool (false), ((⟨none, 0, 0⟩ : Slc)).v, Value.int .i64 (0 : Int)], Value.int .i64 x1])) w4))
      (∀ w11, Ext w3 w11 → Ahead w w11 →
       (J0 a0_l (a0_l.n : Int) 0 false (⟨none, 0, 0⟩ : Slc) 0 false (⟨none, 0, 0⟩ : Slc) 0 w11)))))
    (h0 : ∀ (t16 : Slc) (t17 : Int) (t18 : Int) (t2_0 : Bool) (t2_1 : Slc) (t2_2 : Int) (t5_s_0 : Bool) (t5_s_1 : Slc) (t5_s_2 : Int) (w_ : World), Ahead w w_ → J0 t16 t17 t18 t2_0 t2_1 t2_2 t5_s_0 t5_s_1 t5_s_2 w_ → 
    br (decide (t18 < t17))
    (semA Tryd.prog (Instr.indexAt 64 t16.v (Value.int .i64 t18)) w_ fun ad2 w5 => w5 = w_ ∧
     (ldB ad2 w_ fun b1 =>
      ldS (ad2.add 1) w_ fun s1 =>
      ldI .i64 (ad2.add 2) w_ fun x2 =>
      ∀ w6, Ext w_ w6 → Ahead w w6 →
      (Calls Tryd.prog 21 #[Value.agg #[Value.bool t5_s_0, t5_s_1.v, Value.int .i64 t5_s_2], Value.agg #[Value.bool b1, s1.v, Value.int .i64 x2]] w6 fun e2 w7 =>
       ∃ b2 : Bool, ∃ s2 : Slc, ∃ x3 : Int, ∃ x4 : Int, e2 = .returned (Value.tuple #[Value.agg #[Value.bool b2, s2.v, Value.int .i64 x3], Value.int .i64 x4]) ∧ Ahead w6 w7 ∧
       (br (x4 != 0)
        (∀ w8, Ext w7 w8 → Ahead w w8 →
         (R (.returned (Value.tuple #[Value.agg #[Value.bool (false), ((⟨none, 0, 0⟩ : Slc)).v, Value.int .i64 (0 : Int)], Value.int .i64 x4])) w8))
        (∀ w9, Ext w7 w9 → Ahead w w9 →
         (J0 t16 t17 (IntKind.i64.wrap (t18 + 1)) t2_0 t2_1 t2_2 b2 s2 x3 w9 ∧
          m0 t16 t17 (IntKind.i64.wrap (t18 + 1)) w9 < m0 t16 t17 t18 w_))))))
    (∀ w10, Ext w_ w10 → Ahead w w10 →
     (R (.returned (Value.tuple #[Value.agg #[Value.bool t5_s_0, t5_s_1.v, Value.int .i64 t5_s_2], Value.int .i64 0])) w10))) :
    Calls Tryd.prog 29 #[a0_l.v] w (fun e_ w_ => Ahead w w_ ∧ R e_ w_) := by
  refine dyadic_Sum_vc a0_l w _ (fun t2 t5_s t16 t17 t18 w_ => ∃ c2_ : Nat, ∃ c5_ : Nat, ∃ t2_0 : Bool, ∃ t2_1 : Slc, ∃ t2_2 : Int, ∃ t5_s_0 : Bool, ∃ t5_s_1 : Slc, ∃ t5_s_2 : Int, t2 = ⟨c2_, 0, none⟩ ∧ Blt w_ c2_ 39 #[Value.bool t2_0, t2_1.v, Value.int .i64 t2_2] ∧ w.heap.size ≤ c2_ ∧ t5_s = ⟨c5_, 0, none⟩ ∧ Blt w_ c5_ 39 #[Value.bool t5_s_0, t5_s_1.v, Value.int .i64 t5_s_2] ∧ w.heap.size ≤ c5_ ∧ c2_ ≠ c5_ ∧ Ahead w w_ ∧ J0 t16 t17 t18 t2_0 t2_1 t2_2 t5_s_0 t5_s_1 t5_s_2 w_) (fun t2 t5_s t16 t17 t18 w_ => m0 t16 t17 t18 w_) ?_ ?_
  · have A : Ahead w w := Ahead.refl w
    have X : Ext w w := Ext.refl w
    refine newC_t fun bk1 u1 hb a _ B1 => ?_;have g1 := le_eq A.size hb;obtain ⟨A, X⟩ := axa2 a A X;replace h := h _ X A;refine newC_map h fun ad1 w2 a h_ => ?_;replace h := h_;clear h_;replace B1 := B1.ahead a;obtain ⟨A, X⟩ := axr2 a A;refine Calls.mono h ?_;clear h;rintro e1 w3 ⟨x1, he_, a, h⟩;refine ⟨x1, he_, ?_⟩;clear he_;replace B1 := B1.ahead a;obtain ⟨A, X⟩ := axr2 a A;refine br_map h (fun h_ => ?_) (fun h_ => ?_)
    ·replace h := h_;clear h_;refine s3_t B1 fun u2 k B1 => ?_;obtain ⟨A, X⟩ := axu2 k g1 A X;refine l3_t B1 ?_;replace h := h _ X A;exact ⟨A, h⟩
    ·replace h := h_;clear h_;refine newC_t fun bk2 u3 hb a _ B2 => ?_;have g2 := le_eq A.size hb;have l1_2 := lt1 hb B1;replace B1 := B1.ahead a;obtain ⟨A, X⟩ := axa2 a A X;replace h := h _ X A;exact ⟨bk1, bk2, false, (⟨none, 0, 0⟩ : Slc), 0, false, (⟨none, 0, 0⟩ : Slc), 0, rfl, B1, g1, rfl, B2, g2, (by omega), A, h⟩
  · clear h
    rintro t2 t5_s t16 t17 t18 w_ ⟨bk1, bk2, t2_0, t2_1, t2_2, t5_s_0, t5_s_1, t5_s_2, rfl, B1, g1, rfl, B2, g2, n1_2, A, hJ0⟩
    have h := h0  t16 t17 t18 t2_0 t2_1 t2_2 t5_s_0 t5_s_1 t5_s_2 w_ A hJ0
    have X : Ext w_ w_ := Ext.refl _
    refine br_map h (fun h_ => ?_) (fun h_ => ?_)
    ·replace h := h_;clear h_;refine semA_map h ?_;clear h;rintro ad2 _ ⟨rfl, h⟩;obtain ⟨b1, hc_, h⟩ := h;refine ⟨b1, hc_, ?_⟩;clear hc_;obtain ⟨s1, hc_, h⟩ := h;refine ⟨s1, hc_, ?_⟩;clear hc_;obtain ⟨x2, hc_, h⟩ := h;refine ⟨x2, hc_, ?_⟩;clear hc_;refine newC_t fun bk3 u4 hb a _ B3 => ?_;have g3 := le_eq A.size hb;obtain ⟨_, _⟩ := lt2 hb B1 B2;obtain ⟨B1, B2⟩ := ah2 a B1 B2;obtain ⟨A, X⟩ := axa2 a A X;refine s3_t B3 fun u5 k B3 => ?_;obtain ⟨B1, B2⟩ := up2 k B1 B2;obtain ⟨A, X⟩ := axu2 k g3 A X;refine l3_t B2 ?_;refine l3_t B3 ?_;replace h := h _ X A;refine Calls.mono h ?_;clear h;rintro e2 w7 ⟨b2, s2, x3, x4, he_, a, h⟩;refine ⟨b2, s2, x3, x4, he_, ?_⟩;clear he_;obtain ⟨B1, B2, B3⟩ := ah3 a B1 B2 B3;obtain ⟨A, X⟩ := axr2 a A;refine s3_t B2 fun u6 k B2 => ?_;obtain ⟨B1, B3⟩ := up2 k B1 B3;obtain ⟨A, X⟩ := axu2 k g2 A X;refine br_map h (fun h_ => ?_) (fun h_ => ?_)
     ·replace h := h_;clear h_;refine s3_t B1 fun u7 k B1 => ?_;obtain ⟨B2, B3⟩ := up2 k B2 B3;obtain ⟨A, X⟩ := axu2 k g1 A X;refine l3_t B1 ?_;replace h := h _ X A;exact ⟨A, h⟩
     ·replace h := h_;clear h_;replace h := h _ X A;exact ⟨⟨bk1, bk2, t2_0, t2_1, t2_2, b2, s2, x3, rfl, B1, g1, rfl, B2, g2, (by omega), A, h.1⟩, h.2⟩
    ·replace h := h_;clear h_;refine l3_t B2 ?_;refine s3_t B1 fun u8 k B1 => ?_;replace B2 := up1 k B2;obtain ⟨A, X⟩ := axu2 k g1 A X;refine l3_t B1 ?_;replace h := h _ X A;exact ⟨A, h⟩

/-- surd/dyadic.Dot: function 30, its local variables as values. -/
theorem dyadic_Dot_v2 (a0_a : Slc) (a1_b : Slc) (w : World) (R : Ending → World → Prop)
    (J0 : Slc → Slc → Int → Int → Bool → Slc → Int → Bool → Slc → Int → World → Prop) (m0 : Slc → Slc → Int → Int → World → Nat)
    (h : ∀ w1, Ext w w1 → Ahead w w1 →
    (newC w1 #[a0_a.v, a1_b.v] 64 fun ad1 w2 =>
     Calls Tryd.prog 61 #[(⟨some ad1, 2, 2⟩ : Slc).v] w2 fun e1 w3 =>
     ∃ x1 : Int, e1 = .returned (Value.int .i64 x1) ∧ Ahead w2 w3 ∧
     (br (x1 != 0)
      (∀ w4, Ext w3 w4 → Ahead w w4 →
       (R (.returned (Value.tuple #[Value.agg #[Value.bool (false), ((⟨none, 0, 0⟩ : Slc)).v, Value.int .i64 (0 : Int)], Value.int .i64 x1])) w4))
      (br ((a0_a.n : Int) != (a1_b.n : Int))
       (∀ w5, Ext w3 w5 → Ahead w w5 →
        (R (.returned (Value.tuple #[Value.agg #[Value.bool (false), ((⟨none, 0, 0⟩ : Slc)).v, Value.int .i64 (0 : Int)], Value.int .i64 1])) w5))
       (∀ w24, Ext w3 w24 → Ahead w w24 →
        (J0 a0_a a1_b (a0_a.n : Int) 0 false (⟨none, 0, 0⟩ : Slc) 0 false (⟨none, 0, 0⟩ : Slc) 0 w24))))))
    (h0 : ∀ (t0_a : Slc) (t1_b : Slc) (t26 : Int) (t27 : Int) (t4_0 : Bool) (t4_1 : Slc) (t4_2 : Int) (t7_s_0 : Bool) (t7_s_1 : Slc) (t7_s_2 : Int) (w_ : World), Ahead w w_ → J0 t0_a t1_b t26 t27 t4_0 t4_1 t4_2 t7_s_0 t7_s_1 t7_s_2 w_ → 
    br (decide (t27 < t26))
    (∀ w6, Ext w_ w6 → Ahead w w6 →
     (anyA Tryd.prog (Instr.indexAt 64 t0_a.v (Value.int .i64 t27)) fun ad2 =>
      ad2.block < w.heap.size ∧
      (ldB ad2 w6 fun b1 =>
       ldS (ad2.add 1) w6 fun s1 =>
       ldI .i64 (ad2.add 2) w6 fun x2 =>
       anyA Tryd.prog (Instr.indexAt 64 t1_b.v (Value.int .i64 t27)) fun ad3 =>
       ad3.block < w.heap.size ∧
       (ldB ad3 w6 fun b2 =>
        ldS (ad3.add 1) w6 fun s2 =>
        ldI .i64 (ad3.add 2) w6 fun x3 =>
        ∀ w7, Ext w6 w7 → Ahead w w7 →
        (Calls Tryd.prog 11 #[Value.agg #[Value.bool b1, s1.v, Value.int .i64 x2], Value.agg #[Value.bool b2, s2.v, Value.int .i64 x3]] w7 fun e2 w8 =>
         ∃ b3 : Bool, ∃ s3 : Slc, ∃ x4 : Int, ∃ x5 : Int, e2 = .returned (Value.tuple #[Value.agg #[Value.bool b3, s3.v, Value.int .i64 x4], Value.int .i64 x5]) ∧ Ahead w7 w8 ∧
         (br (x5 == 0)
          (∀ w9, Ext w8 w9 → Ahead w w9 →
           (Calls Tryd.prog 21 #[Value.agg #[Value.bool t7_s_0, t7_s_1.v, Value.int .i64 t7_s_2], Value.agg #[Value.bool b3, s3.v, Value.int .i64 x4]] w9 fun e3 w10 =>
            ∃ b4 : Bool, ∃ s4 : Slc, ∃ x6 : Int, ∃ x7 : Int, e3 = .returned (Value.tuple #[Value.agg #[Value.bool b4, s4.v, Value.int .i64 x6], Value.int .i64 x7]) ∧ Ahead w9 w10 ∧
            (br (x7 != 0)
             (∀ w11, Ext w10 w11 → Ahead w w11 →
              (R (.returned (Value.tuple #[Value.agg #[Value.bool (false), ((⟨none, 0, 0⟩ : Slc)).v, Value.int .i64 (0 : Int)], Value.int .i64 x7])) w11))
             (∀ w12, Ext w10 w12 → Ahead w w12 →
              (J0 t0_a t1_b t26 (IntKind.i64.wrap (t27 + 1)) t4_0 t4_1 t4_2 b4 s4 x6 w12 ∧
               m0 t0_a t1_b t26 (IntKind.i64.wrap (t27 + 1)) w12 < m0 t0_a t1_b t26 t27 w_)))))
          (br (x5 != 0)
           (∀ w13, Ext w8 w13 → Ahead w w13 →
            (R (.returned (Value.tuple #[Value.agg #[Value.bool (false), ((⟨none, 0, 0⟩ : Slc)).v, Value.int .i64 (0 : Int)], Value.int .i64 x5])) w13))
           (∀ w14, Ext w8 w14 → Ahead w w14 →
            (J0 t0_a t1_b t26 (IntKind.i64.wrap (t27 + 1)) t4_0 t4_1 t4_2 t7_s_0 t7_s_1 t7_s_2 w14 ∧
             m0 t0_a t1_b t26 (IntKind.i64.wrap (t27 + 1)) w14 < m0 t0_a t1_b t26 t27 w_)))))))))
    (∀ w23, Ext w_ w23 → Ahead w w23 →
     (R (.returned (Value.tuple #[Value.agg #[Value.bool t7_s_0, t7_s_1.v, Value.int .i64 t7_s_2], Value.int .i64 0])) w23))) :
    Calls Tryd.prog 30 #[a0_a.v, a1_b.v] w (fun e_ w_ => Ahead w w_ ∧ R e_ w_) := by
  refine dyadic_Dot_vc a0_a a1_b w _ (fun t0_a t1_b t4 t7_s t26 t27 w_ => ∃ c4_ : Nat, ∃ c7_ : Nat, ∃ t4_0 : Bool, ∃ t4_1 : Slc, ∃ t4_2 : Int, ∃ t7_s_0 : Bool, ∃ t7_s_1 : Slc, ∃ t7_s_2 : Int, t4 = ⟨c4_, 0, none⟩ ∧ Blt w_ c4_ 39 #[Value.bool t4_0, t4_1.v, Value.int .i64 t4_2] ∧ w.heap.size ≤ c4_ ∧ t7_s = ⟨c7_, 0, none⟩ ∧ Blt w_ c7_ 39 #[Value.bool t7_s_0, t7_s_1.v, Value.int .i64 t7_s_2] ∧ w.heap.size ≤ c7_ ∧ c4_ ≠ c7_ ∧ Ahead w w_ ∧ J0 t0_a t1_b t26 t27 t4_0 t4_1 t4_2 t7_s_0 t7_s_1 t7_s_2 w_) (fun t0_a t1_b t4 t7_s t26 t27 w_ => m0 t0_a t1_b t26 t27 w_) ?_ ?_
  · have A : Ahead w w := Ahead.refl w
    have X : Ext w w := Ext.refl w
    refine newC_t fun bk1 u1 hb a _ B1 => ?_;have g1 := le_eq A.size hb;obtain ⟨A, X⟩ := axa2 a A X;replace h := h _ X A;refine newC_map h fun ad1 w2 a h_ => ?_;replace h := h_;clear h_;replace B1 := B1.ahead a;obtain ⟨A, X⟩ := axr2 a A;refine Calls.mono h ?_;clear h;rintro e1 w3 ⟨x1, he_, a, h⟩;refine ⟨x1, he_, ?_⟩;clear he_;replace B1 := B1.ahead a;obtain ⟨A, X⟩ := axr2 a A;refine br_map h (fun h_ => ?_) (fun h_ => ?_)
    ·replace h := h_;clear h_;refine s3_t B1 fun u2 k B1 => ?_;obtain ⟨A, X⟩ := axu2 k g1 A X;refine l3_t B1 ?_;replace h := h _ X A;exact ⟨A, h⟩
    ·replace h := h_;clear h_;refine br_map h (fun h_ => ?_) (fun h_ => ?_)
     ·replace h := h_;clear h_;refine s3_t B1 fun u3 k B1 => ?_;obtain ⟨A, X⟩ := axu2 k g1 A X;refine l3_t B1 ?_;replace h := h _ X A;exact ⟨A, h⟩
     ·replace h := h_;clear h_;refine newC_t fun bk2 u4 hb a _ B2 => ?_;have g2 := le_eq A.size hb;have l1_2 := lt1 hb B1;replace B1 := B1.ahead a;obtain ⟨A, X⟩ := axa2 a A X;replace h := h _ X A;exact ⟨bk1, bk2, false, (⟨none, 0, 0⟩ : Slc), 0, false, (⟨none, 0, 0⟩ : Slc), 0, rfl, B1, g1, rfl, B2, g2, (by omega), A, h⟩
  · clear h
    rintro t0_a t1_b t4 t7_s t26 t27 w_ ⟨bk1, bk2, t4_0, t4_1, t4_2, t7_s_0, t7_s_1, t7_s_2, rfl, B1, g1, rfl, B2, g2, n1_2, A, hJ0⟩
    have h := h0  t0_a t1_b t26 t27 t4_0 t4_1 t4_2 t7_s_0 t7_s_1 t7_s_2 w_ A hJ0
    have X : Ext w_ w_ := Ext.refl _
    refine br_map h (fun h_ => ?_) (fun h_ => ?_)
    ·replace h := h_;clear h_;have hd_ := Sp.Ahead.drew w_;obtain ⟨B1, B2⟩ := ah2 hd_ B1 B2;obtain ⟨A, X⟩ := axa2 hd_ A X;clear hd_;have z1 := B1.lt;have z2 := B2.lt;let V_ : Nat → Nat → Prop := fun (q_ k : Nat) => (k < 0 ∨ w_.drew.heap.size ≤ k) ∧ 0 ≤ k;refine ⟨V_, ?_⟩;have Y_ : w_.drew.heap.size ≤ w_.drew.heap.size := Nat.le_refl _;have Z0_ := A.size;replace h := h _ X A;replace X : Ext w_.drew w_.drew := Ext.refl _;obtain ⟨ad2, hc_, h⟩ := h;refine ⟨ad2, hc_, ?_⟩;clear hc_;replace X : Ext w_.drew w_.drew := Ext.refl _;obtain ⟨hl_, h⟩ := h;refine ⟨(fun hv_ => (by replace hv_ : _ ∧ _ := hv_; omega)), ?_⟩;clear hl_;obtain ⟨b1, hc_, h⟩ := h;refine ⟨b1, hc_, ?_⟩;clear hc_;obtain ⟨s1, hc_, h⟩ := h;refine ⟨s1, hc_, ?_⟩;clear hc_;obtain ⟨x2, hc_, h⟩ := h;refine ⟨x2, hc_, ?_⟩;clear hc_;replace X : Ext w_.drew w_.drew := Ext.refl _;obtain ⟨ad3, hc_, h⟩ := h;refine ⟨ad3, hc_, ?_⟩;clear hc_;replace X : Ext w_.drew w_.drew := Ext.refl _;obtain ⟨hl_, h⟩ := h;refine ⟨(fun hv_ => (by replace hv_ : _ ∧ _ := hv_; omega)), ?_⟩;clear hl_;obtain ⟨b2, hc_, h⟩ := h;refine ⟨b2, hc_, ?_⟩;clear hc_;obtain ⟨s2, hc_, h⟩ := h;refine ⟨s2, hc_, ?_⟩;clear hc_;obtain ⟨x3, hc_, h⟩ := h;refine ⟨x3, hc_, ?_⟩;clear hc_;refine ⟨?_, ?_⟩
     ·replace h := h _ X A;refine Calls.mono h ?_;clear h;rintro e2 w8 ⟨b3, s3, x4, x5, he_, a, h⟩;refine ⟨b3, s3, x4, x5, he_, ?_⟩;clear he_;obtain ⟨B1, B2⟩ := ah2 a B1 B2;obtain ⟨A, X, Y_⟩ := axr3 a A Y_;refine newC_t fun bk3 u5 hb a _ B3 => ?_;have g3 := le_eq A.size hb;obtain ⟨_, _⟩ := lt2 hb B1 B2;have y3 := le_eq Y_ hb;obtain ⟨B1, B2⟩ := ah2 a B1 B2;obtain ⟨A, X, Y_⟩ := axa3 a A X Y_;refine bb2 a ?_;refine s3_t B3 fun u6 k B3 => ?_;obtain ⟨B1, B2⟩ := up2 k B1 B2;obtain ⟨A, X, Y_⟩ := axu3 k g3 A X Y_;refine br_map h (fun h_ => ?_) (fun h_ => ?_)
      ·replace h := h_;clear h_;refine l3_t B2 ?_;refine l3_t B3 ?_;replace h := h _ X A;refine Calls.mono h ?_;clear h;rintro e3 w10 ⟨b4, s4, x6, x7, he_, a, h⟩;refine ⟨b4, s4, x6, x7, he_, ?_⟩;clear he_;obtain ⟨B1, B2, B3⟩ := ah3 a B1 B2 B3;obtain ⟨A, X⟩ := axr2 a A;refine s3_t B2 fun u7 k B2 => ?_;obtain ⟨B1, B3⟩ := up2 k B1 B3;obtain ⟨A, X⟩ := axu2 k g2 A X;refine br_map h (fun h_ => ?_) (fun h_ => ?_)
       ·replace h := h_;clear h_;refine s3_t B1 fun u8 k B1 => ?_;obtain ⟨B2, B3⟩ := up2 k B2 B3;obtain ⟨A, X⟩ := axu2 k g1 A X;refine l3_t B1 ?_;replace h := h _ X A;exact ⟨A, h⟩
       ·replace h := h_;clear h_;replace h := h _ X A;exact ⟨⟨bk1, bk2, t4_0, t4_1, t4_2, b4, s4, x6, rfl, B1, g1, rfl, B2, g2, (by omega), A, h.1⟩, h.2⟩
      ·replace h := h_;clear h_;refine br_map h (fun h_ => ?_) (fun h_ => ?_)
       ·replace h := h_;clear h_;refine s3_t B1 fun u9 k B1 => ?_;obtain ⟨B2, B3⟩ := up2 k B2 B3;obtain ⟨A, X⟩ := axu2 k g1 A X;refine l3_t B1 ?_;replace h := h _ X A;exact ⟨A, h⟩
       ·replace h := h_;clear h_;replace h := h _ X A;exact ⟨⟨bk1, bk2, t4_0, t4_1, t4_2, t7_s_0, t7_s_1, t7_s_2, rfl, B1, g1, rfl, B2, g2, (by omega), A, h.1⟩, h.2⟩
     ·refine newC_t fun bk4 u10 hb a _ B4 => ?_;have g4 := le_eq A.size hb;obtain ⟨_, _⟩ := lt2 hb B1 B2;have y4 := le_eq Y_ hb;obtain ⟨B1, B2⟩ := ah2 a B1 B2;obtain ⟨A, X, Y_⟩ := axa3 a A X Y_;refine bb2 a ?_;replace h := h _ X A;refine Calls.mono h ?_;clear h;rintro e4 w16 ⟨b5, s5, x8, x9, he_, a, h⟩;refine ⟨b5, s5, x8, x9, he_, ?_⟩;clear he_;obtain ⟨B1, B2, B4⟩ := ah3 a B1 B2 B4;obtain ⟨A, X, Y_⟩ := axr3 a A Y_;refine s3_t B4 fun u11 k B4 => ?_;obtain ⟨B1, B2⟩ := up2 k B1 B2;obtain ⟨A, X, Y_⟩ := axu3 k g4 A X Y_;refine br_map h (fun h_ => ?_) (fun h_ => ?_)
      ·replace h := h_;clear h_;refine l3_t B2 ?_;refine l3_t B4 ?_;replace h := h _ X A;refine Calls.mono h ?_;clear h;rintro e5 w18 ⟨b6, s6, x10, x11, he_, a, h⟩;refine ⟨b6, s6, x10, x11, he_, ?_⟩;clear he_;obtain ⟨B1, B2, B4⟩ := ah3 a B1 B2 B4;obtain ⟨A, X⟩ := axr2 a A;refine s3_t B2 fun u12 k B2 => ?_;obtain ⟨B1, B4⟩ := up2 k B1 B4;obtain ⟨A, X⟩ := axu2 k g2 A X;refine br_map h (fun h_ => ?_) (fun h_ => ?_)
       ·replace h := h_;clear h_;refine s3_t B1 fun u13 k B1 => ?_;obtain ⟨B2, B4⟩ := up2 k B2 B4;obtain ⟨A, X⟩ := axu2 k g1 A X;refine l3_t B1 ?_;replace h := h _ X A;exact ⟨A, h⟩
       ·replace h := h_;clear h_;replace h := h _ X A;exact ⟨⟨bk1, bk2, t4_0, t4_1, t4_2, b6, s6, x10, rfl, B1, g1, rfl, B2, g2, (by omega), A, h.1⟩, h.2⟩
      ·replace h := h_;clear h_;refine br_map h (fun h_ => ?_) (fun h_ => ?_)
       ·replace h := h_;clear h_;refine s3_t B1 fun u14 k B1 => ?_;obtain ⟨B2, B4⟩ := up2 k B2 B4;obtain ⟨A, X⟩ := axu2 k g1 A X;refine l3_t B1 ?_;replace h := h _ X A;exact ⟨A, h⟩
       ·replace h := h_;clear h_;replace h := h _ X A;exact ⟨⟨bk1, bk2, t4_0, t4_1, t4_2, t7_s_0, t7_s_1, t7_s_2, rfl, B1, g1, rfl, B2, g2, (by omega), A, h.1⟩, h.2⟩
    ·replace h := h_;clear h_;refine l3_t B2 ?_;refine s3_t B1 fun u15 k B1 => ?_;replace B2 := up1 k B2;obtain ⟨A, X⟩ := axu2 k g1 A X;refine l3_t B1 ?_;replace h := h _ X A;exact ⟨A, h⟩

/-- surd/dyadic.Value: function 31, its local variables as values. -/
theorem dyadic_Value_v2 (a0_c : Slc) (a1_x_0 : Bool) (a1_x_1 : Slc) (a1_x_2 : Int) (w : World) (R : Ending → World → Prop)
    (J0 : Slc → Int → Bool → Slc → Int → Bool → Slc → Int → Bool → Slc → Int → World → Prop) (m0 : Slc → Int → World → Nat)
    (h : br (decide ((a0_c.n : Int) > 1000))
    (∀ w1, Ext w w1 → Ahead w w1 →
     (R (.returned (Value.tuple #[Value.agg #[Value.bool (false), ((⟨none, 0, 0⟩ : Slc)).v, Value.int .i64 (0 : Int)], Value.int .i64 1])) w1))
    (∀ w2, Ext w w2 → Ahead w w2 →
     (newC w2 #[Value.bool a1_x_0, a1_x_1.v, Value.int .i64 a1_x_2] 39 fun ad1 w3 =>
      newC w3 #[a0_c.v, (⟨some ad1, 1, 1⟩ : Slc).v] 64 fun ad2 w4 =>
      Calls Tryd.prog 61 #[(⟨some ad2, 2, 2⟩ : Slc).v] w4 fun e1 w5 =>
      ∃ x1 : Int, e1 = .returned (Value.int .i64 x1) ∧ Ahead w4 w5 ∧
      (br (x1 != 0)
       (∀ w6, Ext w5 w6 → Ahead w w6 →
        (R (.returned (Value.tuple #[Value.agg #[Value.bool (false), ((⟨none, 0, 0⟩ : Slc)).v, Value.int .i64 (0 : Int)], Value.int .i64 x1])) w6))
       (∀ w15, Ext w5 w15 → Ahead w w15 →
        (J0 a0_c (IntKind.i64.wrap ((a0_c.n : Int) - 1)) a1_x_0 a1_x_1 a1_x_2 false (⟨none, 0, 0⟩ : Slc) 0 false (⟨none, 0, 0⟩ : Slc) 0 w15))))))
    (h0 : ∀ (t0_c : Slc) (t8_i : Int) (t3_x_0 : Bool) (t3_x_1 : Slc) (t3_x_2 : Int) (t4_0 : Bool) (t4_1 : Slc) (t4_2 : Int) (t7_s_0 : Bool) (t7_s_1 : Slc) (t7_s_2 : Int) (w_ : World), Ahead w w_ → J0 t0_c t8_i t3_x_0 t3_x_1 t3_x_2 t4_0 t4_1 t4_2 t7_s_0 t7_s_1 t7_s_2 w_ → 
    br (decide (t8_i ≥ 0))
    (Calls Tryd.prog 11 #[Value.agg #[Value.bool t7_s_0, t7_s_1.v, Value.int .i64 t7_s_2], Value.agg #[Value.bool t3_x_0, t3_x_1.v, Value.int .i64 t3_x_2]] w_ fun e2 w7 =>
     ∃ b1 : Bool, ∃ s1 : Slc, ∃ x2 : Int, ∃ x3 : Int, e2 = .returned (Value.tuple #[Value.agg #[Value.bool b1, s1.v, Value.int .i64 x2], Value.int .i64 x3]) ∧ Ahead w_ w7 ∧
     (br (x3 == 0)
      (∀ w8, Ext w7 w8 → Ahead w w8 →
       (anyA Tryd.prog (Instr.indexAt 64 t0_c.v (Value.int .i64 t8_i)) fun ad3 =>
        ad3.block < w.heap.size ∧
        (ldB ad3 w8 fun b2 =>
         ldS (ad3.add 1) w8 fun s2 =>
         ldI .i64 (ad3.add 2) w8 fun x4 =>
         Calls Tryd.prog 21 #[Value.agg #[Value.bool b1, s1.v, Value.int .i64 x2], Value.agg #[Value.bool b2, s2.v, Value.int .i64 x4]] w8 fun e3 w9 =>
         ∃ b3 : Bool, ∃ s3 : Slc, ∃ x5 : Int, ∃ x6 : Int, e3 = .returned (Value.tuple #[Value.agg #[Value.bool b3, s3.v, Value.int .i64 x5], Value.int .i64 x6]) ∧ Ahead w8 w9 ∧
         (br (x6 != 0)
          (∀ w10, Ext w9 w10 → Ahead w w10 →
           (R (.returned (Value.tuple #[Value.agg #[Value.bool (false), ((⟨none, 0, 0⟩ : Slc)).v, Value.int .i64 (0 : Int)], Value.int .i64 x6])) w10))
          (∀ w11, Ext w9 w11 → Ahead w w11 →
           (J0 t0_c (IntKind.i64.wrap (t8_i - 1)) t3_x_0 t3_x_1 t3_x_2 t4_0 t4_1 t4_2 b3 s3 x5 w11 ∧
            m0 t0_c (IntKind.i64.wrap (t8_i - 1)) w11 < m0 t0_c t8_i w_))))))
      (br (x3 != 0)
       (∀ w12, Ext w7 w12 → Ahead w w12 →
        (R (.returned (Value.tuple #[Value.agg #[Value.bool (false), ((⟨none, 0, 0⟩ : Slc)).v, Value.int .i64 (0 : Int)], Value.int .i64 x3])) w12))
       (∀ w13, Ext w7 w13 → Ahead w w13 →
        (J0 t0_c (IntKind.i64.wrap (t8_i - 1)) t3_x_0 t3_x_1 t3_x_2 t4_0 t4_1 t4_2 t7_s_0 t7_s_1 t7_s_2 w13 ∧
         m0 t0_c (IntKind.i64.wrap (t8_i - 1)) w13 < m0 t0_c t8_i w_)))))
    (∀ w14, Ext w_ w14 → Ahead w w14 →
     (R (.returned (Value.tuple #[Value.agg #[Value.bool t7_s_0, t7_s_1.v, Value.int .i64 t7_s_2], Value.int .i64 0])) w14))) :
    Calls Tryd.prog 31 #[a0_c.v, Value.agg #[Value.bool a1_x_0, a1_x_1.v, Value.int .i64 a1_x_2]] w (fun e_ w_ => Ahead w w_ ∧ R e_ w_) := by
  refine dyadic_Value_vc a0_c a1_x_0 a1_x_1 a1_x_2 w _ (fun t0_c t3_x t4 t7_s t8_i w_ => ∃ c3_ : Nat, ∃ c4_ : Nat, ∃ c7_ : Nat, ∃ t3_x_0 : Bool, ∃ t3_x_1 : Slc, ∃ t3_x_2 : Int, ∃ t4_0 : Bool, ∃ t4_1 : Slc, ∃ t4_2 : Int, ∃ t7_s_0 : Bool, ∃ t7_s_1 : Slc, ∃ t7_s_2 : Int, t3_x = ⟨c3_, 0, none⟩ ∧ Blt w_ c3_ 39 #[Value.bool t3_x_0, t3_x_1.v, Value.int .i64 t3_x_2] ∧ w.heap.size ≤ c3_ ∧ t4 = ⟨c4_, 0, none⟩ ∧ Blt w_ c4_ 39 #[Value.bool t4_0, t4_1.v, Value.int .i64 t4_2] ∧ w.heap.size ≤ c4_ ∧ t7_s = ⟨c7_, 0, none⟩ ∧ Blt w_ c7_ 39 #[Value.bool t7_s_0, t7_s_1.v, Value.int .i64 t7_s_2] ∧ w.heap.size ≤ c7_ ∧ c3_ ≠ c4_ ∧ c3_ ≠ c7_ ∧ c4_ ≠ c7_ ∧ Ahead w w_ ∧ J0 t0_c t8_i t3_x_0 t3_x_1 t3_x_2 t4_0 t4_1 t4_2 t7_s_0 t7_s_1 t7_s_2 w_) (fun t0_c t3_x t4 t7_s t8_i w_ => m0 t0_c t8_i w_) ?_ ?_
  · have A : Ahead w w := Ahead.refl w
    have X : Ext w w := Ext.refl w
    refine newC_t fun bk1 u1 hb a _ B1 => ?_;have g1 := le_eq A.size hb;obtain ⟨A, X⟩ := axa2 a A X;refine newC_t fun bk2 u2 hb a _ B2 => ?_;have g2 := le_eq A.size hb;have l1_2 := lt1 hb B1;replace B1 := B1.ahead a;obtain ⟨A, X⟩ := axa2 a A X;refine br_map h (fun h_ => ?_) (fun h_ => ?_)
    ·replace h := h_;clear h_;refine s3_t B2 fun u3 k B2 => ?_;replace B1 := up1 k B1;obtain ⟨A, X⟩ := axu2 k g2 A X;refine l3_t B2 ?_;replace h := h _ X A;exact ⟨A, h⟩
    ·replace h := h_;clear h_;refine l3_t B1 ?_;replace h := h _ X A;refine newC_map h fun ad1 w3 a h_ => ?_;replace h := h_;clear h_;obtain ⟨B1, B2⟩ := ah2 a B1 B2;obtain ⟨A, X⟩ := axr2 a A;refine newC_map h fun ad2 w4 a h_ => ?_;replace h := h_;clear h_;obtain ⟨B1, B2⟩ := ah2 a B1 B2;obtain ⟨A, X⟩ := axr2 a A;refine Calls.mono h ?_;clear h;rintro e1 w5 ⟨x1, he_, a, h⟩;refine ⟨x1, he_, ?_⟩;clear he_;obtain ⟨B1, B2⟩ := ah2 a B1 B2;obtain ⟨A, X⟩ := axr2 a A;refine br_map h (fun h_ => ?_) (fun h_ => ?_)
     ·replace h := h_;clear h_;refine s3_t B2 fun u4 k B2 => ?_;replace B1 := up1 k B1;obtain ⟨A, X⟩ := axu2 k g2 A X;refine l3_t B2 ?_;replace h := h _ X A;exact ⟨A, h⟩
     ·replace h := h_;clear h_;refine newC_t fun bk3 u5 hb a _ B3 => ?_;have g3 := le_eq A.size hb;obtain ⟨_, _⟩ := lt2 hb B1 B2;obtain ⟨B1, B2⟩ := ah2 a B1 B2;obtain ⟨A, X⟩ := axa2 a A X;replace h := h _ X A;exact ⟨bk1, bk2, bk3, a1_x_0, a1_x_1, a1_x_2, false, (⟨none, 0, 0⟩ : Slc), 0, false, (⟨none, 0, 0⟩ : Slc), 0, rfl, B1, g1, rfl, B2, g2, rfl, B3, g3, (by omega), (by omega), (by omega), A, h⟩
  · clear h
    rintro t0_c t3_x t4 t7_s t8_i w_ ⟨bk1, bk2, bk3, t3_x_0, t3_x_1, t3_x_2, t4_0, t4_1, t4_2, t7_s_0, t7_s_1, t7_s_2, rfl, B1, g1, rfl, B2, g2, rfl, B3, g3, n1_2, n1_3, n2_3, A, hJ0⟩
    have h := h0  t0_c t8_i t3_x_0 t3_x_1 t3_x_2 t4_0 t4_1 t4_2 t7_s_0 t7_s_1 t7_s_2 w_ A hJ0
    have X : Ext w_ w_ := Ext.refl _
    refine br_map h (fun h_ => ?_) (fun h_ => ?_)
    ·replace h := h_;clear h_;refine l3_t B3 ?_;refine l3_t B1 ?_;refine Calls.mono h ?_;clear h;rintro e2 w7 ⟨b1, s1, x2, x3, he_, a, h⟩;refine ⟨b1, s1, x2, x3, he_, ?_⟩;clear he_;obtain ⟨B1, B2, B3⟩ := ah3 a B1 B2 B3;obtain ⟨A, X⟩ := axr2 a A;refine newC_t fun bk4 u6 hb a _ B4 => ?_;have g4 := le_eq A.size hb;obtain ⟨_, _, _⟩ := lt3 hb B1 B2 B3;obtain ⟨B1, B2, B3⟩ := ah3 a B1 B2 B3;obtain ⟨A, X⟩ := axa2 a A X;refine s3_t B4 fun u7 k B4 => ?_;obtain ⟨B1, B2, B3⟩ := up3 k B1 B2 B3;obtain ⟨A, X⟩ := axu2 k g4 A X;refine br_map h (fun h_ => ?_) (fun h_ => ?_)
     ·replace h := h_;clear h_;have hd_ := Sp.Ahead.drew u7;obtain ⟨B1, B2, B3, B4⟩ := ah4 hd_ B1 B2 B3 B4;obtain ⟨A, X⟩ := axa2 hd_ A X;clear hd_;have z1 := B1.lt;have z2 := B2.lt;have z3 := B3.lt;have z4 := B4.lt;let V_ : Nat → Nat → Prop := fun (q_ k : Nat) => (k = bk3 ∨ u7.drew.heap.size ≤ k) ∧ 0 ≤ k;refine ⟨V_, ?_⟩;have Y_ : u7.drew.heap.size ≤ u7.drew.heap.size := Nat.le_refl _;have Z0_ := A.size;refine out_t (b := bk4) (i := 0) (by first | rfl | exact Sp.add_off) (fun hv_ => (by replace hv_ : _ ∧ _ := hv_; omega)) ?_;refine l3_t B4 ?_;replace h := h _ X A;replace X : Ext u7.drew u7.drew := Ext.refl _;obtain ⟨ad3, hc_, h⟩ := h;refine ⟨ad3, hc_, ?_⟩;clear hc_;replace X : Ext u7.drew u7.drew := Ext.refl _;obtain ⟨hl_, h⟩ := h;refine ⟨(fun hv_ => (by replace hv_ : _ ∧ _ := hv_; omega)), ?_⟩;clear hl_;obtain ⟨b2, hc_, h⟩ := h;refine ⟨b2, hc_, ?_⟩;clear hc_;obtain ⟨s2, hc_, h⟩ := h;refine ⟨s2, hc_, ?_⟩;clear hc_;obtain ⟨x4, hc_, h⟩ := h;refine ⟨x4, hc_, ?_⟩;clear hc_;refine Calls.mono h ?_;clear h;rintro e3 w9 ⟨b3, s3, x5, x6, he_, a, h⟩;refine ⟨b3, s3, x5, x6, he_, ?_⟩;clear he_;obtain ⟨B1, B2, B3, B4⟩ := ah4 a B1 B2 B3 B4;obtain ⟨A, X, Y_⟩ := axr3 a A Y_;refine s3_t B3 fun u8 k B3 => ?_;obtain ⟨B1, B2, B4⟩ := up3 k B1 B2 B4;obtain ⟨A, X, Y_⟩ := axu3 k g3 A X Y_;refine br_map h (fun h_ => ?_) (fun h_ => ?_)
      ·replace h := h_;clear h_;refine s3_t B2 fun u9 k B2 => ?_;obtain ⟨B1, B3, B4⟩ := up3 k B1 B3 B4;obtain ⟨A, X⟩ := axu2 k g2 A X;refine l3_t B2 ?_;replace h := h _ X A;exact ⟨A, h⟩
      ·replace h := h_;clear h_;replace h := h _ X A;exact ⟨⟨bk1, bk2, bk3, t3_x_0, t3_x_1, t3_x_2, t4_0, t4_1, t4_2, b3, s3, x5, rfl, B1, g1, rfl, B2, g2, rfl, B3, g3, (by omega), (by omega), (by omega), A, h.1⟩, h.2⟩
     ·replace h := h_;clear h_;refine br_map h (fun h_ => ?_) (fun h_ => ?_)
      ·replace h := h_;clear h_;refine s3_t B2 fun u10 k B2 => ?_;obtain ⟨B1, B3, B4⟩ := up3 k B1 B3 B4;obtain ⟨A, X⟩ := axu2 k g2 A X;refine l3_t B2 ?_;replace h := h _ X A;exact ⟨A, h⟩
      ·replace h := h_;clear h_;replace h := h _ X A;exact ⟨⟨bk1, bk2, bk3, t3_x_0, t3_x_1, t3_x_2, t4_0, t4_1, t4_2, t7_s_0, t7_s_1, t7_s_2, rfl, B1, g1, rfl, B2, g2, rfl, B3, g3, (by omega), (by omega), (by omega), A, h.1⟩, h.2⟩
    ·replace h := h_;clear h_;refine l3_t B3 ?_;refine s3_t B2 fun u11 k B2 => ?_;obtain ⟨B1, B3⟩ := up2 k B1 B3;obtain ⟨A, X⟩ := axu2 k g2 A X;refine l3_t B2 ?_;replace h := h _ X A;exact ⟨A, h⟩

end Go.Proofs.YtahbekmnphkiiaaDoor
namespace Go.Proofs.YtahbekmnphkiiaaDoor
open Go Go.RowKit Eng Sp Dg
set_option linter.unusedVariables false
set_option linter.unusedSimpArgs false
set_option maxRecDepth 100000
namespace Mm
open _root_.Go.Proofs.YtahbekmnphkiiaaDoor.Ref (RN RN.ahead Lent Lent.whole)

abbrev nilS : Slc := ⟨none, 0, 0⟩
def slcs (ss : List Slc) : List Value := ss.map Slc.v
theorem slcs_get {ss : List Slc} {i : Nat} (hi : i < ss.length) : (slcs ss)[i]? = some (ss.getD i nilS).v := by
  rw [slcs, List.getElem?_map, List.getD_eq_getElem?_getD, List.getElem?_eq_getElem hi]; rfl
/-- The slice reads as these slices. -/
structure RdL (w : World) (s : Slc) (ss : List Slc) : Prop where
  n : s.n = ss.length
  c : s.n ≤ s.c
  get : ∀ i, i < ss.length → ∃ ad, s.A = some ad ∧ w.cell? (ad.add i) = some (ss.getD i nilS).v
theorem RdL.ahead {w w' : World} {s : Slc} {ss : List Slc} (h : RdL w s ss) (ha : Ahead w w') : RdL w' s ss :=
  ⟨h.n, h.c, fun i hi => by obtain ⟨ad, e, hc⟩ := h.get i hi; exact ⟨ad, e, ha.cell hc⟩⟩

/-- A type of slices of slices. -/
def slB (P : Program) (t e : TypeId) : Bool := match P.underlying t with
  | some (.slice e') => Nat.beq e' e && (match P.info? e with
    | some i => Nat.beq i.size 1 && Nat.beq i.bytes 24 && (match i.zero with
      | some (.slice none 0 0) => true
      | _ => false)
    | none => false)
  | _ => false
theorem slB_out {P : Program} {t e : TypeId} (h : slB P t e = true) : P.underlying t = some (.slice e) ∧ ∃ i, P.info? e = some i ∧ i.size = 1 ∧ i.bytes = 24 ∧ i.zero = some (.slice none 0 0) := by
  unfold slB at h
  split at h
  · rename_i e' hu
    simp only [Bool.and_eq_true] at h
    obtain ⟨h1, h2⟩ := h
    have : e' = e := Nat.eq_of_beq_eq_true h1
    subst this
    split at h2
    · rename_i i hi
      simp only [Bool.and_eq_true] at h2
      obtain ⟨⟨h3, h4⟩, h5⟩ := h2
      split at h5
      · rename_i hz
        exact ⟨hu, i, hi, Nat.eq_of_beq_eq_true h3, Nat.eq_of_beq_eq_true h4, hz⟩
      · cases h5
    · cases h2
  · cases h
/-- .. whatever its elements are called. -/
def slA (P : Program) (t : TypeId) : Bool := match P.underlying t with
  | some (.slice e) => slB P t e
  | _ => false
theorem slA_out {P : Program} {t : TypeId} (h : slA P t = true) : ∃ e, slB P t e = true := by
  unfold slA at h
  split at h
  · exact ⟨_, h⟩
  · cases h
theorem run_ixL {t : TypeId} (hT : slA pr t = true) (w : World) {s : Slc} {ss : List Slc} {ad : Addr} (hA : s.A = some ad) {i : Nat} (hi : i < s.n) : (Instr.indexAt t s.v (.int .i64 (i : Int))).run pr w = .ok (.pointer (some (ad.add i))) w := by
  obtain ⟨e, hT⟩ := slA_out hT
  obtain ⟨hu, inf, hinf, hs, _⟩ := slB_out hT
  obtain ⟨A, n, c⟩ := s
  simp only at hA hi
  subst hA
  simp only [Instr.indexAt, asIntOf, Slc.v, underlying, program, Sem.run_bind, Sem.run, Result.andThen, hu, Sem.run_pure]
  simp [hi, show (i : Int) < (n : Int) by omega, sizeOf, typeInfo, program, Sem.run, hinf, hs, hu]

def SRow (e : TypeId) (base : Nat) (w : World) (s : Slc) (ss : List Slc) : Prop := (s = nilS ∧ ss = []) ∨ (ss ≠ [] ∧ w.ownsRow base e 1 s.v ss.length (slcs ss))
theorem SRow.nil {e : TypeId} {base : Nat} {w : World} : SRow e base w nilS [] := .inl ⟨rfl, rfl⟩
theorem SRow.out {e : TypeId} {base : Nat} {w : World} {s : Slc} {ss : List Slc} (h : SRow e base w s ss) (hne : ss ≠ []) : ∃ g cap cur, s = ⟨some ⟨g, 0, none⟩, ss.length, cap⟩ ∧ base ≤ g ∧ w.heap[g]? = some (.cells cur e (0, 0)) ∧ ss.length ≤ cap ∧ cur.toList.take ss.length = slcs ss := by
  rcases h with ⟨_, rfl⟩ | ⟨_, _, h⟩
  · exact absurd rfl hne
  · rcases h with ⟨_, h0⟩ | ⟨g, cap, cur, hv, hg, hh, hc, _, _, ht⟩
    · exact absurd (List.eq_nil_of_length_eq_zero h0) hne
    · obtain ⟨A, n, c⟩ := s
      have := Value.slice.inj hv
      obtain ⟨rfl, rfl, rfl⟩ := this
      exact ⟨g, _, cur, rfl, hg, hh, hc, by simpa using ht⟩
/-- The row's block. -/
theorem SRow.at_ {e : TypeId} {base : Nat} {w : World} {s : Slc} {ss : List Slc} (h : SRow e base w s ss) {ad : Addr} (hA : s.A = some ad) : ∃ g cur, ad = ⟨g, 0, none⟩ ∧ base ≤ g ∧ w.heap[g]? = some (.cells cur e (0, 0)) := by
  by_cases hp : ss = []
  · rcases h with ⟨rfl, rfl⟩ | ⟨h, _⟩
    · cases hA
    · exact absurd hp h
  · obtain ⟨g, cap, cur, rfl, h1, h2, _⟩ := h.out hp
    exact ⟨g, cur, (Option.some.inj hA).symm, h1, h2⟩
theorem SRow.block {e : TypeId} {base : Nat} {w : World} {s : Slc} {ss : List Slc} (h : SRow e base w s ss) {g : Nat} (hg : some g = s.v.ownBlock) : base ≤ g ∧ ∃ cur, w.heap[g]? = some (.cells cur e (0, 0)) := by
  obtain ⟨A, n, c⟩ := s
  cases A with
  | none => simp [Slc.v, Value.ownBlock] at hg
  | some ad =>
    obtain ⟨g', cur, rfl, h1, h2⟩ := h.at_ rfl
    simp [Slc.v, Value.ownBlock] at hg
    subst hg
    exact ⟨h1, cur, h2⟩

end Mm
end Go.Proofs.YtahbekmnphkiiaaDoor
namespace Go.Proofs.YtahbekmnphkiiaaDoor
open Go Go.RowKit Eng Sp Dg L2
set_option linter.unusedVariables false
set_option linter.unusedSimpArgs false
set_option maxRecDepth 100000
namespace Dp
open _root_.Go.Proofs.YtahbekmnphkiiaaDoor.Nat (Num Num.ahead Num.ext)
open _root_.Go.Proofs.YtahbekmnphkiiaaDoor.Mm (RdL RdL.ahead slA run_ixL nilS slcs slcs_get)
open Sb Dy Dl

theorem rdL_new (w : World) (t : TypeId) (ss : List Slc) : RdL (w.alloc (.cells (slcs ss).toArray t (0, 0))) ⟨some ⟨w.heap.size, 0, none⟩, ss.length, ss.length⟩ ss :=
  ⟨rfl, Nat.le_refl _, fun i hi => ⟨_, rfl, by
    rw [add_off]
    have := slcs_get hi
    simp only [World.cell?, get_alloc]
    simpa using this⟩⟩
theorem newC_l {w : World} (ss : List Slc) {t : TypeId} {K : Addr → World → Prop} (h : ∀ ad w', Ahead w w' → RdL w' ⟨some ad, ss.length, ss.length⟩ ss → K ad w') : newC w (slcs ss).toArray t K :=
  h _ _ (Ahead.alloc _ _) (rdL_new w t ss)
/-- One dyadic in a block of its own. -/
theorem one_rl {w : World} {b : Nat} {n : Bool} {s : Slc} {e : Int} (B : Blk w b (c3 n s e)) : RL w ⟨some ⟨b, 0, none⟩, 1, 1⟩ [⟨n, s, e⟩] :=
  ⟨rfl, Nat.le_refl _, fun _ => ⟨b, 0, rfl, fun j u hj => by
    rw [Nat.zero_add]
    refine B.cell ?_
    have : (c3 n s e)[j]? = (dys [⟨n, s, e⟩])[j]? := by rw [← Array.getElem?_toList]; rfl
    rw [this, hj]⟩⟩
theorem RL.sem {t : TypeId} {w : World} {s : Slc} {ys : List DY} (h : RL w s ys) {i : Nat} (hi : i < ys.length) {K : Bool → Slc → Int → Prop} (hk : K (ys.getD i zDY).n (ys.getD i zDY).s (ys.getD i zDY).e) (hT : isS3 pr t = true := by kernel_rfl) :
    semA pr (Instr.indexAt t s.v (.int .i64 (i : Int))) w fun ad w1 => w1 = w ∧ (ldB ad w fun b => ldS (ad.add 1) w fun u => ldI .i64 (ad.add 2) w fun x => K b u x) := by
  obtain ⟨g, o, hr, c0, c1, c2⟩ := h.any (t := t) hi
  unfold semA
  rw [Sem.wp_iff_run, hr pr w hT]
  exact ⟨_, rfl, rfl, _, c0, _, by rw [add_atN]; exact c1, _, by rw [add_atN]; exact c2, hk⟩
theorem RL.anyV {t : TypeId} {w w' : World} {s : Slc} {ys : List DY} (h : RL w s ys) (a : Ahead w w') {i : Nat} (hi : i < ys.length) {K : Bool → Slc → Int → Prop} (hk : K (ys.getD i zDY).n (ys.getD i zDY).s (ys.getD i zDY).e) (hT : isS3 pr t = true := by kernel_rfl) :
    anyA pr (Instr.indexAt t s.v (.int .i64 (i : Int))) fun ad => ad.block < w.heap.size ∧ (ldB ad w' fun b => ldS (ad.add 1) w' fun u => ldI .i64 (ad.add 2) w' fun x => K b u x) := by
  obtain ⟨g, o, hr, c0, c1, c2⟩ := h.any (t := t) hi
  have hg : g < w.heap.size := by
    unfold World.cell? at c0
    split at c0
    · rename_i hh; exact (Array.getElem?_eq_some_iff.1 hh).1
    · cases c0
  exact ⟨_, fun w1 => hr pr w1 hT, hg, _, a.cell c0, _, a.cell (by rw [add_atN]; exact c1), _, a.cell (by rw [add_atN]; exact c2), hk⟩
theorem wrap1 {k n : Nat} (h : k < n) (hn : n ≤ 1000000) : IntKind.i64.wrap ((k : Int) + 1) = ((k + 1 : Nat) : Int) := by
  rw [wrap_i64 (by omega) (by omega)]; omega
theorem right_any {w : World} {s : Slc} {ss : List Slc} {yss : List (List DY)} (h : RdL w s ss) (hl : ss.length = yss.length) (hr : ∀ i, i < ss.length → RL w (ss.getD i nilS) (yss.getD i [])) (hn : ss.length ≤ 1000000) (hm : ∀ i, i < ss.length → (yss.getD i []).length ≤ 1000000) :
    Calls pr dyadic_right_id #[s.v] w fun en w' => Ahead w w' ∧ ∃ c, en = .returned (.int .i64 c) := by
  refine dyadic_right_v2 s w (fun en _ => ∃ c, en = .returned (.int .i64 c)) (fun t7 t8 t9 _ => t7 = s ∧ t8 = (ss.length : Int) ∧ ∃ i : Nat, t9 = (i : Int) ∧ i ≤ ss.length) (fun _ t8 t9 _ => (t8 - t9).toNat)
    (fun t7 t8 t9 _ t7' t8' t9' t13 t14 t15 _ => t7' = t7 ∧ t8' = t8 ∧ t9' = t9 ∧ ∃ i : Nat, t9 = (i : Int) ∧ i < ss.length ∧ t13 = ss.getD i nilS ∧ t14 = ((yss.getD i []).length : Int) ∧ ∃ j : Nat, t15 = (j : Int) ∧ j ≤ (yss.getD i []).length)
    (fun _ _ _ _ _ _ _ _ t14 t15 _ => (t14 - t15).toNat) ⟨rfl, by rw [h.n], 0, rfl, Nat.zero_le _⟩ ?_ ?_
  · rintro t7 t8 t9 w_ A ⟨rfl, rfl, i, rfl, hi⟩
    refine br_intro (fun hc => ?_) (fun hc => ⟨_, rfl⟩)
    have hc : i < ss.length := by have := of_decide_eq_true hc; omega
    obtain ⟨ad, hA, hcell⟩ := (h.ahead A).get i hc
    unfold semA
    rw [Sem.wp_iff_run, run_ixL (ss := ss) (by kernel_rfl) w_ hA (by rw [h.n]; exact hc)]
    refine ⟨_, rfl, rfl, _, hcell, rfl, rfl, rfl, i, rfl, hc, rfl, by rw [(hr i hc).n], 0, rfl, Nat.zero_le _⟩
  · rintro t7 t8 t9 w_ A ⟨rfl, rfl, i0, rfl, hi0⟩ t7' t8' t9' t13 t14 t15 w2 A2 ⟨rfl, rfl, rfl, i, hii, hi, rfl, rfl, j, rfl, hj⟩
    obtain rfl : i0 = i := by omega
    refine br_intro (fun hc => ?_) (fun hc => ?_)
    · have hc : j < (yss.getD i0 []).length := by have := of_decide_eq_true hc; omega
      refine RL.sem ((hr i0 hi).ahead A2) hc (fun w3 X3 A3 => Calls.mono within_spec ?_)
      rintro en w4 ⟨rfl, rfl⟩
      refine ⟨_, rfl, Ahead.refl _, br_intro (fun _ => ⟨_, rfl⟩) (fun _ => ?_)⟩
      rw [wrap1 hc (hm i0 hi)]
      exact ⟨⟨rfl, rfl, rfl, i0, rfl, hi, rfl, rfl, j + 1, rfl, by omega⟩, by omega⟩
    · rw [wrap1 hi hn]
      exact ⟨⟨rfl, rfl, i0 + 1, rfl, by omega⟩, by omega⟩
/-- An answer of value v in steps of 2^B. -/
def GV (B v : Int) (w : World) (n : Bool) (s : Slc) (e : Int) : Prop := Got (fun Z E => Vl Z E B v) w 0 n s e
theorem GV.zero {B : Int} (hB : B ≤ 0) (w : World) : GV B 0 w false ⟨none, 0, 0⟩ 0 := fun _ => ⟨0, rfl, by show bl 0 ≤ _; unfold bl; rw [digs_zero]; exact Nat.zero_le _, by unfold wi; omega, ⟨od_zero, fun _ => rfl⟩, by rw [show (0 : Int).natAbs = 0 from rfl, digs_zero]; exact Rd.nil, ⟨⟨od_zero, fun _ => rfl⟩, hB, by show (0 : Int) * _ = 0; rw [Int.zero_mul]⟩⟩
theorem GV.ext {B v : Int} {w w' : World} {n : Bool} {s : Slc} {e : Int} (h : GV B v w n s e) (X : Ext w w') : GV B v w' n s e := Got.ext h X
theorem Sum_spec {w : World} {s : Slc} {ys : List DY} {z e : Nat → Int} {F : Int} (hT : Tab w) (h : Ls w s ys z e) (hF : F ≤ 0) (hf : ∀ i, i < ys.length → F ≤ e i) (hn : ys.length ≤ 1000000) :
    Calls pr dyadic_Sum_id #[s.v] w fun en w' => Ahead w w' ∧ DAns (fun Z E => Vl Z E F (sumZ (fun i => dv (z i) (e i) F) ys.length)) en w' := by
  refine dyadic_Sum_v2 s w (DAns (fun Z E => Vl Z E F (sumZ (fun i => dv (z i) (e i) F) ys.length)))
    (fun t16 t17 t18 _ _ _ b u x w_ => t16 = s ∧ t17 = (ys.length : Int) ∧ ∃ k : Nat, t18 = (k : Int) ∧ k ≤ ys.length ∧ GV F (sumZ (fun i => dv (z i) (e i) F) k) w_ b u x) (fun _ t17 t18 _ => (t17 - t18).toNat) ?_ ?_
  · intro w1 X1 A1
    refine newC_l [s] fun ad w2 h2 r2 => ?_
    refine Calls.mono (right_any (yss := [ys]) r2 rfl (fun i hi => ?_) (by simp) (fun i hi => ?_)) ?_
    · obtain rfl : i = 0 := by simp at hi; omega
      exact (h.r.ahead A1).ahead h2
    · obtain rfl : i = 0 := by simp at hi; omega
      exact hn
    rintro en w3 ⟨h3, c, rfl⟩
    refine ⟨_, rfl, h3, br_intro (fun hc => fun w4 X4 A4 => DAns.no (by simpa using hc)) (fun hc => fun w4 X4 A4 => ⟨rfl, by rw [h.r.n], 0, rfl, Nat.zero_le _, GV.zero hF w4⟩)⟩
  · rintro t16 t17 t18 _ _ _ b u x w_ A ⟨rfl, rfl, k, rfl, hk, g⟩
    refine br_intro (fun hc => ?_) (fun hc => fun w10 X10 A10 => ?_)
    · have hc : k < ys.length := by have := of_decide_eq_true hc; omega
      refine RL.sem (h.r.ahead A) hc (fun w6 X6 A6 => ?_)
      obtain ⟨zs, els, vs, -, -, -⟩ := El.got (GV.ext g X6)
      obtain ⟨Xs, n1, l1, hzs, hes⟩ := els
      obtain ⟨Xk, n2, l2, hz, he⟩ := (h.el k hc).ahead A6
      refine Calls.mono (Add_spec (hT.ahead A6) n1 n2 (by omega) (by omega)) ?_
      rintro en w7 ⟨h7, cd, b2, s2, x3, rfl, hh⟩
      refine ⟨_, _, _, _, rfl, h7, br_intro (fun hc => fun w8 X8 A8 => DAns.no (by simpa using hc)) (fun hc0 => fun w9 X9 A9 => ?_)⟩
      have hc0 : cd = 0 := by simpa using hc0
      subst hc0
      rw [wrap1 hc hn]
      refine ⟨⟨rfl, rfl, k + 1, rfl, by omega, Got.ext (fun q => ?_) X9⟩, by omega⟩
      obtain ⟨Z, h1, h2, h3, h4, h5, -, -, h6⟩ := hh q
      refine ⟨Z, h1, h2, h3, h4, h5, ?_⟩
      rw [show vz b Xs = zs from hzs, show eD Xs x = x from hes, hz, he] at h6
      have := h6 F hF vs.le (hf k hc)
      rw [vs.val] at this
      exact this
    · have hc : k = ys.length := by have := of_decide_eq_false hc; omega
      subst hc
      exact ⟨0, _, _, _, rfl, GV.ext g X10⟩
theorem Dot_spec {w : World} {s t : Slc} {xs ys : List DY} {z e z' e' : Nat → Int} {F : Int} (hT : Tab w) (h : Ls w s xs z e) (h' : Ls w t ys z' e') (hF : F ≤ 0) (hf : ∀ i, i < xs.length → F ≤ e i) (hf' : ∀ i, i < ys.length → F ≤ e' i) (hn : xs.length ≤ 1000000) (hn' : ys.length ≤ 1000000) :
    Calls pr dyadic_Dot_id #[s.v, t.v] w fun en w' => Ahead w w' ∧ DAns (fun Z E => xs.length = ys.length ∧ Vl Z E (F + F) (sumZ (fun i => dv (z i) (e i) F * dv (z' i) (e' i) F) xs.length)) en w' := by
  refine dyadic_Dot_v2 s t w (DAns (fun Z E => xs.length = ys.length ∧ Vl Z E (F + F) (sumZ (fun i => dv (z i) (e i) F * dv (z' i) (e' i) F) xs.length)))
    (fun t0 t1 t26 t27 _ _ _ b u x w_ => t0 = s ∧ t1 = t ∧ t26 = (xs.length : Int) ∧ xs.length = ys.length ∧ ∃ k : Nat, t27 = (k : Int) ∧ k ≤ xs.length ∧ GV (F + F) (sumZ (fun i => dv (z i) (e i) F * dv (z' i) (e' i) F) k) w_ b u x) (fun _ _ t26 t27 _ => (t26 - t27).toNat) ?_ ?_
  · intro w1 X1 A1
    refine newC_l [s, t] fun ad w2 h2 r2 => ?_
    refine Calls.mono (right_any (yss := [xs, ys]) r2 rfl (fun i hi => ?_) (by simp) (fun i hi => ?_)) ?_
    · rcases i with _ | _ | i
      · exact (h.r.ahead A1).ahead h2
      · exact (h'.r.ahead A1).ahead h2
      · simp at hi; omega
    · rcases i with _ | _ | i
      · exact hn
      · exact hn'
      · simp at hi; omega
    rintro en w3 ⟨h3, c, rfl⟩
    refine ⟨_, rfl, h3, br_intro (fun hc => fun w4 X4 A4 => DAns.no (by simpa using hc)) (fun hc => br_intro (fun hl => fun w4 X4 A4 => DAns.no (by omega)) (fun hl => fun w4 X4 A4 => ?_))⟩
    have hlen : xs.length = ys.length := by
      have q : (s.n : Int) = (t.n : Int) := by simpa using hl
      have := h.r.n
      have := h'.r.n
      omega
    exact ⟨rfl, rfl, by rw [h.r.n], hlen, 0, rfl, Nat.zero_le _, GV.zero (by omega) w4⟩
  · rintro t0 t1 t26 t27 _ _ _ b u x w_ A ⟨rfl, rfl, rfl, hlen, k, rfl, hk, g⟩
    refine br_intro (fun hc => fun w6 X6 A6 => ?_) (fun hc => fun w10 X10 A10 => ?_)
    · have hc : k < xs.length := by have := of_decide_eq_true hc; omega
      refine RL.anyV h.r A6 hc (RL.anyV h'.r A6 (by omega) (fun w7 X7 A7 => ?_))
      obtain ⟨X1, n1, l1, hz1, he1⟩ := (h.el k hc).ahead A7
      obtain ⟨X2, n2, l2, hz2, he2⟩ := (h'.el k (by omega)).ahead A7
      refine Calls.mono (DMul_spec (hT.ahead A7) n1 n2 (by omega) (by omega)) ?_
      rintro en w8 ⟨h8, cd, b3, s3, x4, rfl, hh⟩
      refine ⟨_, _, _, _, rfl, h8, br_intro (fun hc5 => fun w9 X9 A9 => ?_) (fun hc5 => br_intro (fun hc6 => fun w9 X9 A9 => DAns.no (by simpa using hc6)) (fun hc6 => absurd (show cd = 0 by simpa using hc6) (by simpa using hc5)))⟩
      have hc5 : cd = 0 := by simpa using hc5
      subst hc5
      obtain ⟨zp, elp, hp, -, -, -⟩ := El.got (Got.ext hh X9)
      obtain ⟨Xp, n3, l3, hz3, he3⟩ := elp
      have vp := hp.2.2 F F hF hF (by rw [he1]; exact hf k hc) (by rw [he2]; exact hf' k (by omega))
      rw [hz1, he1, hz2, he2] at vp
      obtain ⟨zs, els, vs, -, -, -⟩ := El.got (GV.ext g (X6.trans (X7.trans (h8.ext.trans X9))))
      obtain ⟨Xs, n4, l4, hz4, he4⟩ := els
      refine Calls.mono (Add_spec (hT.ahead A9) n4 n3 (by omega) (by omega)) ?_
      rintro en w10 ⟨h10, cd2, b4, s4, x6, rfl, hh2⟩
      refine ⟨_, _, _, _, rfl, h10, br_intro (fun hc => fun w11 X11 A11 => DAns.no (by simpa using hc)) (fun hc0 => fun w12 X12 A12 => ?_)⟩
      have hc0 : cd2 = 0 := by simpa using hc0
      subst hc0
      rw [wrap1 hc hn]
      refine ⟨⟨rfl, rfl, rfl, hlen, k + 1, rfl, by omega, Got.ext (fun q => ?_) X12⟩, by omega⟩
      obtain ⟨Z, g1, g2, g3, g4, g5, -, -, g6⟩ := hh2 q
      refine ⟨Z, g1, g2, g3, g4, g5, ?_⟩
      rw [show vz b Xs = zs from hz4, show eD Xs x = x from he4, show vz b3 Xp = zp from hz3, show eD Xp x4 = x4 from he3] at g6
      have := g6 (F + F) (by omega) vs.le vp.le
      rw [vs.val, vp.val] at this
      exact this
    · have hc : k = xs.length := by have := of_decide_eq_false hc; omega
      subst hc
      exact ⟨0, _, _, _, rfl, fun q => by obtain ⟨Z, g1, g2, g3, g4, g5, g6⟩ := GV.ext g X10 q; exact ⟨Z, g1, g2, g3, g4, g5, hlen, g6⟩⟩
theorem kF_le {F : Int} (hF : F ≤ 0) (k : Nat) : ((k + 1 : Nat) : Int) * F = (k : Int) * F + F ∧ (k : Int) * F ≤ 0 := by
  refine ⟨by rw [Int.natCast_add, Int.add_mul]; simp, Int.mul_nonpos_of_nonneg_of_nonpos (by omega) hF⟩
theorem Value_spec {w : World} {s u0 : Slc} {n0 : Bool} {x0 zx ex : Int} {ys : List DY} {z e : Nat → Int} {F : Int} (hT : Tab w) (h : Ls w s ys z e) (hx : El w ⟨n0, u0, x0⟩ zx ex) (hF : F ≤ 0) (hf : ∀ i, i < ys.length → F ≤ e i) (hfx : F ≤ ex) (hn : ys.length ≤ 1000000) :
    Calls pr dyadic_Value_id #[s.v, .agg (c3 n0 u0 x0)] w fun en w' => Ahead w w' ∧ DAns (fun Z E => Vl Z E ((ys.length : Int) * F) (hor F z e zx ex ys.length ys.length)) en w' := by
  refine dyadic_Value_v2 s n0 u0 x0 w (DAns (fun Z E => Vl Z E ((ys.length : Int) * F) (hor F z e zx ex ys.length ys.length)))
    (fun t0 t8 a b c _ _ _ b' u x w_ => t0 = s ∧ (n0 = a ∧ u0 = b ∧ x0 = c) ∧ ∃ k : Nat, t8 = (ys.length : Int) - 1 - (k : Int) ∧ k ≤ ys.length ∧ GV ((k : Int) * F) (hor F z e zx ex ys.length k) w_ b' u x) (fun _ t8 _ => (t8 + 1).toNat) ?_ ?_
  · refine br_intro (fun _ => fun w1 X1 A1 => DAns.no (by omega)) (fun hbig => fun w2 X2 A2 => newC_b fun b w3 hb h3 z3 B3 => newC_l [s, ⟨some ⟨b, 0, none⟩, 1, 1⟩] fun ad w4 h4 r4 => ?_)
    have A4 := (A2.trans h3).trans h4
    refine Calls.mono (right_any (yss := [ys, [⟨n0, u0, x0⟩]]) r4 rfl (fun i hi => ?_) (by simp) (fun i hi => ?_)) ?_
    · rcases i with _ | _ | i
      · exact h.r.ahead A4
      · exact (one_rl B3).ahead h4
      · simp at hi; omega
    · rcases i with _ | _ | i
      · exact hn
      · show 1 ≤ 1000000; omega
      · simp at hi; omega
    rintro en w5 ⟨h5, c, rfl⟩
    refine ⟨_, rfl, h5, br_intro (fun hc => fun w6 X6 A6 => DAns.no (by simpa using hc)) (fun hc => fun w6 X6 A6 => ⟨rfl, ⟨rfl, rfl, rfl⟩, 0, ?_, Nat.zero_le _, ?_⟩)⟩
    · rw [h.r.n, wrap_i64 (by omega) (by omega)]; omega
    · exact GV.zero (by rw [show ((0 : Nat) : Int) = 0 from rfl, Int.zero_mul]; omega) w6
  · rintro t0 t8 a b c _ _ _ b' u x w_ A ⟨rfl, ⟨rfl, rfl, rfl⟩, k, rfl, hk, g⟩
    obtain ⟨kF, k0⟩ := kF_le hF k
    refine br_intro (fun hc => ?_) (fun hc => fun w10 X10 A10 => ?_)
    · have hc : k < ys.length := by have := of_decide_eq_true hc; omega
      obtain ⟨zs, els, vs, -, -, -⟩ := El.got g
      obtain ⟨X1, n1, l1, hz1, he1⟩ := els
      obtain ⟨X2, n2, l2, hz2, he2⟩ := hx.ahead A
      refine Calls.mono (DMul_spec (hT.ahead A) n1 n2 (by omega) (by omega)) ?_
      rintro en w7 ⟨h7, cd, b1, s1, x2, rfl, hh⟩
      refine ⟨_, _, _, _, rfl, h7, br_intro (fun hc3 => fun w8 X8 A8 => ?_) (fun hc3 => br_intro (fun hc6 => fun w9 X9 A9 => DAns.no (by simpa using hc6)) (fun hc6 => absurd (show cd = 0 by simpa using hc6) (by simpa using hc3)))⟩
      have hc3 : cd = 0 := by simpa using hc3
      subst hc3
      obtain ⟨zp, elp, hp, -, -, -⟩ := El.got (Got.ext hh X8)
      obtain ⟨Xp, n3, l3, hz3, he3⟩ := elp
      rw [show vz b' X1 = zs from hz1, show eD X1 x = x from he1, show vz n0 X2 = zx from hz2, show eD X2 x0 = ex from he2] at hp
      have vp := hp.2.2 ((k : Int) * F) F k0 hF vs.le hfx
      rw [vs.val] at vp
      have hi : (ys.length : Int) - 1 - (k : Int) = ((ys.length - 1 - k : Nat) : Int) := by omega
      rw [hi]
      refine RL.anyV h.r A8 (by omega) ?_
      obtain ⟨X4, n4, l4, hz4, he4⟩ := (h.el (ys.length - 1 - k) (by omega)).ahead A8
      refine Calls.mono (Add_spec (hT.ahead A8) n3 n4 (by omega) (by omega)) ?_
      rintro en w9 ⟨h9, cd2, b4, s4, x6, rfl, hh2⟩
      refine ⟨_, _, _, _, rfl, h9, br_intro (fun hc => fun w11 X11 A11 => DAns.no (by simpa using hc)) (fun hc0 => fun w12 X12 A12 => ?_)⟩
      have hc0 : cd2 = 0 := by simpa using hc0
      subst hc0
      rw [wrap_i64 (by omega) (by omega)]
      refine ⟨⟨rfl, ⟨rfl, rfl, rfl⟩, k + 1, by omega, by omega, Got.ext (fun q => ?_) X12⟩, by omega⟩
      obtain ⟨Z, g1, g2, g3, g4, g5, -, -, g6⟩ := hh2 q
      refine ⟨Z, g1, g2, g3, g4, g5, ?_⟩
      rw [show vz b1 Xp = zp from hz3, show eD Xp x2 = x2 from he3, hz4, he4] at g6
      have fe := hf (ys.length - 1 - k) (by omega)
      have := g6 ((k : Int) * F + F) (by omega) vp.le (by omega)
      rw [vp.val] at this
      rw [kF]
      show Vl Z x6 _ (hor F z e zx ex ys.length k * dv zx ex F + dv (z (ys.length - 1 - k)) (e (ys.length - 1 - k)) (((k + 1 : Nat) : Int) * F))
      rw [kF]
      exact this
    · have hc : k = ys.length := by have := of_decide_eq_false hc; omega
      subst hc
      exact ⟨0, _, _, _, rfl, GV.ext g X10⟩
end Dp
end Go.Proofs.YtahbekmnphkiiaaDoor
namespace Go.Proofs.YtahbekmnphkiiaaDoor
open Go Go.RowKit Eng Sp Dg L2
set_option linter.unusedVariables false
set_option linter.unusedSimpArgs false
set_option maxRecDepth 100000
namespace Dp
open Sb Dy Dl

/-- Two slices lie in different blocks. -/
def Dnq (s t : Slc) : Prop := ∀ g, s.v.ownBlock = some g → t.v.ownBlock ≠ some g
theorem Dnq.symm {s t : Slc} (h : Dnq s t) : Dnq t s := fun g h1 h2 => h g h2 h1
structure R4 (e : TypeId) (base : Nat) (w : World) (a b c d : Slc) (A B C D : List DY) : Prop where
  pa : DRow e base w a A
  pb : DRow e base w b B
  pc : DRow e base w c C
  pd : DRow e base w d D
  ab : Dnq a b
  ac : Dnq a c
  ad : Dnq a d
  bc : Dnq b c
  bd : Dnq b d
  cd : Dnq c d
theorem R4.nil {e : TypeId} {base : Nat} {w : World} : R4 e base w ⟨none, 0, 0⟩ ⟨none, 0, 0⟩ ⟨none, 0, 0⟩ ⟨none, 0, 0⟩ [] [] [] [] := by
  have : Dnq ⟨none, 0, 0⟩ ⟨none, 0, 0⟩ := fun g h => by cases h
  exact ⟨.nil, .nil, .nil, .nil, this, this, this, this, this, this⟩
theorem R4.swap {e : TypeId} {base : Nat} {w : World} {a b c d : Slc} {A B C D : List DY} (h : R4 e base w a b c d A B C D) : R4 e base w b a c d B A C D := ⟨h.pb, h.pa, h.pc, h.pd, h.ab.symm, h.bc, h.bd, h.ac, h.ad, h.cd⟩
theorem R4.swap3 {e : TypeId} {base : Nat} {w : World} {a b c d : Slc} {A B C D : List DY} (h : R4 e base w a b c d A B C D) : R4 e base w c b a d C B A D := ⟨h.pc, h.pb, h.pa, h.pd, h.bc.symm, h.ac.symm, h.cd, h.ab.symm, h.bd, h.ad⟩
theorem R4.ahead {e : TypeId} {base : Nat} {w w' : World} {a b c d : Slc} {A B C D : List DY} (h : R4 e base w a b c d A B C D) (x : Ahead w w') : R4 e base w' a b c d A B C D := ⟨h.pa.ahead x, h.pb.ahead x, h.pc.ahead x, h.pd.ahead x, h.ab, h.ac, h.ad, h.bc, h.bd, h.cd⟩
def Off4 (k : Nat) (a b c d : Slc) : Prop := a.v.ownBlock ≠ some k ∧ b.v.ownBlock ≠ some k ∧ c.v.ownBlock ≠ some k ∧ d.v.ownBlock ≠ some k
theorem R4.off {e : TypeId} {base k : Nat} {w : World} {a b c d : Slc} {A B C D : List DY} (h : R4 e base w a b c d A B C D) (hk : w.heap.size ≤ k) : Off4 k a b c d :=
  ⟨fun q => by have := (h.pa.lt q).2; omega, fun q => by have := (h.pb.lt q).2; omega, fun q => by have := (h.pc.lt q).2; omega, fun q => by have := (h.pd.lt q).2; omega⟩
theorem R4.off0 {e : TypeId} {base k : Nat} {w : World} {a b c d : Slc} {A B C D : List DY} (h : R4 e base w a b c d A B C D) (hk : k < base) : Off4 k a b c d :=
  ⟨fun q => by have := (h.pa.lt q).1; omega, fun q => by have := (h.pb.lt q).1; omega, fun q => by have := (h.pc.lt q).1; omega, fun q => by have := (h.pd.lt q).1; omega⟩
/-- The first list grown. -/
theorem R4.app {t e ty : TypeId} {base : Nat} {w : World} {a b c d x : Slc} {A B C D ys : List DY} (h : R4 e base w a b c d A B C D) (hx : RL w x ys) (hy : ys ≠ []) (hb : base ≤ w.heap.size) (hsz : A.length + ys.length ≤ 1000000) {K : Slc → World → Prop}
    (hk : ∀ s' w', R4 e base w' s' b c d (A ++ ys) B C D → Grw a.v.ownBlock w w' → (s'.v.ownBlock = a.v.ownBlock ∨ s'.v.ownBlock = some w.heap.size) → K s' w') (hT : sl3 pr t e = true := by kernel_rfl) :
    semS pr (Builtin.append_ #[t, t] ty #[a.v, x.v]) w K := by
  refine appN h.pa hx hy hb hsz (fun s' w' r G o => hk s' w' ?_ G o) hT
  have new : ∀ {u : Slc} {U : List DY}, DRow e base w u U → Dnq a u → Dnq s' u := fun {u U} hu hq g hg hg' => by
    rcases o with o | o
    · exact hq g (by rw [← o]; exact hg) hg'
    · have := (hu.lt hg').2
      rw [o] at hg
      have := Option.some.inj hg
      omega
  exact ⟨r, h.pb.grw G (fun g hg q => h.ab g q.symm hg), h.pc.grw G (fun g hg q => h.ac g q.symm hg), h.pd.grw G (fun g hg q => h.ad g q.symm hg), new h.pb h.ab, new h.pc h.ac, new h.pd h.ad, h.bc, h.bd, h.cd⟩

/-- The lists, and blocks that stay, between two places of a region. V: what may change. -/
structure RG (e : TypeId) (w0 wr : World) (V : Nat → Prop) (base st : Nat) (w : World) (a b c d : Slc) (A B C D : List DY) (L : List (Nat × TypeId × Array Value)) : Prop where
  hA : Ahead w0 w
  b0 : w0.heap.size ≤ base
  bw : base ≤ w.heap.size
  r : R4 e base w a b c d A B C D
  va : ∀ g, a.v.ownBlock = some g → V g
  vb : ∀ g, b.v.ownBlock = some g → V g
  vc : ∀ g, c.v.ownBlock = some g → V g
  vn : ∀ j, st ≤ j → V j
  sw : st ≤ w.heap.size
  mv : ∀ s l, Rd .u64 wr s l → Rd .u64 w s l
  kept : ∀ q ∈ L, Blt w q.1 q.2.1 q.2.2 ∧ Off4 q.1 a b c d
  kl : ∀ q ∈ L, w0.heap.size ≤ q.1
  nd : L.Pairwise fun p q => p.1 ≠ q.1
theorem RG.step {e : TypeId} {w0 wr : World} {V : Nat → Prop} {base st : Nat} {w w' : World} {a b c d : Slc} {A B C D : List DY} {L : List (Nat × TypeId × Array Value)} (h : RG e w0 wr V base st w a b c d A B C D L) (x : Ahead w w') : RG e w0 wr V base st w' a b c d A B C D L :=
  ⟨h.hA.trans x, h.b0, Nat.le_trans h.bw x.size, h.r.ahead x, h.va, h.vb, h.vc, h.vn, Nat.le_trans h.sw x.size, fun s l r => (h.mv s l r).ahead x, fun q hq => ⟨(h.kept q hq).1.ahead x, (h.kept q hq).2⟩, h.kl, h.nd⟩
theorem RG.new {e : TypeId} {w0 wr : World} {V : Nat → Prop} {base st : Nat} {w : World} {a b c d : Slc} {A B C D : List DY} {L : List (Nat × TypeId × Array Value)} (h : RG e w0 wr V base st w a b c d A B C D L) {cs : Array Value} {t : TypeId} {K : Addr → World → Prop}
    (hk : ∀ k w', k = w.heap.size → Ahead w w' → RG e w0 wr V base st w' a b c d A B C D ((k, t, cs) :: L) → K ⟨k, 0, none⟩ w') : newC w cs t K := by
  refine newC_t fun k w' hk1 x hs B => hk k w' hk1 x ?_
  have h' := h.step x
  exact ⟨h'.hA, h'.b0, h'.bw, h'.r, h'.va, h'.vb, h'.vc, h'.vn, h'.sw, h'.mv, fun q hq => by
    rcases List.mem_cons.1 hq with rfl | hq
    · exact ⟨B, h.r.off (by show w.heap.size ≤ k; omega)⟩
    · exact h'.kept q hq, fun q hq => by
    rcases List.mem_cons.1 hq with rfl | hq
    · have := h.hA.size; show w0.heap.size ≤ k; omega
    · exact h.kl q hq, List.pairwise_cons.2 ⟨fun q hq => by have := (h.kept q hq).1.lt; show k ≠ q.1; omega, h.nd⟩⟩
theorem RG.swap {e : TypeId} {w0 wr : World} {V : Nat → Prop} {base st : Nat} {w : World} {a b c d : Slc} {A B C D : List DY} {L : List (Nat × TypeId × Array Value)} (h : RG e w0 wr V base st w a b c d A B C D L) : RG e w0 wr V base st w b a c d B A C D L :=
  ⟨h.hA, h.b0, h.bw, h.r.swap, h.vb, h.va, h.vc, h.vn, h.sw, h.mv, fun q hq => ⟨(h.kept q hq).1, by obtain ⟨h1, h2, h3, h4⟩ := (h.kept q hq).2; exact ⟨h2, h1, h3, h4⟩⟩, h.kl, h.nd⟩
theorem RG.swap3 {e : TypeId} {w0 wr : World} {V : Nat → Prop} {base st : Nat} {w : World} {a b c d : Slc} {A B C D : List DY} {L : List (Nat × TypeId × Array Value)} (h : RG e w0 wr V base st w a b c d A B C D L) : RG e w0 wr V base st w c b a d C B A D L :=
  ⟨h.hA, h.b0, h.bw, h.r.swap3, h.vc, h.vb, h.va, h.vn, h.sw, h.mv, fun q hq => ⟨(h.kept q hq).1, by obtain ⟨h1, h2, h3, h4⟩ := (h.kept q hq).2; exact ⟨h3, h2, h1, h4⟩⟩, h.kl, h.nd⟩
/-- A kept dyadic reads as a list of one. -/
theorem one_of {w : World} {k : Nat} {t : TypeId} {d : DY} (h : Blt w k t (c3 d.n d.s d.e)) : RL w ⟨some ⟨k, 0, none⟩, 1, 1⟩ [d] := one_rl (n := d.n) (s := d.s) (e := d.e) ⟨t, h⟩
theorem RG.appA {t e ty : TypeId} {w0 wr : World} {V : Nat → Prop} {base st k : Nat} {tk : TypeId} {w : World} {a b c d : Slc} {A B C D : List DY} {L : List (Nat × TypeId × Array Value)} (h : RG e w0 wr V base st w a b c d A B C D L) {y : DY} (hm : (k, tk, c3 y.n y.s y.e) ∈ L) (hsz : A.length + 1 ≤ 1000000) {K : Slc → World → Prop}
    (hk : ∀ s' w', Bar V w w' → RG e w0 wr V base st w' s' b c d (A ++ [y]) B C D L → K s' w') (hT : sl3 pr t e = true := by kernel_rfl) :
    semS pr (Builtin.append_ #[t, t] ty #[a.v, (⟨some ⟨k, 0, none⟩, 1, 1⟩ : Slc).v]) w K := by
  refine R4.app h.r (one_of (h.kept _ hm).1) (by simp) h.bw hsz (fun s' w' r G o => hk s' w' ⟨G.os, G.tape, G.output, G.sz, fun j hj hv => G.hp j (fun q => hv (h.va j q.symm)) hj⟩ ?_) hT
  refine ⟨G.ah w0 h.hA (fun g hg => by have := (h.r.pa.lt hg).1; have := h.b0; omega), h.b0, Nat.le_trans h.bw G.sz, r, fun g hg => ?_, h.vb, h.vc, h.vn, Nat.le_trans h.sw G.sz, fun s l q => G.rd s l (h.mv s l q), fun q hq => ?_, h.kl, h.nd⟩
  · rcases o with o | o
    · exact h.va g (by rw [← o]; exact hg)
    · rw [o] at hg
      exact h.vn g (by have := Option.some.inj hg; have := h.sw; omega)
  · obtain ⟨h1, h2, h3, h4, h5⟩ := h.kept q hq
    have hl := h1.lt
    refine ⟨?_, ?_, h3, h4, h5⟩
    · unfold Blt; rw [G.hp q.1 (fun q => h2 q.symm) hl]; exact h1
    · rcases o with o | o
      · rw [o]; exact h2
      · rw [o]; intro q; have := Option.some.inj q; omega
theorem RG.appB {t e ty : TypeId} {w0 wr : World} {V : Nat → Prop} {base st k : Nat} {tk : TypeId} {w : World} {a b c d : Slc} {A B C D : List DY} {L : List (Nat × TypeId × Array Value)} (h : RG e w0 wr V base st w a b c d A B C D L) {y : DY} (hm : (k, tk, c3 y.n y.s y.e) ∈ L) (hsz : B.length + 1 ≤ 1000000) {K : Slc → World → Prop}
    (hk : ∀ s' w', Bar V w w' → RG e w0 wr V base st w' a s' c d A (B ++ [y]) C D L → K s' w') (hT : sl3 pr t e = true := by kernel_rfl) :
    semS pr (Builtin.append_ #[t, t] ty #[b.v, (⟨some ⟨k, 0, none⟩, 1, 1⟩ : Slc).v]) w K := RG.appA h.swap hm hsz (fun s' w' x r => hk s' w' x r.swap) hT
theorem RG.appC {t e ty : TypeId} {w0 wr : World} {V : Nat → Prop} {base st k : Nat} {tk : TypeId} {w : World} {a b c d : Slc} {A B C D : List DY} {L : List (Nat × TypeId × Array Value)} (h : RG e w0 wr V base st w a b c d A B C D L) {y : DY} (hm : (k, tk, c3 y.n y.s y.e) ∈ L) (hsz : C.length + 1 ≤ 1000000) {K : Slc → World → Prop}
    (hk : ∀ s' w', Bar V w w' → RG e w0 wr V base st w' a b s' d A B (C ++ [y]) D L → K s' w') (hT : sl3 pr t e = true := by kernel_rfl) :
    semS pr (Builtin.append_ #[t, t] ty #[c.v, (⟨some ⟨k, 0, none⟩, 1, 1⟩ : Slc).v]) w K := RG.appA h.swap3 hm hsz (fun s' w' x r => hk s' w' x r.swap3) hT
/-- A kept dyadic read. -/
theorem RG.ld {e : TypeId} {w0 wr : World} {V : Nat → Prop} {base st k : Nat} {tk : TypeId} {w : World} {a b c d : Slc} {A B C D : List DY} {L : List (Nat × TypeId × Array Value)} (h : RG e w0 wr V base st w a b c d A B C D L) {y : DY} (hm : (k, tk, c3 y.n y.s y.e) ∈ L) {K : Bool → Slc → Int → Prop} (hk : K y.n y.s y.e) :
    ldB ⟨k, 0, none⟩ w fun b => ldS ((⟨k, 0, none⟩ : Addr).add 1) w fun s => ldI .i64 ((⟨k, 0, none⟩ : Addr).add 2) w fun x => K b s x := get3 ⟨tk, (h.kept _ hm).1⟩ hk
/-- The fourth list, with one more in front. -/
theorem RG.front {t e ty : TypeId} {w0 wr : World} {V : Nat → Prop} {base st : Nat} {w : World} {a b c d : Slc} {A B C D : List DY} {L : List (Nat × TypeId × Array Value)} (h : RG e w0 wr V base st w a b c d A B C D L) {y : DY} (hsz : D.length + 1 ≤ 1000000) {K : Slc → World → Prop}
    (hk : ∀ s' w', RG e w0 wr V base st w' a b c s' A B C (y :: D) L → K s' w') (hT : sl3 pr t e = true := by kernel_rfl) :
    newC w (c3 y.n y.s y.e) e fun ad w1 => semS pr (Builtin.append_ #[t, t] ty #[(⟨some ad, 1, 1⟩ : Slc).v, d.v]) w1 K := by
  refine RG.new h fun k w1 hk1 x r => ?_
  obtain ⟨Bk, ok1, ok2, ok3, ok4⟩ := r.kept _ (List.mem_cons_self ..)
  have one : DRow e base w1 ⟨some ⟨k, 0, none⟩, 1, 1⟩ [y] := one_row (d := y) Bk (by have := h.bw; omega)
  have own : (Slc.v ⟨some ⟨k, 0, none⟩, 1, 1⟩).ownBlock = some k := rfl
  have nq : ∀ {u : Slc}, u.v.ownBlock ≠ some k → Dnq ⟨some ⟨k, 0, none⟩, 1, 1⟩ u := fun {u} hu g hg => by obtain rfl := Option.some.inj (own.symm.trans hg); exact hu
  have kp : ∀ q ∈ L, q.1 ≠ k := fun q hq e' => by have := (h.kept q hq).1.lt; omega
  by_cases hD : D = []
  · subst hD
    have hd : d = ⟨none, 0, 0⟩ := by
      rcases r.r.pd with ⟨h1, _⟩ | ⟨h1, _⟩
      · exact h1
      · exact absurd rfl h1
    subst hd
    refine app_none (hk _ _ ⟨r.hA, r.b0, r.bw, ⟨r.r.pa, r.r.pb, r.r.pc, one, r.r.ab, r.r.ac, (nq ok1).symm, r.r.bc, (nq ok2).symm, (nq ok3).symm⟩, r.va, r.vb, r.vc, r.vn, r.sw, r.mv, fun q hq => ?_, h.kl, h.nd⟩) ⟨_, Bk⟩ hT
    obtain ⟨h1, h2, h3, h4, h5⟩ := r.kept q (List.mem_cons_of_mem _ hq)
    exact ⟨h1, h2, h3, h4, fun q' => kp q hq (Option.some.inj (own.symm.trans q')).symm⟩
  · have r4 : R4 e base w1 ⟨some ⟨k, 0, none⟩, 1, 1⟩ a b c [y] A B C := ⟨one, r.r.pa, r.r.pb, r.r.pc, nq ok1, nq ok2, nq ok3, r.r.ab, r.r.ac, r.r.bc⟩
    refine R4.app r4 r.r.pd.rl hD r.bw (by show 1 + D.length ≤ 1000000; omega) (fun s' w' r' G o => hk s' w' ?_) hT
    have hg : ∀ g, s'.v.ownBlock = some g → g = k ∨ g = w1.heap.size := fun g hg => by
      rcases o with o | o
      · exact .inl (Option.some.inj (hg.symm.trans (o.trans own)))
      · exact .inr (Option.some.inj (hg.symm.trans o))
    refine ⟨G.ah w0 r.hA (fun g hg => by obtain rfl := Option.some.inj (own.symm.trans hg); have := h.b0; have := h.bw; omega), r.b0, Nat.le_trans r.bw G.sz, ⟨r'.pb, r'.pc, r'.pd, r'.pa, r'.bc, r'.bd, r'.ab.symm, r'.cd, r'.ac.symm, r'.ad.symm⟩, r.va, r.vb, r.vc, r.vn, Nat.le_trans r.sw G.sz, fun s l q => G.rd s l (r.mv s l q), fun q hq => ?_, h.kl, h.nd⟩
    obtain ⟨h1, h2, h3, h4, h5⟩ := r.kept q (List.mem_cons_of_mem _ hq)
    have hl := h1.lt
    have hl2 := (h.kept q hq).1.lt
    refine ⟨?_, h2, h3, h4, fun q' => ?_⟩
    · unfold Blt; rw [G.hp q.1 (fun q' => kp q hq (Option.some.inj (own.symm.trans q'.symm)).symm) hl]; exact h1
    · rcases hg _ q' with e' | e'
      · exact kp q hq e'
      · omega
theorem RG.sw12 {e : TypeId} {w0 wr : World} {V : Nat → Prop} {base st : Nat} {w : World} {a b c d : Slc} {A B C D : List DY} {p q : Nat × TypeId × Array Value} {L : List (Nat × TypeId × Array Value)} (h : RG e w0 wr V base st w a b c d A B C D (p :: q :: L)) : RG e w0 wr V base st w a b c d A B C D (q :: p :: L) := by
  have hm : ∀ x, x ∈ q :: p :: L → x ∈ p :: q :: L := fun x hx => by
    simp only [List.mem_cons] at hx ⊢
    rcases hx with h | h | h
    · exact .inr (.inl h)
    · exact .inl h
    · exact .inr (.inr h)
  refine ⟨h.hA, h.b0, h.bw, h.r, h.va, h.vb, h.vc, h.vn, h.sw, h.mv, fun x hx => h.kept x (hm x hx), fun x hx => h.kl x (hm x hx), ?_⟩
  obtain ⟨h1, h2⟩ := List.pairwise_cons.1 h.nd
  obtain ⟨h3, h4⟩ := List.pairwise_cons.1 h2
  refine List.pairwise_cons.2 ⟨fun x hx => ?_, List.pairwise_cons.2 ⟨fun x hx => h1 x (List.mem_cons_of_mem _ hx), h4⟩⟩
  rcases List.mem_cons.1 hx with rfl | hx
  · exact (h1 q (List.mem_cons_self ..)).symm
  · exact h3 x hx
/-- A new start: any block may change, what reads now is what counts. -/
theorem RG.re {e : TypeId} {w0 wr : World} {V : Nat → Prop} {base st : Nat} {w : World} {a b c d : Slc} {A B C D : List DY} {L L' : List (Nat × TypeId × Array Value)} (h : RG e w0 wr V base st w a b c d A B C D L) (hl : ∀ q ∈ L', q ∈ L) (hn : L'.Pairwise fun p q => p.1 ≠ q.1) : RG e w0 w (fun _ => True) base 0 w a b c d A B C D L' :=
  ⟨h.hA, h.b0, h.bw, h.r, fun _ _ => trivial, fun _ _ => trivial, fun _ _ => trivial, fun _ _ => trivial, Nat.zero_le _, fun _ _ r => r, fun q hq => h.kept q (hl q hq), fun q hq => h.kl q (hl q hq), hn⟩
/-- What a region may change: the three lists' blocks, and new ones. -/
def VV (a b c : Slc) (n : Nat) : Nat → Prop := fun j => a.v.ownBlock = some j ∨ b.v.ownBlock = some j ∨ c.v.ownBlock = some j ∨ n ≤ j
theorem RG.reg {e : TypeId} {w0 wr : World} {V : Nat → Prop} {base st : Nat} {w : World} {a b c d : Slc} {A B C D : List DY} {L : List (Nat × TypeId × Array Value)} (h : RG e w0 wr V base st w a b c d A B C D L) : RG e w0 w (VV a b c w.heap.size) base w.heap.size w a b c d A B C D L :=
  ⟨h.hA, h.b0, h.bw, h.r, fun _ q => .inl q, fun _ q => .inr (.inl q), fun _ q => .inr (.inr (.inl q)), fun _ q => .inr (.inr (.inr q)), Nat.le_refl _, fun _ _ r => r, h.kept, h.kl, h.nd⟩
theorem RG.out {e : TypeId} {w0 wr : World} {V : Nat → Prop} {base st k : Nat} {t : TypeId} {cs : Array Value} {w : World} {a b c d : Slc} {A B C D : List DY} {L : List (Nat × TypeId × Array Value)} (h : RG e w0 wr V base st w a b c d A B C D L) (hm : (k, t, cs) ∈ L) : ¬ VV a b c w.heap.size k := by
  obtain ⟨h1, h2, h3, h4, h5⟩ := h.kept _ hm
  have hl := h1.lt
  rintro (q | q | q | q)
  · exact h2 q
  · exact h3 q
  · exact h4 q
  · have : k < w.heap.size := hl
    omega
/-- A kept dyadic written over. -/
theorem RG.set {e : TypeId} {w0 wr : World} {V : Nat → Prop} {base st k : Nat} {t : TypeId} {n n' : Bool} {s s' : Slc} {x x' : Int} {w : World} {a b c d : Slc} {A B C D : List DY} {L : List (Nat × TypeId × Array Value)} (h : RG e w0 wr V base st w a b c d A B C D ((k, t, c3 n s x) :: L)) {K : World → Prop}
    (hk : ∀ w', RG e w0 wr V base st w' a b c d A B C D ((k, t, c3 n' s' x') :: L) → K w') (ht : rowTy t = false := by rfl) :
    stC ⟨k, 0, none⟩ (.bool n') w fun w1 => stC ((⟨k, 0, none⟩ : Addr).add 1) s'.v w1 fun w2 => stC ((⟨k, 0, none⟩ : Addr).add 2) (.int .i64 x') w2 fun w3 => K w3 := by
  obtain ⟨hB, ho⟩ := h.kept _ (List.mem_cons_self ..)
  obtain ⟨hn, hnd⟩ := List.pairwise_cons.1 h.nd
  have hk0 := h.kl _ (List.mem_cons_self ..)
  refine st3_t (t := t) hB rfl rfl rfl ht fun w' u B' => hk w' ?_
  have kp : ∀ {z : Slc} {Z : List DY}, DRow e base w z Z → z.v.ownBlock ≠ some k → DRow e base w' z Z := fun {z Z} hz hq => hz.keep fun g hg _ => u.block g (fun q => hq (by rw [hg, q]))
  refine ⟨u.ahead h.hA hk0, h.b0, by rw [u.size]; exact h.bw, ⟨kp h.r.pa ho.1, kp h.r.pb ho.2.1, kp h.r.pc ho.2.2.1, kp h.r.pd ho.2.2.2, h.r.ab, h.r.ac, h.r.ad, h.r.bc, h.r.bd, h.r.cd⟩, h.va, h.vb, h.vc, h.vn, by rw [u.size]; exact h.sw, fun s l r => (h.mv s l r).ext u.ext, fun q hq => ?_, fun q hq => ?_, List.pairwise_cons.2 ⟨hn, hnd⟩⟩
  · rcases List.mem_cons.1 hq with rfl | hq
    · exact ⟨B', ho⟩
    · obtain ⟨h1, h2⟩ := h.kept q (List.mem_cons_of_mem _ hq)
      exact ⟨u.blt h1 (fun q' => hn q hq q'.symm), h2⟩
  · rcases List.mem_cons.1 hq with rfl | hq
    · exact hk0
    · exact h.kl q (List.mem_cons_of_mem _ hq)
end Dp
end Go.Proofs.YtahbekmnphkiiaaDoor
namespace Go.Proofs.YtahbekmnphkiiaaDoor
open Go Go.RowKit Eng Sp Dg L2
set_option linter.unusedVariables false
set_option linter.unusedSimpArgs false
set_option maxRecDepth 100000
namespace Dp
open _root_.Go.Proofs.YtahbekmnphkiiaaDoor.Nat (Num Num.ahead Num.ext Yes num_of)
open Sb Dy Dl

theorem Got.mv {P : Int → Int → Prop} {w w' : World} {code : Int} {neg : Bool} {s : Slc} {E : Int} (h : Got P w code neg s E) (m : ∀ s l, Rd .u64 w s l → Rd .u64 w' s l) : Got P w' code neg s E := fun hc => by
  obtain ⟨z, h1, h2, h3, h4, h5, h6⟩ := h hc
  exact ⟨z, h1, h2, h3, h4, m _ _ h5, h6⟩
theorem Got.conv {P Q : Int → Int → Prop} {w : World} {code : Int} {neg : Bool} {s : Slc} {E : Int} (h : Got P w code neg s E) (q : ∀ Z E, P Z E → Q Z E) : Got Q w code neg s E := fun hc => by
  obtain ⟨z, h1, h2, h3, h4, h5, h6⟩ := h hc
  exact ⟨z, h1, h2, h3, h4, h5, q _ _ h6⟩
/-- Two answers of one value are the same number. -/
theorem sameV {w : World} {B v : Int} {n n' : Bool} {s s' : Slc} {x x' : Int} (g : Got (fun Z E => Vl Z E B v) w 0 n s x) (g' : Got (fun Z E => Vl Z E B v) w 0 n' s' x') :
    Calls pr surdlaw08_same_id #[.agg (c3 n s x), .agg (c3 n' s' x')] w fun en w' => Ahead w w' ∧ en = .returned (.bool true) := by
  obtain ⟨z, rfl, h2, h3, h4, h5, h6⟩ := g rfl
  obtain ⟨z', rfl, k2, k3, k4, k5, k6⟩ := g' rfl
  obtain ⟨rfl, rfl⟩ := h6.eq k6
  have := small_digs h2
  exact same_spec h5 k5 (by omega) (zb_nD z)
theorem all_lit1 {w : World} (l : List Int) (hl : l.length ≤ 1000) {cs : Array Value} {n : Nat} (hcs : cs = (ints .i64 l).toArray) (hn : n = l.length) {K : Bool → World → Prop} (h : ∀ b w', Ahead w w' → (b = true ↔ ∀ x ∈ l, x = 0) → K b w') :
    newC w cs 40 fun ad w1 => Calls pr surdlaw08_all_id #[(⟨some ad, n, n⟩ : Slc).v] w1 fun e w2 => ∃ b : Bool, e = .returned (.bool b) ∧ K b w2 := by
  subst hcs hn
  show Calls pr surdlaw08_all_id #[(⟨some ⟨w.heap.size, 0, none⟩, l.length, l.length⟩ : Slc).v] _ _
  refine Calls.mono (all_spec (lit_own .i64 40 w l).rd hl) ?_
  rintro e w2 ⟨rfl, c, rfl, hc⟩
  exact ⟨c, rfl, h c _ (Ahead.alloc _ _) hc⟩

def F0 : Int := -9223372036854775808
/-- A list that the law was given, and its numbers. -/
structure Inp (w : World) (s : Slc) (la : List DY) (z e : Nat → Int) : Prop where
  r : RL w s la
  el : ∀ i, El w (la.getD i zDY) (z i) (e i)
  fl : ∀ i, F0 ≤ e i
/-- What the four lists hold after k rounds. -/
structure Cnt (w : World) (la lb : List DY) (zp ep zq eq : Nat → Int) (k : Nat) (xs ys us bs : List DY) : Prop where
  lx : xs.length = k
  ly : ys.length = k
  lu : us.length = k
  lv : bs.length = k
  gx : ∀ i, i < k → xs.getD i zDY = la.getD i zDY
  gy : ∀ i, i < k → ys.getD i zDY = lb.getD i zDY
  gb : ∀ i, i < k → bs.getD i zDY = la.getD (k - 1 - i) zDY
  gu : ∃ zs es : Nat → Int, ∀ i, i < k → El w (us.getD i zDY) (zs i) (es i) ∧ SumP (zp i) (ep i) (zq i) (eq i) (zs i) (es i)
theorem Cnt.mv {w w' : World} {la lb : List DY} {zp ep zq eq : Nat → Int} {k : Nat} {xs ys us bs : List DY} (h : Cnt w la lb zp ep zq eq k xs ys us bs) (m : ∀ s l, Rd .u64 w s l → Rd .u64 w' s l) : Cnt w' la lb zp ep zq eq k xs ys us bs := by
  obtain ⟨zs, es, hu⟩ := h.gu
  exact ⟨h.lx, h.ly, h.lu, h.lv, h.gx, h.gy, h.gb, zs, es, fun i hi => ⟨(hu i hi).1.rd m, (hu i hi).2⟩⟩
theorem getD_last {l : List DY} {d : DY} {i : Nat} (hi : i < l.length + 1) : (l ++ [d]).getD i zDY = if i = l.length then d else l.getD i zDY := by
  split
  · rename_i h; subst h; simp
  · have : i < l.length := by omega
    rw [List.getD_eq_getElem?_getD, List.getD_eq_getElem?_getD, List.getElem?_append_left this]
theorem Cnt.more {w : World} {la lb : List DY} {zp ep zq eq : Nat → Int} {k : Nat} {xs ys us bs : List DY} {u : DY} {z e : Int} (h : Cnt w la lb zp ep zq eq k xs ys us bs) (hu : El w u z e) (hs : SumP (zp k) (ep k) (zq k) (eq k) z e) :
    Cnt w la lb zp ep zq eq (k + 1) (xs ++ [la.getD k zDY]) (ys ++ [lb.getD k zDY]) (us ++ [u]) (la.getD k zDY :: bs) := by
  obtain ⟨zs, es, hq⟩ := h.gu
  refine ⟨by simp [h.lx], by simp [h.ly], by simp [h.lu], by simp [h.lv], fun i hi => ?_, fun i hi => ?_, fun i hi => ?_, fun i => if i = k then z else zs i, fun i => if i = k then e else es i, fun i hi => ?_⟩
  · rw [getD_last (by rw [h.lx]; exact hi), h.lx]
    split
    · rename_i q; rw [q]
    · exact h.gx i (by omega)
  · rw [getD_last (by rw [h.ly]; exact hi), h.ly]
    split
    · rename_i q; rw [q]
    · exact h.gy i (by omega)
  · rcases i with _ | i
    · rfl
    · show bs.getD i zDY = _
      rw [h.gb i (by omega), show k + 1 - 1 - (i + 1) = k - 1 - i by omega]
  · rw [getD_last (by rw [h.lu]; exact hi), h.lu]
    show El w _ (if i = k then z else zs i) (if i = k then e else es i) ∧ SumP _ _ _ _ (if i = k then z else zs i) (if i = k then e else es i)
    split
    · rename_i q; subst q; exact ⟨hu, hs⟩
    · exact hq i (by omega)
section
variable (w : World) (a b : Slc) (la lb : List DY) (zp ep zq eq : Nat → Int) (n2 : Bool) (s2 : Slc) (e2 : Int) (N : Nat)
def PJ (t0 t1 : Slc) (t5 : Addr) (t7 t8 t9 t10 : Slc) (t45 t46 : Int) (w_ : World) : Prop := t0 = a ∧ t1 = b ∧ t45 = (N : Int) ∧ N ≤ 1000 ∧ ∃ (b1 base k : Nat) (xs ys us bs : List DY), t5 = ⟨b1, 0, none⟩ ∧ t46 = (k : Int) ∧ k ≤ N ∧
  RG 39 w w_ (fun _ => True) base 0 w_ t7 t8 t10 t9 xs ys us bs [(b1, 24, c3 n2 s2 e2)] ∧ Cnt w_ la lb zp ep zq eq k xs ys us bs
def PK (P Q : DY) (k : Nat) (t0 t1 : Slc) (t5 : Addr) (t7 t8 t9 t10 : Slc) (t12 t13 : Addr) (t45 t46 : Int) (w_ : World) : Prop := t0 = a ∧ t1 = b ∧ t45 = (N : Int) ∧ t46 = (k : Int) ∧ ∃ (b1 base bp bq : Nat) (xs ys us bs : List DY), t5 = ⟨b1, 0, none⟩ ∧ t12 = ⟨bp, 0, none⟩ ∧ t13 = ⟨bq, 0, none⟩ ∧
  RG 39 w w_ (fun _ => True) base 0 w_ t7 t8 t10 t9 xs ys us bs [(bq, 39, c3 Q.n Q.s Q.e), (bp, 39, c3 P.n P.s P.e), (b1, 24, c3 n2 s2 e2)] ∧ Cnt w_ la lb zp ep zq eq k xs ys us bs
/-- The three values that the last sum needs. -/
def P28 (t24 : Addr) (t25 : Int) (t26 : Addr) (t27 : Int) (t28 : Addr) (t29 : Int) (w_ : World) : Prop := Ahead w w_ ∧ ∃ (b1 b2 b3 : Nat) (m1 m2 m3 : Bool) (u1 u2 u3 : Slc) (x1 x2 x3 B V1 V2 : Int), t24 = ⟨b1, 0, none⟩ ∧ t26 = ⟨b2, 0, none⟩ ∧ t28 = ⟨b3, 0, none⟩ ∧
  Blk w_ b1 (c3 m1 u1 x1) ∧ Blk w_ b2 (c3 m2 u2 x2) ∧ Blk w_ b3 (c3 m3 u3 x3) ∧ w.heap.size ≤ b1 ∧ w.heap.size ≤ b2 ∧ w.heap.size ≤ b3 ∧ B ≤ 0 ∧
  Got (fun Z E => Vl Z E B V1) w_ t25 m1 u1 x1 ∧ Got (fun Z E => Vl Z E B V2) w_ t27 m2 u2 x2 ∧ Got (fun Z E => Vl Z E B (V1 + V2)) w_ t29 m3 u3 x3
end
theorem getD_none {l : List DY} {k : Nat} (h : l.length ≤ k) : l.getD k zDY = zDY := by
  rw [List.getD_eq_getElem?_getD, List.getElem?_eq_none h]; rfl

set_option maxHeartbeats 4000000 in
theorem DyadicPolys_walk {w : World} (hT : Tab w) {a b : Slc} {la lb : List DY} {zp ep zq eq : Nat → Int} {n2 : Bool} {s2 : Slc} {e2 zx ex : Int} (ia : Inp w a la zp ep) (ib : Inp w b lb zq eq) (ix : El w ⟨n2, s2, e2⟩ zx ex) (fx : F0 ≤ ex) :
    Calls pr surdlaw08_DyadicPolys_id #[a.v, b.v, .agg (c3 n2 s2 e2)] w (Yes w) := by
  have aw : ∀ v, Ahead w v → Calls pr surdlaw08_awake_id #[] v fun e v' => ∃ b1 : Bool, e = .returned (Value.bool b1) ∧ Yes w (.returned (Value.bool b1)) v' := by
    intro v av
    refine Calls.mono (awake_spec (hT.ahead av)) ?_
    rintro e v' ⟨rfl, h⟩
    exact ⟨_, rfl, rfl, av.trans h⟩
  have f0 : F0 ≤ 0 := by unfold F0; omega
  refine surdlaw08_DyadicPolys_vc a b n2 s2 e2 w _ (PJ w a b la lb zp ep zq eq n2 s2 e2 (max la.length lb.length)) (fun _ _ _ _ _ _ _ t45 t46 _ => (t45 - t46).toNat)
    (fun _ _ _ _ _ _ _ t45 t46 _ t0 t1 t5 t7 t8 t9 t10 t11 t12 t13 t45' t46' w_ => ∃ k : Nat, k < max la.length lb.length ∧ max la.length lb.length ≤ 1000 ∧ t46 = (k : Int) ∧ t45 = ((max la.length lb.length : Nat) : Int) ∧ t11 = (k : Int) ∧ PK w a b la lb zp ep zq eq n2 s2 e2 (max la.length lb.length) (la.getD k zDY) zDY k t0 t1 t5 t7 t8 t9 t10 t12 t13 t45' t46' w_)
    (fun _ _ _ _ _ _ _ t45 t46 _ t0 t1 t5 t7 t8 t9 t10 t12 t13 t45' t46' w_ => ∃ k : Nat, k < max la.length lb.length ∧ max la.length lb.length ≤ 1000 ∧ t46 = (k : Int) ∧ t45 = ((max la.length lb.length : Nat) : Int) ∧ PK w a b la lb zp ep zq eq n2 s2 e2 (max la.length lb.length) (la.getD k zDY) (lb.getD k zDY) k t0 t1 t5 t7 t8 t9 t10 t12 t13 t45' t46' w_)
    (P28 w) ?_ ?_ ?_ ?_ ?_
  · refine newC_t fun b1 w1 hb1 x1 z1 B1 => ?_
    refine br_intro (fun _ => aw w1 x1) (fun h1 => br_intro (fun _ => aw w1 x1) (fun h2 => ?_))
    have h1 := of_decide_eq_false h1
    have h2 := of_decide_eq_false h2
    have na := ia.r.n
    have nb := ib.r.n
    refine ⟨rfl, rfl, ?_, by omega, b1, w1.heap.size, 0, [], [], [], [], rfl, rfl, Nat.zero_le _, ⟨x1, by have := x1.size; omega, Nat.le_refl _, R4.nil, fun _ _ => trivial, fun _ _ => trivial, fun _ _ => trivial, fun _ _ => trivial, Nat.zero_le _, fun _ _ r => r, fun q hq => ?_, fun q hq => ?_, ?_⟩, ⟨rfl, rfl, rfl, rfl, fun i hi => by omega, fun i hi => by omega, fun i hi => by omega, fun _ => 0, fun _ => 0, fun i hi => by omega⟩⟩
    · unfold maxI; split <;> omega
    · obtain rfl := List.mem_singleton.1 hq
      exact ⟨B1, R4.off0 (R4.nil (e := 39) (base := w1.heap.size) (w := w1)) (by show b1 < _; omega)⟩
    · obtain rfl := List.mem_singleton.1 hq
      show w.heap.size ≤ b1; omega
    · exact List.pairwise_singleton ..
  · rintro t0 t1 t5 t7 t8 t9 t10 t45 t46 w_ ⟨rfl, rfl, rfl, hN, b1, base, k, xs, ys, us, bs, rfl, rfl, hk, r0, c0⟩
    refine br_intro (fun hc => ?_) (fun hc => ?_)
    · have hc : k < max la.length lb.length := by have := of_decide_eq_true hc; omega
      refine RG.new r0 fun bp w4 e4 x4 r4 => RG.new r4 fun bq w5 e5 x5 r5 => RG.set r5.sw12 fun w8 r8 => RG.set r8.sw12 fun w11 r11 => ?_
      have na := ia.r.n
      refine br_intro (fun hi => ?_) (fun hi => ?_)
      · have hi : k < la.length := by have := of_decide_eq_true hi; omega
        refine RL.ix (ia.r.ahead r11.hA) hi (Calls.mono in_spec ?_)
        rintro en w13 ⟨h13, rfl⟩
        refine ⟨_, _, _, rfl, RG.set (r11.step h13).sw12 fun w16 r16 => ?_⟩
        exact ⟨k, hc, hN, rfl, rfl, rfl, rfl, rfl, rfl, rfl, b1, base, bp, bq, xs, ys, us, bs, rfl, rfl, rfl, r16.sw12.re (fun q h => h) r16.sw12.nd, c0.mv r16.mv⟩
      · have hi : la.length ≤ k := by have := of_decide_eq_false hi; omega
        refine ⟨k, hc, hN, rfl, rfl, rfl, rfl, rfl, rfl, rfl, b1, base, bp, bq, xs, ys, us, bs, rfl, rfl, rfl, ?_, c0.mv r11.mv⟩
        rw [getD_none hi]
        exact r11.re (fun q h => h) r11.nd
    · have hc : k = max la.length lb.length := by have := of_decide_eq_false hc; omega
      subst hc
      obtain ⟨zs, es, hu⟩ := c0.gu
      have fs : ∀ i, i < max la.length lb.length → F0 ≤ es i := fun i hi => ((hu i hi).2 F0 f0 (ia.fl i) (ib.fl i)).le
      have lx := c0.lx
      have ly := c0.ly
      have lu := c0.lu
      have lv := c0.lv
      have Lx : ∀ v, RL v t7 xs → Ahead w v → Ls v t7 xs zp ep := fun v q h => ⟨q, fun i hi => by rw [c0.gx i (by omega)]; exact (ia.el i).ahead h⟩
      have Ly : ∀ v, RL v t8 ys → Ahead w v → Ls v t8 ys zq eq := fun v q h => ⟨q, fun i hi => by rw [c0.gy i (by omega)]; exact (ib.el i).ahead h⟩
      have Lb : ∀ v, RL v t9 bs → Ahead w v → Ls v t9 bs (fun i => zp (max la.length lb.length - 1 - i)) (fun i => ep (max la.length lb.length - 1 - i)) := fun v q h => ⟨q, fun i hi => by rw [c0.gb i (by omega)]; exact (ia.el _).ahead h⟩
      have Lu : ∀ v, RL v t10 us → (∀ i, i < max la.length lb.length → El v (us.getD i zDY) (zs i) (es i) ∧ SumP (zp i) (ep i) (zq i) (eq i) (zs i) (es i)) → Ls v t10 us zs es := fun v q h => ⟨q, fun i hi => (h i (by omega)).1⟩

      refine Calls.mono (Sum_spec (hT.ahead r0.hA) (Lx _ r0.r.pa.rl r0.hA) f0 (fun i _ => ia.fl i) (by omega)) ?_
      rintro en v1 ⟨h1, d1, m1, u1, y1, rfl, g1⟩
      refine ⟨_, _, _, _, rfl, RG.new ((r0.step h1).re (fun q h => h) r0.nd) fun k1 va1 ea1 xa1 ra1 => RG.set ra1 fun vb1 r1 => ?_⟩
      replace g1 := Got.mv g1 r1.mv
      replace hu : ∀ i, i < max la.length lb.length → El vb1 (us.getD i zDY) (zs i) (es i) ∧ SumP (zp i) (ep i) (zq i) (eq i) (zs i) (es i) := fun i hi => ⟨(hu i hi).1.rd (fun s l q => r1.mv s l (q.ahead h1)), (hu i hi).2⟩
      refine Calls.mono (Sum_spec (hT.ahead r1.hA) (Lb _ r1.r.pd.rl r1.hA) f0 (fun i _ => ia.fl _) (by omega)) ?_
      rintro en v2 ⟨h2, d2, m2, u2, y2, rfl, g2⟩
      refine ⟨_, _, _, _, rfl, RG.new ((r1.step h2).re (fun q h => h) r1.nd) fun k2 va2 ea2 xa2 ra2 => RG.set ra2 fun vb2 r2 => ?_⟩
      replace g1 := Got.mv g1 (fun s l q => r2.mv s l (q.ahead h2))
      replace g2 := Got.mv g2 r2.mv
      replace hu : ∀ i, i < max la.length lb.length → El vb2 (us.getD i zDY) (zs i) (es i) ∧ SumP (zp i) (ep i) (zq i) (eq i) (zs i) (es i) := fun i hi => ⟨(hu i hi).1.rd (fun s l q => r2.mv s l (q.ahead h2)), (hu i hi).2⟩
      refine Calls.mono (Dot_spec (hT.ahead r2.hA) (Lx _ r2.r.pa.rl r2.hA) (Ly _ r2.r.pb.rl r2.hA) f0 (fun i _ => ia.fl i) (fun i _ => ib.fl i) (by omega) (by omega)) ?_
      rintro en v3 ⟨h3, d3, m3, u3, y3, rfl, g3⟩
      refine ⟨_, _, _, _, rfl, RG.new ((r2.step h3).re (fun q h => h) r2.nd) fun k3 va3 ea3 xa3 ra3 => RG.set ra3 fun vb3 r3 => ?_⟩
      replace g1 := Got.mv g1 (fun s l q => r3.mv s l (q.ahead h3))
      replace g2 := Got.mv g2 (fun s l q => r3.mv s l (q.ahead h3))
      replace g3 := Got.mv g3 r3.mv
      replace hu : ∀ i, i < max la.length lb.length → El vb3 (us.getD i zDY) (zs i) (es i) ∧ SumP (zp i) (ep i) (zq i) (eq i) (zs i) (es i) := fun i hi => ⟨(hu i hi).1.rd (fun s l q => r3.mv s l (q.ahead h3)), (hu i hi).2⟩
      refine Calls.mono (Dot_spec (hT.ahead r3.hA) (Ly _ r3.r.pb.rl r3.hA) (Lx _ r3.r.pa.rl r3.hA) f0 (fun i _ => ib.fl i) (fun i _ => ia.fl i) (by omega) (by omega)) ?_
      rintro en v4 ⟨h4, d4, m4, u4, y4, rfl, g4⟩
      refine ⟨_, _, _, _, rfl, RG.new ((r3.step h4).re (fun q h => h) r3.nd) fun k4 va4 ea4 xa4 ra4 => RG.set ra4 fun vb4 r4 => ?_⟩
      replace g1 := Got.mv g1 (fun s l q => r4.mv s l (q.ahead h4))
      replace g2 := Got.mv g2 (fun s l q => r4.mv s l (q.ahead h4))
      replace g3 := Got.mv g3 (fun s l q => r4.mv s l (q.ahead h4))
      replace g4 := Got.mv g4 r4.mv
      replace hu : ∀ i, i < max la.length lb.length → El vb4 (us.getD i zDY) (zs i) (es i) ∧ SumP (zp i) (ep i) (zq i) (eq i) (zs i) (es i) := fun i hi => ⟨(hu i hi).1.rd (fun s l q => r4.mv s l (q.ahead h4)), (hu i hi).2⟩
      refine RG.ld r4 (y := ⟨n2, s2, e2⟩) (tk := 24) (List.mem_cons_of_mem _ (List.mem_cons_of_mem _ (List.mem_cons_of_mem _ (List.mem_cons_of_mem _ (List.mem_cons_self ..))))) (Calls.mono in_spec ?_)
      rintro en vi5 ⟨hi5, rfl⟩
      have ri5 := (r4.step hi5).re (fun q h => h) r4.nd
      replace g1 := Got.mv g1 (fun s l q => q.ahead hi5)
      replace g2 := Got.mv g2 (fun s l q => q.ahead hi5)
      replace g3 := Got.mv g3 (fun s l q => q.ahead hi5)
      replace g4 := Got.mv g4 (fun s l q => q.ahead hi5)
      replace hu : ∀ i, i < max la.length lb.length → El vi5 (us.getD i zDY) (zs i) (es i) ∧ SumP (zp i) (ep i) (zq i) (eq i) (zs i) (es i) := fun i hi => ⟨(hu i hi).1.ahead hi5, (hu i hi).2⟩
      refine ⟨_, _, _, rfl, Calls.mono (Value_spec (hT.ahead ri5.hA) (Lx _ ri5.r.pa.rl ri5.hA) (ix.ahead ri5.hA) f0 (fun i _ => ia.fl i) fx (by omega)) ?_⟩
      rintro en v5 ⟨h5, d5, m5, u5, y5, rfl, g5⟩
      refine ⟨_, _, _, _, rfl, RG.new ((ri5.step h5).re (fun q h => h) ri5.nd) fun k5 va5 ea5 xa5 ra5 => RG.set ra5 fun vb5 r5 => ?_⟩
      replace g1 := Got.mv g1 (fun s l q => r5.mv s l (q.ahead h5))
      replace g2 := Got.mv g2 (fun s l q => r5.mv s l (q.ahead h5))
      replace g3 := Got.mv g3 (fun s l q => r5.mv s l (q.ahead h5))
      replace g4 := Got.mv g4 (fun s l q => r5.mv s l (q.ahead h5))
      replace g5 := Got.mv g5 r5.mv
      replace hu : ∀ i, i < max la.length lb.length → El vb5 (us.getD i zDY) (zs i) (es i) ∧ SumP (zp i) (ep i) (zq i) (eq i) (zs i) (es i) := fun i hi => ⟨(hu i hi).1.rd (fun s l q => r5.mv s l (q.ahead h5)), (hu i hi).2⟩
      refine RG.ld r5 (y := ⟨n2, s2, e2⟩) (tk := 24) (List.mem_cons_of_mem _ (List.mem_cons_of_mem _ (List.mem_cons_of_mem _ (List.mem_cons_of_mem _ (List.mem_cons_of_mem _ (List.mem_cons_self ..)))))) (Calls.mono in_spec ?_)
      rintro en vi6 ⟨hi6, rfl⟩
      have ri6 := (r5.step hi6).re (fun q h => h) r5.nd
      replace g1 := Got.mv g1 (fun s l q => q.ahead hi6)
      replace g2 := Got.mv g2 (fun s l q => q.ahead hi6)
      replace g3 := Got.mv g3 (fun s l q => q.ahead hi6)
      replace g4 := Got.mv g4 (fun s l q => q.ahead hi6)
      replace g5 := Got.mv g5 (fun s l q => q.ahead hi6)
      replace hu : ∀ i, i < max la.length lb.length → El vi6 (us.getD i zDY) (zs i) (es i) ∧ SumP (zp i) (ep i) (zq i) (eq i) (zs i) (es i) := fun i hi => ⟨(hu i hi).1.ahead hi6, (hu i hi).2⟩
      refine ⟨_, _, _, rfl, Calls.mono (Value_spec (hT.ahead ri6.hA) (Ly _ ri6.r.pb.rl ri6.hA) (ix.ahead ri6.hA) f0 (fun i _ => ib.fl i) fx (by omega)) ?_⟩
      rintro en v6 ⟨h6, d6, m6, u6, y6, rfl, g6⟩
      refine ⟨_, _, _, _, rfl, RG.new ((ri6.step h6).re (fun q h => h) ri6.nd) fun k6 va6 ea6 xa6 ra6 => RG.set ra6 fun vb6 r6 => ?_⟩
      replace g1 := Got.mv g1 (fun s l q => r6.mv s l (q.ahead h6))
      replace g2 := Got.mv g2 (fun s l q => r6.mv s l (q.ahead h6))
      replace g3 := Got.mv g3 (fun s l q => r6.mv s l (q.ahead h6))
      replace g4 := Got.mv g4 (fun s l q => r6.mv s l (q.ahead h6))
      replace g5 := Got.mv g5 (fun s l q => r6.mv s l (q.ahead h6))
      replace g6 := Got.mv g6 r6.mv
      replace hu : ∀ i, i < max la.length lb.length → El vb6 (us.getD i zDY) (zs i) (es i) ∧ SumP (zp i) (ep i) (zq i) (eq i) (zs i) (es i) := fun i hi => ⟨(hu i hi).1.rd (fun s l q => r6.mv s l (q.ahead h6)), (hu i hi).2⟩
      refine RG.ld r6 (y := ⟨n2, s2, e2⟩) (tk := 24) (List.mem_cons_of_mem _ (List.mem_cons_of_mem _ (List.mem_cons_of_mem _ (List.mem_cons_of_mem _ (List.mem_cons_of_mem _ (List.mem_cons_of_mem _ (List.mem_cons_self ..))))))) (Calls.mono in_spec ?_)
      rintro en vi7 ⟨hi7, rfl⟩
      have ri7 := (r6.step hi7).re (fun q h => h) r6.nd
      replace g1 := Got.mv g1 (fun s l q => q.ahead hi7)
      replace g2 := Got.mv g2 (fun s l q => q.ahead hi7)
      replace g3 := Got.mv g3 (fun s l q => q.ahead hi7)
      replace g4 := Got.mv g4 (fun s l q => q.ahead hi7)
      replace g5 := Got.mv g5 (fun s l q => q.ahead hi7)
      replace g6 := Got.mv g6 (fun s l q => q.ahead hi7)
      replace hu : ∀ i, i < max la.length lb.length → El vi7 (us.getD i zDY) (zs i) (es i) ∧ SumP (zp i) (ep i) (zq i) (eq i) (zs i) (es i) := fun i hi => ⟨(hu i hi).1.ahead hi7, (hu i hi).2⟩
      refine ⟨_, _, _, rfl, Calls.mono (Value_spec (hT.ahead ri7.hA) (Lu _ ri7.r.pc.rl hu) (ix.ahead ri7.hA) f0 (fun i hi => fs i (by omega)) fx (by omega)) ?_⟩
      rintro en v7 ⟨h7, d7, m7, u7, y7, rfl, g7⟩
      refine ⟨_, _, _, _, rfl, RG.new ((ri7.step h7).re (fun q h => h) ri7.nd) fun k7 va7 ea7 xa7 ra7 => RG.set ra7 fun vb7 r7 => ?_⟩
      replace g1 := Got.mv g1 (fun s l q => r7.mv s l (q.ahead h7))
      replace g2 := Got.mv g2 (fun s l q => r7.mv s l (q.ahead h7))
      replace g3 := Got.mv g3 (fun s l q => r7.mv s l (q.ahead h7))
      replace g4 := Got.mv g4 (fun s l q => r7.mv s l (q.ahead h7))
      replace g5 := Got.mv g5 (fun s l q => r7.mv s l (q.ahead h7))
      replace g6 := Got.mv g6 (fun s l q => r7.mv s l (q.ahead h7))
      replace g7 := Got.mv g7 r7.mv
      replace hu : ∀ i, i < max la.length lb.length → El vb7 (us.getD i zDY) (zs i) (es i) ∧ SumP (zp i) (ep i) (zq i) (eq i) (zs i) (es i) := fun i hi => ⟨(hu i hi).1.rd (fun s l q => r7.mv s l (q.ahead h7)), (hu i hi).2⟩
      rw [lx] at g1
      rw [lv, sumZ_rev (fun i => dv (zp i) (ep i) F0)] at g2
      have g3' := Got.conv g3 (fun Z E q => q.2)
      have g4' := Got.conv g4 (fun Z E q => q.2)
      rw [lx] at g3'
      rw [ly, sumZ_congr (g := fun i => dv (zp i) (ep i) F0 * dv (zq i) (eq i) F0) (fun i _ => Int.mul_comm _ _)] at g4'
      rw [lx] at g5
      rw [ly] at g6
      rw [lu, hor_add (fun i hi b hb => ((hu i hi).2 b (by omega) (Int.le_trans hb (ia.fl i)) (Int.le_trans hb (ib.fl i))).val) f0 _ (Nat.le_refl _)] at g7
      have fin28 : ∀ v, Ahead vb7 v → P28 w ⟨k5, 0, none⟩ d5 ⟨k6, 0, none⟩ d6 ⟨k7, 0, none⟩ d7 v := fun v h =>
        ⟨r7.hA.trans h, k5, k6, k7, m5, m6, m7, u5, u6, u7, y5, y6, y7, _, _, _, rfl, rfl, rfl, Blk.ahead ⟨_, (r7.kept _ (List.mem_cons_of_mem _ (List.mem_cons_of_mem _ (List.mem_cons_self ..)))).1⟩ h, Blk.ahead ⟨_, (r7.kept _ (List.mem_cons_of_mem _ (List.mem_cons_self ..))).1⟩ h, Blk.ahead ⟨_, (r7.kept _ (List.mem_cons_self ..)).1⟩ h, r7.kl _ (List.mem_cons_of_mem _ (List.mem_cons_of_mem _ (List.mem_cons_self ..))), r7.kl _ (List.mem_cons_of_mem _ (List.mem_cons_self ..)), r7.kl _ (List.mem_cons_self ..),
          Int.mul_nonpos_of_nonneg_of_nonpos (Int.natCast_nonneg _) f0, Got.mv g5 (fun s l q => q.ahead h), Got.mv g6 (fun s l q => q.ahead h), Got.mv g7 (fun s l q => q.ahead h)⟩
      refine all_lit1 [d1, d2] (by simp) rfl rfl fun bb z0 x0 hb => br_intro (fun hq => ?_) (fun hq => ?_)
      · obtain rfl : d1 = 0 := hb.1 hq d1 (by simp)
        obtain rfl : d2 = 0 := hb.1 hq d2 (by simp)
        have rz := r7.step x0
        refine RG.ld rz (y := ⟨m1, u1, y1⟩) (tk := 39) (List.mem_cons_of_mem _ (List.mem_cons_of_mem _ (List.mem_cons_of_mem _ (List.mem_cons_of_mem _ (List.mem_cons_of_mem _ (List.mem_cons_of_mem _ (List.mem_cons_self ..))))))) (RG.ld rz (y := ⟨m2, u2, y2⟩) (tk := 39) (List.mem_cons_of_mem _ (List.mem_cons_of_mem _ (List.mem_cons_of_mem _ (List.mem_cons_of_mem _ (List.mem_cons_of_mem _ (List.mem_cons_self ..)))))) (Calls.mono (sameV (Got.mv g1 (fun s l q => q.ahead x0)) (Got.mv g2 (fun s l q => q.ahead x0))) ?_))
        rintro en z1 ⟨x1, rfl⟩
        refine ⟨_, rfl, br_false rfl ?_⟩
        have xx := x0.trans x1
        refine all_lit1 [d3, d4] (by simp) rfl rfl fun bb2 z2 x2 hb2 => br_intro (fun hq2 => ?_) (fun hq2 => fin28 _ (xx.trans x2))
        obtain rfl : d3 = 0 := hb2.1 hq2 d3 (by simp)
        obtain rfl : d4 = 0 := hb2.1 hq2 d4 (by simp)
        have rz2 := r7.step (xx.trans x2)
        refine RG.ld rz2 (y := ⟨m3, u3, y3⟩) (tk := 39) (List.mem_cons_of_mem _ (List.mem_cons_of_mem _ (List.mem_cons_of_mem _ (List.mem_cons_of_mem _ (List.mem_cons_self ..))))) (RG.ld rz2 (y := ⟨m4, u4, y4⟩) (tk := 39) (List.mem_cons_of_mem _ (List.mem_cons_of_mem _ (List.mem_cons_of_mem _ (List.mem_cons_self ..)))) (Calls.mono (sameV (Got.mv g3' (fun s l q => q.ahead (xx.trans x2))) (Got.mv g4' (fun s l q => q.ahead (xx.trans x2)))) ?_))
        rintro en z3 ⟨x3, rfl⟩
        exact ⟨_, rfl, br_false rfl (fin28 _ ((xx.trans x2).trans x3))⟩
      · refine all_lit1 [d3, d4] (by simp) rfl rfl fun bb2 z2 x2 hb2 => br_intro (fun hq2 => ?_) (fun hq2 => fin28 _ (x0.trans x2))
        obtain rfl : d3 = 0 := hb2.1 hq2 d3 (by simp)
        obtain rfl : d4 = 0 := hb2.1 hq2 d4 (by simp)
        have rz2 := r7.step (x0.trans x2)
        refine RG.ld rz2 (y := ⟨m3, u3, y3⟩) (tk := 39) (List.mem_cons_of_mem _ (List.mem_cons_of_mem _ (List.mem_cons_of_mem _ (List.mem_cons_of_mem _ (List.mem_cons_self ..))))) (RG.ld rz2 (y := ⟨m4, u4, y4⟩) (tk := 39) (List.mem_cons_of_mem _ (List.mem_cons_of_mem _ (List.mem_cons_of_mem _ (List.mem_cons_self ..)))) (Calls.mono (sameV (Got.mv g3' (fun s l q => q.ahead (x0.trans x2))) (Got.mv g4' (fun s l q => q.ahead (x0.trans x2)))) ?_))
        rintro en z3 ⟨x3, rfl⟩
        exact ⟨_, rfl, br_false rfl (fin28 _ ((x0.trans x2).trans x3))⟩
  · rintro t0 t1 t5 t7 t8 t9 t10 t45 t46 w_ hJ t0' t1' t5' t7' t8' t9' t10' t11' t12' t13' t45' t46' w2 ⟨k, hk, hN, e46, e45, rfl, rfl, rfl, rfl, rfl, b1, base, bp, bq, xs, ys, us, bs, rfl, rfl, rfl, r0, c0⟩
    have nb := ib.r.n
    refine br_intro (fun hi => ?_) (fun hi => ?_)
    · have hi : k < lb.length := by have := of_decide_eq_true hi; omega
      refine RL.ix (ib.r.ahead r0.hA) hi (Calls.mono in_spec ?_)
      rintro en w13 ⟨h13, rfl⟩
      refine ⟨_, _, _, rfl, RG.set (r0.step h13) fun w16 r16 => ?_⟩
      exact ⟨k, hk, hN, e46, e45, rfl, rfl, rfl, rfl, b1, base, bp, bq, xs, ys, us, bs, rfl, rfl, rfl, r16.re (fun q h => h) r16.nd, c0.mv r16.mv⟩
    · have hi : lb.length ≤ k := by have := of_decide_eq_false hi; omega
      refine ⟨k, hk, hN, e46, e45, rfl, rfl, rfl, rfl, b1, base, bp, bq, xs, ys, us, bs, rfl, rfl, rfl, ?_, c0⟩
      rw [getD_none hi]
      exact r0
  · rintro t0 t1 t5 t7 t8 t9 t10 t45 t46 w_ hJ t0' t1' t5' t7' t8' t9' t10' t12' t13' t45' t46' w2 ⟨k, hk, hN, e46, e45, rfl, rfl, rfl, rfl, b1, base, bp, bq, xs, ys, us, bs, rfl, rfl, rfl, r0, c0⟩
    obtain ⟨Xp, np, lp, hzp, hep⟩ := (ia.el k).ahead r0.hA
    obtain ⟨Xq, nq, lq, hzq, heq⟩ := (ib.el k).ahead r0.hA
    refine RG.ld r0 (y := la.getD k zDY) (tk := 39) (List.mem_cons_of_mem _ (List.mem_cons_self ..)) (RG.ld r0 (y := lb.getD k zDY) (tk := 39) (List.mem_cons_self ..) (Calls.mono (Add_spec (hT.ahead r0.hA) np nq (by omega) (by omega)) ?_))
    rintro en w22 ⟨h22, cd, mu, su, xu, rfl, hh⟩
    refine ⟨_, _, _, _, rfl, RG.new ((r0.step h22).re (fun q h => h) r0.nd) fun bu w23 e23 x23 r23 => RG.set r23 fun w26 r26 => Calls.mono num_spec ?_⟩
    rintro en w27 ⟨rfl, rfl⟩
    refine ⟨_, rfl, br_intro (fun hc => aw _ r26.hA) (fun hc => ?_)⟩
    have hc : cd = 0 := by simpa using hc
    subst hc
    obtain ⟨zu, elu, hP, -, -, -⟩ := El.got hh
    have hS := hP.2.2
    rw [hzp, hep, hzq, heq] at hS
    have hd := Ahead.drew w27
    have c26 := (c0.mv (fun s l q => (r26.mv s l (q.ahead h22)).ahead hd)).more ((elu.rd r26.mv).ahead hd) hS
    have R := ((r26.step hd).re (fun q h => h) r26.nd).reg
    have lx := c0.lx
    have ly := c0.ly
    have lu := c0.lu
    have lv := c0.lv
    have hfin : ∀ w' s7 s8 s10 s9 L', RG 39 w w27.drew (VV t7' t8' t10' w27.drew.heap.size) base w27.drew.heap.size w' s7 s8 s10 s9 (xs ++ [la.getD k zDY]) (ys ++ [lb.getD k zDY]) (us ++ [⟨mu, su, xu⟩]) (la.getD k zDY :: bs) L' → (b1, 24, c3 n2 s2 e2) ∈ L' →
        PJ w t0' t1' la lb zp ep zq eq n2 s2 e2 (max la.length lb.length) t0' t1' ⟨b1, 0, none⟩ s7 s8 s9 s10 ((max la.length lb.length : Nat) : Int) (IntKind.i64.wrap ((k : Int) + 1)) w' ∧ (((max la.length lb.length : Nat) : Int) - IntKind.i64.wrap ((k : Int) + 1)).toNat < (t45 - t46).toNat := by
      intro w' s7 s8 s10 s9 L' R' hm
      rw [wrap1 hk (by omega)]
      exact ⟨⟨rfl, rfl, rfl, hN, b1, base, k + 1, _, _, _, _, rfl, rfl, by omega, R'.re (fun q hq => by rw [List.mem_singleton.1 hq]; exact hm) (List.pairwise_singleton ..), c26.mv R'.mv⟩, by omega⟩
    refine ⟨VV t7' t8' t10' w27.drew.heap.size, ⟨R.out (cs := c3 (la.getD k zDY).n (la.getD k zDY).s (la.getD k zDY).e) (t := 39) (List.mem_cons_of_mem _ (List.mem_cons_of_mem _ (List.mem_cons_self ..))), RG.ld R (y := la.getD k zDY) (tk := 39) (List.mem_cons_of_mem _ (List.mem_cons_of_mem _ (List.mem_cons_self ..))) ⟨R.out (cs := c3 (lb.getD k zDY).n (lb.getD k zDY).s (lb.getD k zDY).e) (t := 39) (List.mem_cons_of_mem _ (List.mem_cons_self ..)), RG.ld R (y := lb.getD k zDY) (tk := 39) (List.mem_cons_of_mem _ (List.mem_cons_self ..)) ⟨R.out (cs := c3 mu su xu) (t := 39) (List.mem_cons_self ..), RG.ld R (y := ⟨mu, su, xu⟩) (tk := 39) (List.mem_cons_self ..) ?_⟩⟩⟩⟩
    refine ⟨?_, ?_⟩
    · refine RG.new R fun b7 wn xe xn rn1 => ⟨Bar.of_ahead xn, ?_⟩
      refine ⟨?_, ?_⟩
      · refine RG.appA rn1 (y := la.getD k zDY) (tk := 39) (List.mem_cons_self ..) (by omega) fun sn wn hn rn2 => ⟨hn, ?_⟩
        refine ⟨?_, ?_⟩
        · refine RG.new rn2 fun b8 wn xe xn rn3 => ⟨Bar.of_ahead xn, ?_⟩
          refine ⟨?_, ?_⟩
          · refine RG.appB rn3 (y := lb.getD k zDY) (tk := 39) (List.mem_cons_self ..) (by omega) fun sn wn hn rn4 => ⟨hn, ?_⟩
            refine RG.new rn4 fun b9 wn xe xn rn5 => ⟨Bar.of_ahead xn, ?_⟩
            refine RG.appC rn5 (y := ⟨mu, su, xu⟩) (tk := 39) (List.mem_cons_self ..) (by omega) fun sn wn hn rn6 => ⟨hn, ?_⟩
            refine RG.ld rn6 (y := la.getD k zDY) (tk := 39) (List.mem_cons_of_mem _ (List.mem_cons_of_mem _ (List.mem_cons_of_mem _ (List.mem_cons_of_mem _ (List.mem_cons_of_mem _ (List.mem_cons_self ..)))))) (RG.front rn6 (y := la.getD k zDY) (by omega) fun sf wf rf => ?_)
            exact hfin _ _ _ _ _ _ rf (List.mem_cons_of_mem _ (List.mem_cons_of_mem _ (List.mem_cons_of_mem _ (List.mem_cons_of_mem _ (List.mem_cons_of_mem _ (List.mem_cons_of_mem _ (List.mem_cons_self ..)))))))
          · refine RG.new rn3 fun b9 wn xe xn rn8 => ⟨Bar.of_ahead xn, ?_⟩
            refine RG.appB rn8 (y := lb.getD k zDY) (tk := 39) (List.mem_cons_of_mem _ (List.mem_cons_self ..)) (by omega) fun sn wn hn rn9 => ⟨hn, ?_⟩
            refine RG.appC rn9 (y := ⟨mu, su, xu⟩) (tk := 39) (List.mem_cons_self ..) (by omega) fun sn wn hn rn10 => ⟨hn, ?_⟩
            refine RG.ld rn10 (y := la.getD k zDY) (tk := 39) (List.mem_cons_of_mem _ (List.mem_cons_of_mem _ (List.mem_cons_of_mem _ (List.mem_cons_of_mem _ (List.mem_cons_of_mem _ (List.mem_cons_self ..)))))) (RG.front rn10 (y := la.getD k zDY) (by omega) fun sf wf rf => ?_)
            exact hfin _ _ _ _ _ _ rf (List.mem_cons_of_mem _ (List.mem_cons_of_mem _ (List.mem_cons_of_mem _ (List.mem_cons_of_mem _ (List.mem_cons_of_mem _ (List.mem_cons_of_mem _ (List.mem_cons_self ..)))))))
        · refine RG.new rn2 fun b9 wn xe xn rn12 => ⟨Bar.of_ahead xn, ?_⟩
          refine RG.new rn12 fun b8 wn xe xn rn13 => ⟨Bar.of_ahead xn, ?_⟩
          refine RG.appB rn13 (y := lb.getD k zDY) (tk := 39) (List.mem_cons_self ..) (by omega) fun sn wn hn rn14 => ⟨hn, ?_⟩
          refine RG.appC rn14 (y := ⟨mu, su, xu⟩) (tk := 39) (List.mem_cons_of_mem _ (List.mem_cons_self ..)) (by omega) fun sn wn hn rn15 => ⟨hn, ?_⟩
          refine RG.ld rn15 (y := la.getD k zDY) (tk := 39) (List.mem_cons_of_mem _ (List.mem_cons_of_mem _ (List.mem_cons_of_mem _ (List.mem_cons_of_mem _ (List.mem_cons_of_mem _ (List.mem_cons_self ..)))))) (RG.front rn15 (y := la.getD k zDY) (by omega) fun sf wf rf => ?_)
          exact hfin _ _ _ _ _ _ rf (List.mem_cons_of_mem _ (List.mem_cons_of_mem _ (List.mem_cons_of_mem _ (List.mem_cons_of_mem _ (List.mem_cons_of_mem _ (List.mem_cons_of_mem _ (List.mem_cons_self ..)))))))
      · refine ⟨?_, ?_⟩
        · refine RG.new rn1 fun b8 wn xe xn rn17 => ⟨Bar.of_ahead xn, ?_⟩
          refine ⟨?_, ?_⟩
          · refine RG.appA rn17 (y := la.getD k zDY) (tk := 39) (List.mem_cons_of_mem _ (List.mem_cons_self ..)) (by omega) fun sn wn hn rn18 => ⟨hn, ?_⟩
            refine ⟨?_, ?_⟩
            · refine RG.appB rn18 (y := lb.getD k zDY) (tk := 39) (List.mem_cons_self ..) (by omega) fun sn wn hn rn19 => ⟨hn, ?_⟩
              refine RG.new rn19 fun b9 wn xe xn rn20 => ⟨Bar.of_ahead xn, ?_⟩
              refine RG.appC rn20 (y := ⟨mu, su, xu⟩) (tk := 39) (List.mem_cons_self ..) (by omega) fun sn wn hn rn21 => ⟨hn, ?_⟩
              refine RG.ld rn21 (y := la.getD k zDY) (tk := 39) (List.mem_cons_of_mem _ (List.mem_cons_of_mem _ (List.mem_cons_of_mem _ (List.mem_cons_of_mem _ (List.mem_cons_of_mem _ (List.mem_cons_self ..)))))) (RG.front rn21 (y := la.getD k zDY) (by omega) fun sf wf rf => ?_)
              exact hfin _ _ _ _ _ _ rf (List.mem_cons_of_mem _ (List.mem_cons_of_mem _ (List.mem_cons_of_mem _ (List.mem_cons_of_mem _ (List.mem_cons_of_mem _ (List.mem_cons_of_mem _ (List.mem_cons_self ..)))))))
            · refine RG.new rn18 fun b9 wn xe xn rn23 => ⟨Bar.of_ahead xn, ?_⟩
              refine RG.appB rn23 (y := lb.getD k zDY) (tk := 39) (List.mem_cons_of_mem _ (List.mem_cons_self ..)) (by omega) fun sn wn hn rn24 => ⟨hn, ?_⟩
              refine RG.appC rn24 (y := ⟨mu, su, xu⟩) (tk := 39) (List.mem_cons_self ..) (by omega) fun sn wn hn rn25 => ⟨hn, ?_⟩
              refine RG.ld rn25 (y := la.getD k zDY) (tk := 39) (List.mem_cons_of_mem _ (List.mem_cons_of_mem _ (List.mem_cons_of_mem _ (List.mem_cons_of_mem _ (List.mem_cons_of_mem _ (List.mem_cons_self ..)))))) (RG.front rn25 (y := la.getD k zDY) (by omega) fun sf wf rf => ?_)
              exact hfin _ _ _ _ _ _ rf (List.mem_cons_of_mem _ (List.mem_cons_of_mem _ (List.mem_cons_of_mem _ (List.mem_cons_of_mem _ (List.mem_cons_of_mem _ (List.mem_cons_of_mem _ (List.mem_cons_self ..)))))))
          · refine RG.new rn17 fun b9 wn xe xn rn27 => ⟨Bar.of_ahead xn, ?_⟩
            refine RG.appA rn27 (y := la.getD k zDY) (tk := 39) (List.mem_cons_of_mem _ (List.mem_cons_of_mem _ (List.mem_cons_self ..))) (by omega) fun sn wn hn rn28 => ⟨hn, ?_⟩
            refine RG.appB rn28 (y := lb.getD k zDY) (tk := 39) (List.mem_cons_of_mem _ (List.mem_cons_self ..)) (by omega) fun sn wn hn rn29 => ⟨hn, ?_⟩
            refine RG.appC rn29 (y := ⟨mu, su, xu⟩) (tk := 39) (List.mem_cons_self ..) (by omega) fun sn wn hn rn30 => ⟨hn, ?_⟩
            refine RG.ld rn30 (y := la.getD k zDY) (tk := 39) (List.mem_cons_of_mem _ (List.mem_cons_of_mem _ (List.mem_cons_of_mem _ (List.mem_cons_of_mem _ (List.mem_cons_of_mem _ (List.mem_cons_self ..)))))) (RG.front rn30 (y := la.getD k zDY) (by omega) fun sf wf rf => ?_)
            exact hfin _ _ _ _ _ _ rf (List.mem_cons_of_mem _ (List.mem_cons_of_mem _ (List.mem_cons_of_mem _ (List.mem_cons_of_mem _ (List.mem_cons_of_mem _ (List.mem_cons_of_mem _ (List.mem_cons_self ..)))))))
        · refine RG.new rn1 fun b9 wn xe xn rn32 => ⟨Bar.of_ahead xn, ?_⟩
          refine ⟨?_, ?_⟩
          · refine RG.appA rn32 (y := la.getD k zDY) (tk := 39) (List.mem_cons_of_mem _ (List.mem_cons_self ..)) (by omega) fun sn wn hn rn33 => ⟨hn, ?_⟩
            refine RG.new rn33 fun b8 wn xe xn rn34 => ⟨Bar.of_ahead xn, ?_⟩
            refine RG.appB rn34 (y := lb.getD k zDY) (tk := 39) (List.mem_cons_self ..) (by omega) fun sn wn hn rn35 => ⟨hn, ?_⟩
            refine RG.appC rn35 (y := ⟨mu, su, xu⟩) (tk := 39) (List.mem_cons_of_mem _ (List.mem_cons_self ..)) (by omega) fun sn wn hn rn36 => ⟨hn, ?_⟩
            refine RG.ld rn36 (y := la.getD k zDY) (tk := 39) (List.mem_cons_of_mem _ (List.mem_cons_of_mem _ (List.mem_cons_of_mem _ (List.mem_cons_of_mem _ (List.mem_cons_of_mem _ (List.mem_cons_self ..)))))) (RG.front rn36 (y := la.getD k zDY) (by omega) fun sf wf rf => ?_)
            exact hfin _ _ _ _ _ _ rf (List.mem_cons_of_mem _ (List.mem_cons_of_mem _ (List.mem_cons_of_mem _ (List.mem_cons_of_mem _ (List.mem_cons_of_mem _ (List.mem_cons_of_mem _ (List.mem_cons_self ..)))))))
          · refine RG.new rn32 fun b8 wn xe xn rn38 => ⟨Bar.of_ahead xn, ?_⟩
            refine RG.appA rn38 (y := la.getD k zDY) (tk := 39) (List.mem_cons_of_mem _ (List.mem_cons_of_mem _ (List.mem_cons_self ..))) (by omega) fun sn wn hn rn39 => ⟨hn, ?_⟩
            refine RG.appB rn39 (y := lb.getD k zDY) (tk := 39) (List.mem_cons_self ..) (by omega) fun sn wn hn rn40 => ⟨hn, ?_⟩
            refine RG.appC rn40 (y := ⟨mu, su, xu⟩) (tk := 39) (List.mem_cons_of_mem _ (List.mem_cons_self ..)) (by omega) fun sn wn hn rn41 => ⟨hn, ?_⟩
            refine RG.ld rn41 (y := la.getD k zDY) (tk := 39) (List.mem_cons_of_mem _ (List.mem_cons_of_mem _ (List.mem_cons_of_mem _ (List.mem_cons_of_mem _ (List.mem_cons_of_mem _ (List.mem_cons_self ..)))))) (RG.front rn41 (y := la.getD k zDY) (by omega) fun sf wf rf => ?_)
            exact hfin _ _ _ _ _ _ rf (List.mem_cons_of_mem _ (List.mem_cons_of_mem _ (List.mem_cons_of_mem _ (List.mem_cons_of_mem _ (List.mem_cons_of_mem _ (List.mem_cons_of_mem _ (List.mem_cons_self ..)))))))
    · refine ⟨?_, ?_⟩
      · refine RG.new R fun b8 wn xe xn rn43 => ⟨Bar.of_ahead xn, ?_⟩
        refine ⟨?_, ?_⟩
        · refine RG.new rn43 fun b7 wn xe xn rn44 => ⟨Bar.of_ahead xn, ?_⟩
          refine ⟨?_, ?_⟩
          · refine RG.appA rn44 (y := la.getD k zDY) (tk := 39) (List.mem_cons_self ..) (by omega) fun sn wn hn rn45 => ⟨hn, ?_⟩
            refine ⟨?_, ?_⟩
            · refine RG.appB rn45 (y := lb.getD k zDY) (tk := 39) (List.mem_cons_of_mem _ (List.mem_cons_self ..)) (by omega) fun sn wn hn rn46 => ⟨hn, ?_⟩
              refine RG.new rn46 fun b9 wn xe xn rn47 => ⟨Bar.of_ahead xn, ?_⟩
              refine RG.appC rn47 (y := ⟨mu, su, xu⟩) (tk := 39) (List.mem_cons_self ..) (by omega) fun sn wn hn rn48 => ⟨hn, ?_⟩
              refine RG.ld rn48 (y := la.getD k zDY) (tk := 39) (List.mem_cons_of_mem _ (List.mem_cons_of_mem _ (List.mem_cons_of_mem _ (List.mem_cons_of_mem _ (List.mem_cons_of_mem _ (List.mem_cons_self ..)))))) (RG.front rn48 (y := la.getD k zDY) (by omega) fun sf wf rf => ?_)
              exact hfin _ _ _ _ _ _ rf (List.mem_cons_of_mem _ (List.mem_cons_of_mem _ (List.mem_cons_of_mem _ (List.mem_cons_of_mem _ (List.mem_cons_of_mem _ (List.mem_cons_of_mem _ (List.mem_cons_self ..)))))))
            · refine RG.new rn45 fun b9 wn xe xn rn50 => ⟨Bar.of_ahead xn, ?_⟩
              refine RG.appB rn50 (y := lb.getD k zDY) (tk := 39) (List.mem_cons_of_mem _ (List.mem_cons_of_mem _ (List.mem_cons_self ..))) (by omega) fun sn wn hn rn51 => ⟨hn, ?_⟩
              refine RG.appC rn51 (y := ⟨mu, su, xu⟩) (tk := 39) (List.mem_cons_self ..) (by omega) fun sn wn hn rn52 => ⟨hn, ?_⟩
              refine RG.ld rn52 (y := la.getD k zDY) (tk := 39) (List.mem_cons_of_mem _ (List.mem_cons_of_mem _ (List.mem_cons_of_mem _ (List.mem_cons_of_mem _ (List.mem_cons_of_mem _ (List.mem_cons_self ..)))))) (RG.front rn52 (y := la.getD k zDY) (by omega) fun sf wf rf => ?_)
              exact hfin _ _ _ _ _ _ rf (List.mem_cons_of_mem _ (List.mem_cons_of_mem _ (List.mem_cons_of_mem _ (List.mem_cons_of_mem _ (List.mem_cons_of_mem _ (List.mem_cons_of_mem _ (List.mem_cons_self ..)))))))
          · refine RG.new rn44 fun b9 wn xe xn rn54 => ⟨Bar.of_ahead xn, ?_⟩
            refine RG.appA rn54 (y := la.getD k zDY) (tk := 39) (List.mem_cons_of_mem _ (List.mem_cons_self ..)) (by omega) fun sn wn hn rn55 => ⟨hn, ?_⟩
            refine RG.appB rn55 (y := lb.getD k zDY) (tk := 39) (List.mem_cons_of_mem _ (List.mem_cons_of_mem _ (List.mem_cons_self ..))) (by omega) fun sn wn hn rn56 => ⟨hn, ?_⟩
            refine RG.appC rn56 (y := ⟨mu, su, xu⟩) (tk := 39) (List.mem_cons_self ..) (by omega) fun sn wn hn rn57 => ⟨hn, ?_⟩
            refine RG.ld rn57 (y := la.getD k zDY) (tk := 39) (List.mem_cons_of_mem _ (List.mem_cons_of_mem _ (List.mem_cons_of_mem _ (List.mem_cons_of_mem _ (List.mem_cons_of_mem _ (List.mem_cons_self ..)))))) (RG.front rn57 (y := la.getD k zDY) (by omega) fun sf wf rf => ?_)
            exact hfin _ _ _ _ _ _ rf (List.mem_cons_of_mem _ (List.mem_cons_of_mem _ (List.mem_cons_of_mem _ (List.mem_cons_of_mem _ (List.mem_cons_of_mem _ (List.mem_cons_of_mem _ (List.mem_cons_self ..)))))))
        · refine RG.new rn43 fun b9 wn xe xn rn59 => ⟨Bar.of_ahead xn, ?_⟩
          refine RG.new rn59 fun b7 wn xe xn rn60 => ⟨Bar.of_ahead xn, ?_⟩
          refine RG.appA rn60 (y := la.getD k zDY) (tk := 39) (List.mem_cons_self ..) (by omega) fun sn wn hn rn61 => ⟨hn, ?_⟩
          refine RG.appB rn61 (y := lb.getD k zDY) (tk := 39) (List.mem_cons_of_mem _ (List.mem_cons_of_mem _ (List.mem_cons_self ..))) (by omega) fun sn wn hn rn62 => ⟨hn, ?_⟩
          refine RG.appC rn62 (y := ⟨mu, su, xu⟩) (tk := 39) (List.mem_cons_of_mem _ (List.mem_cons_self ..)) (by omega) fun sn wn hn rn63 => ⟨hn, ?_⟩
          refine RG.ld rn63 (y := la.getD k zDY) (tk := 39) (List.mem_cons_of_mem _ (List.mem_cons_of_mem _ (List.mem_cons_of_mem _ (List.mem_cons_of_mem _ (List.mem_cons_of_mem _ (List.mem_cons_self ..)))))) (RG.front rn63 (y := la.getD k zDY) (by omega) fun sf wf rf => ?_)
          exact hfin _ _ _ _ _ _ rf (List.mem_cons_of_mem _ (List.mem_cons_of_mem _ (List.mem_cons_of_mem _ (List.mem_cons_of_mem _ (List.mem_cons_of_mem _ (List.mem_cons_of_mem _ (List.mem_cons_self ..)))))))
      · refine RG.new R fun b9 wn xe xn rn65 => ⟨Bar.of_ahead xn, ?_⟩
        refine ⟨?_, ?_⟩
        · refine RG.new rn65 fun b7 wn xe xn rn66 => ⟨Bar.of_ahead xn, ?_⟩
          refine ⟨?_, ?_⟩
          · refine RG.appA rn66 (y := la.getD k zDY) (tk := 39) (List.mem_cons_self ..) (by omega) fun sn wn hn rn67 => ⟨hn, ?_⟩
            refine RG.new rn67 fun b8 wn xe xn rn68 => ⟨Bar.of_ahead xn, ?_⟩
            refine RG.appB rn68 (y := lb.getD k zDY) (tk := 39) (List.mem_cons_self ..) (by omega) fun sn wn hn rn69 => ⟨hn, ?_⟩
            refine RG.appC rn69 (y := ⟨mu, su, xu⟩) (tk := 39) (List.mem_cons_of_mem _ (List.mem_cons_of_mem _ (List.mem_cons_self ..))) (by omega) fun sn wn hn rn70 => ⟨hn, ?_⟩
            refine RG.ld rn70 (y := la.getD k zDY) (tk := 39) (List.mem_cons_of_mem _ (List.mem_cons_of_mem _ (List.mem_cons_of_mem _ (List.mem_cons_of_mem _ (List.mem_cons_of_mem _ (List.mem_cons_self ..)))))) (RG.front rn70 (y := la.getD k zDY) (by omega) fun sf wf rf => ?_)
            exact hfin _ _ _ _ _ _ rf (List.mem_cons_of_mem _ (List.mem_cons_of_mem _ (List.mem_cons_of_mem _ (List.mem_cons_of_mem _ (List.mem_cons_of_mem _ (List.mem_cons_of_mem _ (List.mem_cons_self ..)))))))
          · refine RG.new rn66 fun b8 wn xe xn rn72 => ⟨Bar.of_ahead xn, ?_⟩
            refine RG.appA rn72 (y := la.getD k zDY) (tk := 39) (List.mem_cons_of_mem _ (List.mem_cons_self ..)) (by omega) fun sn wn hn rn73 => ⟨hn, ?_⟩
            refine RG.appB rn73 (y := lb.getD k zDY) (tk := 39) (List.mem_cons_self ..) (by omega) fun sn wn hn rn74 => ⟨hn, ?_⟩
            refine RG.appC rn74 (y := ⟨mu, su, xu⟩) (tk := 39) (List.mem_cons_of_mem _ (List.mem_cons_of_mem _ (List.mem_cons_self ..))) (by omega) fun sn wn hn rn75 => ⟨hn, ?_⟩
            refine RG.ld rn75 (y := la.getD k zDY) (tk := 39) (List.mem_cons_of_mem _ (List.mem_cons_of_mem _ (List.mem_cons_of_mem _ (List.mem_cons_of_mem _ (List.mem_cons_of_mem _ (List.mem_cons_self ..)))))) (RG.front rn75 (y := la.getD k zDY) (by omega) fun sf wf rf => ?_)
            exact hfin _ _ _ _ _ _ rf (List.mem_cons_of_mem _ (List.mem_cons_of_mem _ (List.mem_cons_of_mem _ (List.mem_cons_of_mem _ (List.mem_cons_of_mem _ (List.mem_cons_of_mem _ (List.mem_cons_self ..)))))))
        · refine RG.new rn65 fun b8 wn xe xn rn77 => ⟨Bar.of_ahead xn, ?_⟩
          refine RG.new rn77 fun b7 wn xe xn rn78 => ⟨Bar.of_ahead xn, ?_⟩
          refine RG.appA rn78 (y := la.getD k zDY) (tk := 39) (List.mem_cons_self ..) (by omega) fun sn wn hn rn79 => ⟨hn, ?_⟩
          refine RG.appB rn79 (y := lb.getD k zDY) (tk := 39) (List.mem_cons_of_mem _ (List.mem_cons_self ..)) (by omega) fun sn wn hn rn80 => ⟨hn, ?_⟩
          refine RG.appC rn80 (y := ⟨mu, su, xu⟩) (tk := 39) (List.mem_cons_of_mem _ (List.mem_cons_of_mem _ (List.mem_cons_self ..))) (by omega) fun sn wn hn rn81 => ⟨hn, ?_⟩
          refine RG.ld rn81 (y := la.getD k zDY) (tk := 39) (List.mem_cons_of_mem _ (List.mem_cons_of_mem _ (List.mem_cons_of_mem _ (List.mem_cons_of_mem _ (List.mem_cons_of_mem _ (List.mem_cons_self ..)))))) (RG.front rn81 (y := la.getD k zDY) (by omega) fun sf wf rf => ?_)
          exact hfin _ _ _ _ _ _ rf (List.mem_cons_of_mem _ (List.mem_cons_of_mem _ (List.mem_cons_of_mem _ (List.mem_cons_of_mem _ (List.mem_cons_of_mem _ (List.mem_cons_of_mem _ (List.mem_cons_self ..)))))))
  · rintro t24 t25 t26 t27 t28 t29 w_ ⟨A, b1, b2, b3, m1, m2, m3, u1, u2, u3, x1, x2, x3, B, V1, V2, rfl, rfl, rfl, B1, B2, B3, l1, l2, l3, hB, g1, g2, g3⟩
    refine all_lit1 [t25, t27, t29] (by simp) rfl rfl fun bb v x hb => br_intro (fun h => aw v (A.trans x)) (fun h => ?_)
    have hb' : bb = true := by simpa using h
    obtain rfl : t25 = 0 := hb.1 hb' t25 (by simp)
    obtain rfl : t27 = 0 := hb.1 hb' t27 (by simp)
    obtain rfl : t29 = 0 := hb.1 hb' t29 (by simp)
    obtain ⟨z1, rfl, bl1, wi1, nz1, rd1, v1⟩ := g1 rfl
    obtain ⟨z2, rfl, bl2, wi2, nz2, rd2, v2⟩ := g2 rfl
    have s1 := small_digs bl1
    have s2' := small_digs bl2
    obtain ⟨q1, q1'⟩ := vz_ans nz1
    obtain ⟨q2, q2'⟩ := vz_ans nz2
    have n1 : Num v u1 z1.natAbs := ⟨_, rd1.ahead x, by omega, ok_digs two64 _, val_digs two64 _⟩
    have n2 : Num v u2 z2.natAbs := ⟨_, rd2.ahead x, by omega, ok_digs two64 _, val_digs two64 _⟩
    refine get3 (B1.ahead x) (get3 (B2.ahead x) (Calls.mono (Add_T (hT.ahead (A.trans x)) n1 n2 (by omega) (by omega)) ?_))
    rw [q1, q1', q2, q2']
    rintro en w3 ⟨h3, hd, ht⟩
    have at1 : ∀ Z E, SumP z1 x1 z2 x2 Z E → Vl Z E B (V1 + V2) := fun Z E hs => by
      have := hs B hB v1.le v2.le
      rw [v1.val, v2.val] at this
      exact this
    obtain ⟨z3, hz3, bl3, wi3, nz3, rd3, v3⟩ := g3 rfl
    obtain ⟨d, hd0⟩ := ht ⟨wi1, wi2, bl1, bl2, fun Z E hs => by
      obtain ⟨rfl, rfl⟩ := (at1 Z E hs).eq v3
      exact ⟨bl3, wi3⟩⟩
    obtain ⟨cd, mu, su, xu, rfl, hh⟩ := hd
    have hcd : cd = 0 := by
      injection hd0 with h1
      injection h1 with h2
      have := congrArg (fun a => a[1]?) h2
      simpa using this
    subst hcd
    refine ⟨_, _, _, _, rfl, newC_b fun b4 w4 hb4 x4 z4 B4 => set3 B4 fun w7 u4 C4 => Calls.mono num_spec ?_⟩
    rintro en w8 ⟨rfl, rfl⟩
    have xs4 : Ahead w_ w4 := (x.trans h3).trans x4
    have l3' := B3.lt
    have a7 : Ahead w w8 := u4.ahead (A.trans xs4) (by have := A.size; have := x.size; have := h3.size; omega)
    have C3 := u4.blk (B3.ahead xs4) (by have := x.size; have := h3.size; omega)
    have gs : Got (fun Z E => Vl Z E B (V1 + V2)) w8 0 mu su xu := (Got.conv (Got.mv hh (fun s l q => u4.rd s l (q.ahead x4))) (fun Z E q => at1 Z E q.2.2))
    refine ⟨_, rfl, br_true rfl (get3 C4 (get3 C3 (Calls.mono (sameV gs (Got.mv g3 (fun s l q => u4.rd s l (q.ahead xs4)))) ?_)))⟩
    rintro en w9 ⟨h9, rfl⟩
    exact ⟨_, rfl, br_true rfl (aw _ (a7.trans h9))⟩
end Dp
end Go.Proofs.YtahbekmnphkiiaaDoor
namespace Go.Proofs.YtahbekmnphkiiaaDoor
open Go Go.RowKit Eng Sp Dg L2
set_option linter.unusedVariables false
namespace Dp
open _root_.Go.Proofs.YtahbekmnphkiiaaDoor.Nat (Num Yes num_of)
open Sb Dy Dl
abbrev DyL (W : World) (d : DY) : Prop := ∃ l, Rd .u64 W d.s (nn l) ∧ ok B64 l ∧ l.length * 8 ≤ 140737488351232 ∧ -9223372036854775808 ≤ d.e ∧ d.e ≤ 9223372036854775807
theorem el_of {w : World} {d : DY} (h : DyL w d) : ∃ z e, El w d z e ∧ F0 ≤ e := by
  obtain ⟨l, r, o, hl, h1, h2⟩ := h
  have hd := Nat.len_le o
  refine ⟨_, _, ⟨val B64 l, num_of r o hl, by omega, rfl, rfl⟩, ?_⟩
  unfold F0 eD
  split <;> omega
theorem inp_of {w : World} {s : Slc} {ys : List DY} (r : RL w s ys) (h : ∀ i, i < ys.length → DyL w (ys.getD i zDY)) : ∃ z e, Inp w s ys z e := by
  obtain ⟨f, hf⟩ := Classical.skolem.1 (fun i => show ∃ p : Int × Int, El w (ys.getD i zDY) p.1 p.2 ∧ F0 ≤ p.2 by
    by_cases hi : i < ys.length
    · obtain ⟨z, e, h1, h2⟩ := el_of (h i hi)
      exact ⟨(z, e), h1, h2⟩
    · refine ⟨(0, 0), ?_, by show F0 ≤ 0; unfold F0; omega⟩
      rw [getD_none (by omega)]
      exact El.zero w)
  exact ⟨fun i => (f i).1, fun i => (f i).2, r, fun i => (hf i).1, fun i => (hf i).2⟩
theorem DyadicPolys_ok {w : World} (hT : Tab w) {s0 s1 : Slc} {ys0 ys1 : List DY} (r0 : RL w s0 ys0) (d0 : ∀ i, i < ys0.length → DyL w (ys0.getD i zDY)) (r1 : RL w s1 ys1) (d1 : ∀ i, i < ys1.length → DyL w (ys1.getD i zDY))
    {n2 : Bool} {s2 : Slc} {e2 : Int} {l2 : List Nat} (r2 : Rd .u64 w s2 (nn l2)) (o2 : ok B64 l2) (z2 : l2.length * 8 ≤ 140737488351232) (he2 : -9223372036854775808 ≤ e2 ∧ e2 ≤ 9223372036854775807) :
    Calls pr surdlaw08_DyadicPolys_id #[s0.v, s1.v, .agg (c3 n2 s2 e2)] w (Yes w) := by
  obtain ⟨zp, ep, ia⟩ := inp_of r0 d0
  obtain ⟨zq, eq, ib⟩ := inp_of r1 d1
  obtain ⟨zx, ex, ix, fx⟩ := el_of (d := ⟨n2, s2, e2⟩) ⟨l2, r2, o2, z2, he2.1, he2.2⟩
  exact DyadicPolys_walk hT ia ib ix fx
end Dp
end Go.Proofs.YtahbekmnphkiiaaDoor
