/- What the law leans on, part 3. No condition. -/
import Derived.Test.YthhbjhdnaopcnaaDoorZDyadicCuts2
namespace Go.Proofs.YthhbjhdnaopcnaaDoor
open Go Go.RowKit Eng
set_option linter.unusedVariables false

set_option maxRecDepth 100000 in
/-- surd/surdref06.Of: function 21. -/
theorem surdref06_Of_vc (a0_neg : Bool) (a1_limbs : Slc) (w : World) (R : Ending → World → Prop)
    
    (h : newC w #[Value.bool false, (⟨none, 0, 0⟩ : Slc).v] 44 fun ad1 w1 =>
    Calls Tryd.prog 67 #[a1_limbs.v] w1 fun e1 w2 =>
    ∃ s1 : Slc, e1 = .returned s1.v ∧
    (Calls Tryd.prog 66 #[Value.bool a0_neg, s1.v] w2 fun e2 w3 =>
     ∃ b1 : Bool, ∃ s2 : Slc, e2 = .returned (Value.agg #[Value.bool b1, s2.v]) ∧
     (stC ad1 (Value.bool b1) w3 fun w4 =>
      stC (ad1.add 1) s2.v w4 fun w5 =>
      ldB ad1 w5 fun b2 =>
      ldS (ad1.add 1) w5 fun s3 =>
      R (.returned (Value.agg #[Value.bool b2, s3.v])) w5))) :
    Calls Tryd.prog 21 #[Value.bool a0_neg, a1_limbs.v] w R := by
  refine calls_of_vc (fun _ => none) (by kernel_rfl) Tryd.func21 rfl ?_ ?_
  · refine kcast h ?_; kernel_rfl
  · exact (obl_seq rfl (obl_reg (obl_seq rfl (obl_reg (obl_ret trivial)))))

set_option maxRecDepth 100000 in
/-- (surd/surdref06.Z).Is: function 43. -/
theorem surdref06_Z_Is_vc (a0_a_0 : Bool) (a0_a_1 : Slc) (a1_neg : Bool) (a2_limbs : Slc) (w : World) (R : Ending → World → Prop)
    
    (h : newC w #[Value.bool a0_a_0, a0_a_1.v] 44 fun ad1 w1 =>
    ldB ad1 w1 fun b1 =>
    br (b1 == a1_neg)
    (ldS (ad1.add 1) w1 fun s1 =>
     Calls Tryd.prog 55 #[s1.v, a2_limbs.v] w1 fun e1 w2 =>
     ∃ b2 : Bool, e1 = .returned (Value.bool b2) ∧
     (R (.returned (Value.bool b2)) w2))
    (R (.returned (Value.bool false)) w1)) :
    Calls Tryd.prog 43 #[Value.agg #[Value.bool a0_a_0, a0_a_1.v], Value.bool a1_neg, a2_limbs.v] w R := by
  refine calls_of_vc (fun _ => none) (by kernel_rfl) Tryd.func43 rfl ?_ ?_
  · refine kcast h ?_; kernel_rfl
  · exact (obl_seq rfl (obl_reg (obl_seq rfl (obl_reg (obl_ret trivial)))))

set_option maxRecDepth 100000 in
/-- surd/surdref06.make1: function 66. -/
theorem surdref06_make1_vc (a0_neg : Bool) (a1_n : Slc) (w : World) (R : Ending → World → Prop)
    
    (h : newC w #[Value.bool false, (⟨none, 0, 0⟩ : Slc).v] 44 fun ad1 w1 =>
    br a0_neg
    (Calls Tryd.prog 76 #[a1_n.v] w1 fun e1 w2 =>
     ∃ b1 : Bool, e1 = .returned (Value.bool b1) ∧
     (stC ad1 (Value.bool (!b1)) w2 fun w3 =>
      stC (ad1.add 1) a1_n.v w3 fun w4 =>
      ldB ad1 w4 fun b2 =>
      ldS (ad1.add 1) w4 fun s1 =>
      R (.returned (Value.agg #[Value.bool b2, s1.v])) w4))
    (stC ad1 (Value.bool false) w1 fun w5 =>
     stC (ad1.add 1) a1_n.v w5 fun w6 =>
     ldB ad1 w6 fun b3 =>
     ldS (ad1.add 1) w6 fun s2 =>
     R (.returned (Value.agg #[Value.bool b3, s2.v])) w6)) :
    Calls Tryd.prog 66 #[Value.bool a0_neg, a1_n.v] w R := by
  refine calls_of_vc (fun _ => none) (by kernel_rfl) Tryd.func66 rfl ?_ ?_
  · refine kcast h ?_; kernel_rfl
  · exact (obl_seq rfl (obl_reg (obl_seq rfl (obl_reg (obl_ret trivial)))))

set_option maxRecDepth 100000 in
/-- surd/surdref08.Int: function 29. -/
theorem surdref08_Int_vc (a0_v : Int) (a1_e : Int) (w : World) (R : Ending → World → Prop)
    
    (h : newC w #[Value.bool false, (⟨none, 0, 0⟩ : Slc).v, Value.int .i64 0] 47 fun ad1 w1 =>
    Calls Tryd.prog 77 #[Value.int .i64 a0_v] w1 fun e1 w2 =>
    ∃ b1 : Bool, ∃ s1 : Slc, e1 = .returned (Value.agg #[Value.bool b1, s1.v]) ∧
    (Calls Tryd.prog 22 #[Value.agg #[Value.bool b1, s1.v], Value.int .i64 a1_e] w2 fun e2 w3 =>
     ∃ b2 : Bool, ∃ s2 : Slc, ∃ x1 : Int, e2 = .returned (Value.agg #[Value.bool b2, s2.v, Value.int .i64 x1]) ∧
     (stC ad1 (Value.bool b2) w3 fun w4 =>
      stC (ad1.add 1) s2.v w4 fun w5 =>
      stC (ad1.add 2) (Value.int .i64 x1) w5 fun w6 =>
      ldB ad1 w6 fun b3 =>
      ldS (ad1.add 1) w6 fun s3 =>
      ldI .i64 (ad1.add 2) w6 fun x2 =>
      R (.returned (Value.agg #[Value.bool b3, s3.v, Value.int .i64 x2])) w6))) :
    Calls Tryd.prog 29 #[Value.int .i64 a0_v, Value.int .i64 a1_e] w R := by
  refine calls_of_vc (fun _ => none) (by kernel_rfl) Tryd.func29 rfl ?_ ?_
  · refine kcast h ?_; kernel_rfl
  · exact (obl_seq rfl (obl_reg (obl_seq rfl (obl_reg (obl_ret trivial)))))

set_option maxRecDepth 100000 in
/-- surd/surdref08.Of: function 22. -/
theorem surdref08_Of_vc (a0_m_0 : Bool) (a0_m_1 : Slc) (a1_e : Int) (w : World) (R : Ending → World → Prop)
    
    (h : newC w #[Value.bool a0_m_0, a0_m_1.v] 44 fun ad1 w1 =>
    newC w1 #[Value.bool false, (⟨none, 0, 0⟩ : Slc).v, Value.int .i64 0] 47 fun ad2 w2 =>
    ldB ad1 w2 fun b1 =>
    ldS (ad1.add 1) w2 fun s1 =>
    Calls Tryd.prog 28 #[Value.agg #[Value.bool b1, s1.v]] w2 fun e1 w3 =>
    ∃ x1 : Int, e1 = .returned (Value.int .i64 x1) ∧
    (br (x1 == 0)
     (stC ad2 (Value.bool false) w3 fun w4 =>
      stC (ad2.add 1) ((⟨none, 0, 0⟩ : Slc).v) w4 fun w5 =>
      stC (ad2.add 2) (Value.int .i64 0) w5 fun w6 =>
      ldB ad2 w6 fun b2 =>
      ldS (ad2.add 1) w6 fun s2 =>
      ldI .i64 (ad2.add 2) w6 fun x2 =>
      R (.returned (Value.agg #[Value.bool b2, s2.v, Value.int .i64 x2])) w6)
     (ldS (ad1.add 1) w3 fun s3 =>
      Calls Tryd.prog 68 #[s3.v] w3 fun e2 w7 =>
      ∃ x3 : Int, e2 = .returned (Value.int .i64 x3) ∧
      (ldB ad1 w7.drew fun b3 =>
       ldS (ad1.add 1) w7.drew fun s4 =>
       Calls Tryd.prog 69 #[s4.v, Value.int .i64 x3] w7.drew fun e3 w8 =>
       ∃ s5 : Slc, e3 = .returned s5.v ∧
       (Ahead w7.drew w8 ∧
        (stC ad2 (Value.bool b3) w8 fun w9 =>
         stC (ad2.add 1) s5.v w9 fun w10 =>
         stC (ad2.add 2) (Value.int .i64 (IntKind.i64.wrap (a1_e + x3))) w10 fun w11 =>
         ldB ad2 w11 fun b4 =>
         ldS (ad2.add 1) w11 fun s6 =>
         ldI .i64 (ad2.add 2) w11 fun x4 =>
         R (.returned (Value.agg #[Value.bool b4, s6.v, Value.int .i64 x4])) w11)))))) :
    Calls Tryd.prog 22 #[Value.agg #[Value.bool a0_m_0, a0_m_1.v], Value.int .i64 a1_e] w R := by
  refine calls_of_vc (fun _ => none) (by kernel_rfl) Tryd.func22 rfl ?_ ?_
  · refine kcast h ?_; kernel_rfl
  · exact (obl_seq rfl (obl_reg (obl_seq rfl (obl_seq rfl (obl_reg (obl_cond (obl_seq rfl (obl_reg (obl_ret (obl_skip (obl_seq rfl (obl_reg (obl_seq rfl (obl_held (by kernel_rfl) (by kernel_rfl) (by kernel_rfl) (obl_ret trivial)))))))))))))))

set_option maxRecDepth 100000 in
/-- (surd/surdref08.D).Is: function 30. -/
theorem surdref08_D_Is_vc (a0_d_0 : Bool) (a0_d_1 : Slc) (a0_d_2 : Int) (a1_neg : Bool) (a2_limbs : Slc) (a3_e : Int) (w : World) (R : Ending → World → Prop)
    
    (h : newC w #[Value.bool a0_d_0, a0_d_1.v, Value.int .i64 a0_d_2] 47 fun ad1 w1 =>
    ldB ad1 w1 fun b1 =>
    ldS (ad1.add 1) w1 fun s1 =>
    Calls Tryd.prog 43 #[Value.agg #[Value.bool b1, s1.v], Value.bool a1_neg, a2_limbs.v] w1 fun e1 w2 =>
    ∃ b2 : Bool, e1 = .returned (Value.bool b2) ∧
    (br b2
     (ldI .i64 (ad1.add 2) w2 fun x1 =>
      R (.returned (Value.bool (x1 == a3_e))) w2)
     (R (.returned (Value.bool false)) w2))) :
    Calls Tryd.prog 30 #[Value.agg #[Value.bool a0_d_0, a0_d_1.v, Value.int .i64 a0_d_2], Value.bool a1_neg, a2_limbs.v, Value.int .i64 a3_e] w R := by
  refine calls_of_vc (fun _ => none) (by kernel_rfl) Tryd.func30 rfl ?_ ?_
  · refine kcast h ?_; kernel_rfl
  · exact (obl_seq rfl (obl_reg (obl_seq rfl (obl_reg (obl_ret trivial)))))

set_option maxRecDepth 100000 in
/-- surd/surdref06.Int: function 77. -/
theorem surdref06_Int_vc (a0_v : Int) (w : World) (R : Ending → World → Prop)
    
    (h : newC w #[Value.bool false, (⟨none, 0, 0⟩ : Slc).v] 44 fun ad1 w1 =>
    br (decide (a0_v < 0))
    (newC w1 #[Value.int .u64 (IntKind.u64.wrap ((IntKind.u64.wrap (IntKind.i64.wrap (0 - (IntKind.i64.wrap (a0_v + 1))))) + 1))] 94 fun ad2 w2 =>
     Calls Tryd.prog 67 #[(⟨some ad2, 1, 1⟩ : Slc).v] w2 fun e1 w3 =>
     ∃ s1 : Slc, e1 = .returned s1.v ∧
     (Calls Tryd.prog 66 #[Value.bool true, s1.v] w3 fun e2 w4 =>
      ∃ b1 : Bool, ∃ s2 : Slc, e2 = .returned (Value.agg #[Value.bool b1, s2.v]) ∧
      (stC ad1 (Value.bool b1) w4 fun w5 =>
       stC (ad1.add 1) s2.v w5 fun w6 =>
       ldB ad1 w6 fun b2 =>
       ldS (ad1.add 1) w6 fun s3 =>
       R (.returned (Value.agg #[Value.bool b2, s3.v])) w6)))
    (Calls Tryd.prog 52 #[Value.int .i64 a0_v] w1 fun e3 w7 =>
     ∃ s4 : Slc, e3 = .returned s4.v ∧
     (Calls Tryd.prog 66 #[Value.bool false, s4.v] w7 fun e4 w8 =>
      ∃ b3 : Bool, ∃ s5 : Slc, e4 = .returned (Value.agg #[Value.bool b3, s5.v]) ∧
      (stC ad1 (Value.bool b3) w8 fun w9 =>
       stC (ad1.add 1) s5.v w9 fun w10 =>
       ldB ad1 w10 fun b4 =>
       ldS (ad1.add 1) w10 fun s6 =>
       R (.returned (Value.agg #[Value.bool b4, s6.v])) w10)))) :
    Calls Tryd.prog 77 #[Value.int .i64 a0_v] w R := by
  refine calls_of_vc (fun _ => none) (by kernel_rfl) Tryd.func77 rfl ?_ ?_
  · refine kcast h ?_; kernel_rfl
  · exact (obl_seq rfl (obl_reg (obl_seq rfl (obl_seq rfl (obl_reg (obl_cond (obl_seq rfl (obl_reg (obl_ret (obl_skip (obl_seq rfl (obl_reg (obl_ret trivial)))))))))))))

set_option maxRecDepth 100000 in
/-- (surd/surdref06.Z).Sign: function 28. -/
theorem surdref06_Z_Sign_vc (a0_a_0 : Bool) (a0_a_1 : Slc) (w : World) (R : Ending → World → Prop)
    
    (h : newC w #[Value.bool a0_a_0, a0_a_1.v] 44 fun ad1 w1 =>
    ldB ad1 w1 fun b1 =>
    br b1
    (R (.returned (Value.int .i64 (-1))) w1)
    (ldS (ad1.add 1) w1 fun s1 =>
     Calls Tryd.prog 76 #[s1.v] w1 fun e1 w2 =>
     ∃ b2 : Bool, e1 = .returned (Value.bool b2) ∧
     (br b2
      (R (.returned (Value.int .i64 0)) w2)
      (R (.returned (Value.int .i64 1)) w2)))) :
    Calls Tryd.prog 28 #[Value.agg #[Value.bool a0_a_0, a0_a_1.v]] w R := by
  refine calls_of_vc (fun _ => none) (by kernel_rfl) Tryd.func28 rfl ?_ ?_
  · refine kcast h ?_; kernel_rfl
  · exact (obl_seq rfl (obl_reg (obl_seq rfl (obl_seq rfl (obl_reg (obl_cond (obl_seq rfl (obl_reg (obl_ret (obl_skip (obl_seq rfl (obl_seq rfl (obl_reg (obl_cond (obl_seq rfl (obl_reg (obl_ret (obl_skip (obl_seq rfl (obl_reg (obl_ret trivial)))))))))))))))))))))

def surdref01_Num_Tail_cut (J0 : Slc → Int → World → Prop) (m0 : Slc → Int → World → Nat) : Nat → Option ((Act → World → Prop) × (Act → World → Nat))
  | 0 => some (fun a_ w_ => atSz a_ 14 (atS a_ 0 fun t0_a => atI .i64 a_ 3 fun t3_n => J0 t0_a t3_n w_), fun a_ w_ => mS a_ 0 fun t0_a => mI a_ 3 fun t3_n => m0 t0_a t3_n w_)
  | _ => none

set_option maxRecDepth 100000 in
/-- (surd/surdref01.Num).Tail: function 68. -/
theorem surdref01_Num_Tail_vc (a0_a : Slc) (w : World) (R : Ending → World → Prop)
    (J0 : Slc → Int → World → Prop) (m0 : Slc → Int → World → Nat)
    (h : br ((a0_a.n : Int) == 0)
    (R (.returned (Value.int .i64 0)) w)
    (J0 a0_a 0 w))
    (h0 : ∀ (t0_a : Slc) (t3_n : Int) (w_ : World), J0 t0_a t3_n w_ → 
    Calls Tryd.prog 99 #[t0_a.v, Value.int .i64 t3_n] w_ fun e1 w1 =>
    ∃ x1 : Int, e1 = .returned (Value.int .i64 x1) ∧
    (br (x1 == 0)
     (J0 t0_a (IntKind.i64.wrap (t3_n + 1)) w1 ∧
      m0 t0_a (IntKind.i64.wrap (t3_n + 1)) w1 < m0 t0_a t3_n w_)
     (R (.returned (Value.int .i64 t3_n)) w1))) :
    Calls Tryd.prog 68 #[a0_a.v] w R := by
  refine calls_of_vc (surdref01_Num_Tail_cut J0 m0) (by kernel_rfl) Tryd.func68 rfl ?_ ?_
  · refine kcast h ?_; kernel_rfl
  · exact (obl_seq rfl (obl_reg (obl_seq rfl (obl_seq rfl (obl_reg (obl_cond (obl_seq rfl (obl_reg (obl_ret (obl_skip (obl_seq rfl (obl_reg (obl_seq rfl (obl_loop _ rfl (fun a_ w_ hL_ => (by
    obtain ⟨hz_, hd_, hL_⟩ := atSz_out hL_
    obtain ⟨t0_a, h0_, hL_⟩ := atS_out hL_
    obtain ⟨t3_n, h3_, hL_⟩ := atI_out hL_
    obtain ⟨g0, rfl⟩ : ∃ g, a_ = Fr 14 [(0, t0_a.v), (3, Value.int .i64 t3_n)] g := ⟨_, fr_of hz_ hd_ [(0, t0_a.v), (3, Value.int .i64 t3_n)] (sel_cons h0_ (sel_cons h3_ sel_nil))⟩
    clear hz_ hd_ h0_ h3_
    have hJ0_ := hL_
    refine ⟨(fun _ => none), kcast (h0 t0_a t3_n w_ hJ0_) ?_, ?_⟩
    · kernel_rfl
    · exact (obl_seq rfl (obl_seq rfl (obl_reg (obl_cond (obl_skip (obl_exit (obl_blk rfl (obl_reg trivial)))))))))) (obl_seq rfl (obl_reg (obl_ret trivial)))))))))))))))))

set_option maxRecDepth 100000 in
/-- surd/surdref08.Told: function 74. -/
theorem surdref08_Told_vc (a0_d_0 : Bool) (a0_d_1 : Slc) (a0_d_2 : Int) (w : World) (R : Ending → World → Prop)
    
    (h : newC w #[Value.bool a0_d_0, a0_d_1.v, Value.int .i64 a0_d_2] 47 fun ad1 w1 =>
    newC w1 #[Value.bool false, (⟨none, 0, 0⟩ : Slc).v, Value.int .i64 0] 47 fun ad2 w2 =>
    ldS (ad1.add 1) w2 fun s1 =>
    Calls Tryd.prog 34 #[s1.v] w2 fun e1 w3 =>
    ∃ x1 : Int, e1 = .returned (Value.int .i64 x1) ∧
    (br (decide (x1 > 67108864))
     (stC ad2 (Value.bool false) w3 fun w4 =>
      stC (ad2.add 1) ((⟨none, 0, 0⟩ : Slc).v) w4 fun w5 =>
      stC (ad2.add 2) (Value.int .i64 0) w5 fun w6 =>
      ldB ad2 w6 fun b1 =>
      ldS (ad2.add 1) w6 fun s2 =>
      ldI .i64 (ad2.add 2) w6 fun x2 =>
      R (.returned (Value.tuple #[Value.agg #[Value.bool b1, s2.v, Value.int .i64 x2], Value.int .i64 3])) w6)
     (ldI .i64 (ad1.add 2) w3 fun x3 =>
      Calls Tryd.prog 78 #[Value.int .i64 x3] w3 fun e2 w7 =>
      ∃ b2 : Bool, e2 = .returned (Value.bool b2) ∧
      (br (!b2)
       (stC ad2 (Value.bool false) w7 fun w8 =>
        stC (ad2.add 1) ((⟨none, 0, 0⟩ : Slc).v) w8 fun w9 =>
        stC (ad2.add 2) (Value.int .i64 0) w9 fun w10 =>
        ldB ad2 w10 fun b3 =>
        ldS (ad2.add 1) w10 fun s3 =>
        ldI .i64 (ad2.add 2) w10 fun x4 =>
        R (.returned (Value.tuple #[Value.agg #[Value.bool b3, s3.v, Value.int .i64 x4], Value.int .i64 80])) w10)
       (ldB ad1 w7 fun b4 =>
        ldS (ad1.add 1) w7 fun s4 =>
        ldI .i64 (ad1.add 2) w7 fun x5 =>
        stC ad2 (Value.bool b4) w7 fun w11 =>
        stC (ad2.add 1) s4.v w11 fun w12 =>
        stC (ad2.add 2) (Value.int .i64 x5) w12 fun w13 =>
        ldB ad2 w13 fun b5 =>
        ldS (ad2.add 1) w13 fun s5 =>
        ldI .i64 (ad2.add 2) w13 fun x6 =>
        R (.returned (Value.tuple #[Value.agg #[Value.bool b5, s5.v, Value.int .i64 x6], Value.int .i64 0])) w13))))) :
    Calls Tryd.prog 74 #[Value.agg #[Value.bool a0_d_0, a0_d_1.v, Value.int .i64 a0_d_2]] w R := by
  refine calls_of_vc (fun _ => none) (by kernel_rfl) Tryd.func74 rfl ?_ ?_
  · refine kcast h ?_; kernel_rfl
  · exact (obl_seq rfl (obl_reg (obl_seq rfl (obl_seq rfl (obl_reg (obl_cond (obl_seq rfl (obl_reg (obl_ret (obl_skip (obl_seq rfl (obl_seq rfl (obl_reg (obl_cond (obl_seq rfl (obl_reg (obl_ret (obl_skip (obl_seq rfl (obl_reg (obl_ret trivial)))))))))))))))))))))

set_option maxRecDepth 100000 in
/-- surd/surdref08.Fits: function 78. -/
theorem surdref08_Fits_vc (a0_e : Int) (w : World) (R : Ending → World → Prop)
    
    (h : br (decide (a0_e ≥ (-1099511627776)))
    (R (.returned (Value.bool (decide (a0_e ≤ 1099511627776)))) w)
    (R (.returned (Value.bool false)) w)) :
    Calls Tryd.prog 78 #[Value.int .i64 a0_e] w R := by
  refine calls_of_vc (fun _ => none) (by kernel_rfl) Tryd.func78 rfl ?_ ?_
  · refine kcast h ?_; kernel_rfl
  · exact (obl_seq rfl (obl_reg (obl_seq rfl (obl_reg (obl_ret trivial)))))

set_option maxRecDepth 100000 in
/-- (surd/surdref08.D).Top: function 33. -/
theorem surdref08_D_Top_vc (a0_d_0 : Bool) (a0_d_1 : Slc) (a0_d_2 : Int) (w : World) (R : Ending → World → Prop)
    
    (h : newC w #[Value.bool a0_d_0, a0_d_1.v, Value.int .i64 a0_d_2] 47 fun ad1 w1 =>
    ldS (ad1.add 1) w1.drew fun s1 =>
    ldI .i64 (ad1.add 2) w1.drew fun x1 =>
    Calls Tryd.prog 34 #[s1.v] w1.drew fun e1 w2 =>
    ∃ x2 : Int, e1 = .returned (Value.int .i64 x2) ∧
    (Ahead w1.drew w2 ∧
     (R (.returned (Value.int .i64 (IntKind.i64.wrap ((IntKind.i64.wrap (x2 - 1)) + x1)))) w2))) :
    Calls Tryd.prog 33 #[Value.agg #[Value.bool a0_d_0, a0_d_1.v, Value.int .i64 a0_d_2]] w R := by
  refine calls_of_vc (fun _ => none) (by kernel_rfl) Tryd.func33 rfl ?_ ?_
  · refine kcast h ?_; kernel_rfl
  · exact (obl_seq rfl (obl_reg (obl_seq rfl (obl_held (by kernel_rfl) (by kernel_rfl) (by kernel_rfl) (obl_ret trivial)))))

set_option maxRecDepth 100000 in
/-- surd/surdref08.Round: function 38. -/
theorem surdref08_Round_vc (a0_0 : Bool) (a0_1 : Slc) (a0_2 : Int) (a1 : Int) (a2 : Int) (w : World) (R : Ending → World → Prop)
    
    (h : newC w #[Value.bool a0_0, a0_1.v, Value.int .i64 a0_2] 47 fun ad1 w1 =>
    newC w1 #[Value.bool false, (⟨none, 0, 0⟩ : Slc).v, Value.int .i64 0] 47 fun ad2 w2 =>
    ldB ad1 w2 fun b1 =>
    ldS (ad1.add 1) w2 fun s1 =>
    Calls Tryd.prog 28 #[Value.agg #[Value.bool b1, s1.v]] w2 fun e1 w3 =>
    ∃ x1 : Int, e1 = .returned (Value.int .i64 x1) ∧
    (br (x1 == 0)
     (ldB ad1 w3 fun b2 =>
      ldS (ad1.add 1) w3 fun s2 =>
      ldI .i64 (ad1.add 2) w3 fun x2 =>
      stC ad2 (Value.bool b2) w3 fun w4 =>
      stC (ad2.add 1) s2.v w4 fun w5 =>
      stC (ad2.add 2) (Value.int .i64 x2) w5 fun w6 =>
      ldB ad2 w6 fun b3 =>
      ldS (ad2.add 1) w6 fun s3 =>
      ldI .i64 (ad2.add 2) w6 fun x3 =>
      R (.returned (Value.agg #[Value.bool b3, s3.v, Value.int .i64 x3])) w6)
     (ldI .i64 (ad1.add 2) w3 fun x4 =>
      br (decide (a1 ≤ x4))
      (ldB ad1 w3 fun b4 =>
       ldS (ad1.add 1) w3 fun s4 =>
       ldI .i64 (ad1.add 2) w3 fun x5 =>
       stC ad2 (Value.bool b4) w3 fun w7 =>
       stC (ad2.add 1) s4.v w7 fun w8 =>
       stC (ad2.add 2) (Value.int .i64 x5) w8 fun w9 =>
       ldB ad2 w9 fun b5 =>
       ldS (ad2.add 1) w9 fun s5 =>
       ldI .i64 (ad2.add 2) w9 fun x6 =>
       R (.returned (Value.agg #[Value.bool b5, s5.v, Value.int .i64 x6])) w9)
      (ldI .i64 (ad1.add 2) w3 fun x7 =>
       ldS (ad1.add 1) w3 fun s6 =>
       Calls Tryd.prog 34 #[s6.v] w3 fun e2 w10 =>
       ∃ x8 : Int, e2 = .returned (Value.int .i64 x8) ∧
       (br (decide ((IntKind.i64.wrap (a1 - x7)) > (IntKind.i64.wrap (x8 + 2))))
        (br (a2 == 0)
         (ldB ad1 w10 fun b6 =>
          br b6
          (Calls Tryd.prog 29 #[Value.int .i64 (-1), Value.int .i64 a1] w10 fun e3 w11 =>
           ∃ b7 : Bool, ∃ s7 : Slc, ∃ x9 : Int, e3 = .returned (Value.agg #[Value.bool b7, s7.v, Value.int .i64 x9]) ∧
           (stC ad2 (Value.bool b7) w11 fun w12 =>
            stC (ad2.add 1) s7.v w12 fun w13 =>
            stC (ad2.add 2) (Value.int .i64 x9) w13 fun w14 =>
            ldB ad2 w14 fun b8 =>
            ldS (ad2.add 1) w14 fun s8 =>
            ldI .i64 (ad2.add 2) w14 fun x10 =>
            R (.returned (Value.agg #[Value.bool b8, s8.v, Value.int .i64 x10])) w14))
          (br (a2 == 1)
           (ldB ad1 w10 fun b9 =>
            br (!b9)
            (Calls Tryd.prog 29 #[Value.int .i64 1, Value.int .i64 a1] w10 fun e4 w15 =>
             ∃ b10 : Bool, ∃ s9 : Slc, ∃ x11 : Int, e4 = .returned (Value.agg #[Value.bool b10, s9.v, Value.int .i64 x11]) ∧
             (stC ad2 (Value.bool b10) w15 fun w16 =>
              stC (ad2.add 1) s9.v w16 fun w17 =>
              stC (ad2.add 2) (Value.int .i64 x11) w17 fun w18 =>
              ldB ad2 w18 fun b11 =>
              ldS (ad2.add 1) w18 fun s10 =>
              ldI .i64 (ad2.add 2) w18 fun x12 =>
              R (.returned (Value.agg #[Value.bool b11, s10.v, Value.int .i64 x12])) w18))
            (stC ad2 (Value.bool false) w10 fun w19 =>
             stC (ad2.add 1) ((⟨none, 0, 0⟩ : Slc).v) w19 fun w20 =>
             stC (ad2.add 2) (Value.int .i64 0) w20 fun w21 =>
             ldB ad2 w21 fun b12 =>
             ldS (ad2.add 1) w21 fun s11 =>
             ldI .i64 (ad2.add 2) w21 fun x13 =>
             R (.returned (Value.agg #[Value.bool b12, s11.v, Value.int .i64 x13])) w21))
           (stC ad2 (Value.bool false) w10 fun w22 =>
            stC (ad2.add 1) ((⟨none, 0, 0⟩ : Slc).v) w22 fun w23 =>
            stC (ad2.add 2) (Value.int .i64 0) w23 fun w24 =>
            ldB ad2 w24 fun b13 =>
            ldS (ad2.add 1) w24 fun s12 =>
            ldI .i64 (ad2.add 2) w24 fun x14 =>
            R (.returned (Value.agg #[Value.bool b13, s12.v, Value.int .i64 x14])) w24)))
         (br (a2 == 1)
          (ldB ad1 w10 fun b14 =>
           br (!b14)
           (Calls Tryd.prog 29 #[Value.int .i64 1, Value.int .i64 a1] w10 fun e5 w25 =>
            ∃ b15 : Bool, ∃ s13 : Slc, ∃ x15 : Int, e5 = .returned (Value.agg #[Value.bool b15, s13.v, Value.int .i64 x15]) ∧
            (stC ad2 (Value.bool b15) w25 fun w26 =>
             stC (ad2.add 1) s13.v w26 fun w27 =>
             stC (ad2.add 2) (Value.int .i64 x15) w27 fun w28 =>
             ldB ad2 w28 fun b16 =>
             ldS (ad2.add 1) w28 fun s14 =>
             ldI .i64 (ad2.add 2) w28 fun x16 =>
             R (.returned (Value.agg #[Value.bool b16, s14.v, Value.int .i64 x16])) w28))
           (stC ad2 (Value.bool false) w10 fun w29 =>
            stC (ad2.add 1) ((⟨none, 0, 0⟩ : Slc).v) w29 fun w30 =>
            stC (ad2.add 2) (Value.int .i64 0) w30 fun w31 =>
            ldB ad2 w31 fun b17 =>
            ldS (ad2.add 1) w31 fun s15 =>
            ldI .i64 (ad2.add 2) w31 fun x17 =>
            R (.returned (Value.agg #[Value.bool b17, s15.v, Value.int .i64 x17])) w31))
          (stC ad2 (Value.bool false) w10 fun w32 =>
           stC (ad2.add 1) ((⟨none, 0, 0⟩ : Slc).v) w32 fun w33 =>
           stC (ad2.add 2) (Value.int .i64 0) w33 fun w34 =>
           ldB ad2 w34 fun b18 =>
           ldS (ad2.add 1) w34 fun s16 =>
           ldI .i64 (ad2.add 2) w34 fun x18 =>
           R (.returned (Value.agg #[Value.bool b18, s16.v, Value.int .i64 x18])) w34)))
        (Calls Tryd.prog 52 #[Value.int .i64 1] w10 fun e6 w35 =>
         ∃ s17 : Slc, e6 = .returned s17.v ∧
         (Calls Tryd.prog 54 #[s17.v, Value.int .i64 (IntKind.i64.wrap (a1 - x7))] w35 fun e7 w36 =>
          ∃ s18 : Slc, e7 = .returned s18.v ∧
          (newC w36 #[Value.bool false, (⟨none, 0, 0⟩ : Slc).v] 44 fun ad3 w37 =>
           stC ad3 (Value.bool false) w37 fun w38 =>
           stC (ad3.add 1) s18.v w38 fun w39 =>
           newC w39 #[Value.bool false, (⟨none, 0, 0⟩ : Slc).v] 44 fun ad4 w40 =>
           stC ad4 (Value.bool false) w40 fun w41 =>
           stC (ad4.add 1) ((⟨none, 0, 0⟩ : Slc).v) w41 fun w42 =>
           br (a2 == 0)
           (ldB ad1 w42 fun b19 =>
            ldS (ad1.add 1) w42 fun s19 =>
            ldB ad3 w42 fun b20 =>
            ldS (ad3.add 1) w42 fun s20 =>
            Calls Tryd.prog 81 #[Value.agg #[Value.bool b19, s19.v], Value.agg #[Value.bool b20, s20.v]] w42 fun e8 w43 =>
            ∃ b21 : Bool, ∃ s21 : Slc, ∃ b22 : Bool, ∃ s22 : Slc, e8 = .returned (Value.tuple #[Value.agg #[Value.bool b21, s21.v], Value.agg #[Value.bool b22, s22.v]]) ∧
            (stC ad4 (Value.bool b21) w43 fun w44 =>
             stC (ad4.add 1) s21.v w44 fun w45 =>
             ldB ad4 w45 fun b23 =>
             ldS (ad4.add 1) w45 fun s23 =>
             Calls Tryd.prog 22 #[Value.agg #[Value.bool b23, s23.v], Value.int .i64 a1] w45 fun e9 w46 =>
             ∃ b24 : Bool, ∃ s24 : Slc, ∃ x19 : Int, e9 = .returned (Value.agg #[Value.bool b24, s24.v, Value.int .i64 x19]) ∧
             (stC ad2 (Value.bool b24) w46 fun w47 =>
              stC (ad2.add 1) s24.v w47 fun w48 =>
              stC (ad2.add 2) (Value.int .i64 x19) w48 fun w49 =>
              ldB ad2 w49 fun b25 =>
              ldS (ad2.add 1) w49 fun s25 =>
              ldI .i64 (ad2.add 2) w49 fun x20 =>
              R (.returned (Value.agg #[Value.bool b25, s25.v, Value.int .i64 x20])) w49)))
           (br (a2 == 1)
            (ldB ad1 w42 fun b26 =>
             ldS (ad1.add 1) w42 fun s26 =>
             ldB ad3 w42 fun b27 =>
             ldS (ad3.add 1) w42 fun s27 =>
             Calls Tryd.prog 82 #[Value.agg #[Value.bool b26, s26.v], Value.agg #[Value.bool b27, s27.v]] w42 fun e10 w50 =>
             ∃ b28 : Bool, ∃ s28 : Slc, ∃ b29 : Bool, ∃ s29 : Slc, e10 = .returned (Value.tuple #[Value.agg #[Value.bool b28, s28.v], Value.agg #[Value.bool b29, s29.v]]) ∧
             (stC ad4 (Value.bool b28) w50 fun w51 =>
              stC (ad4.add 1) s28.v w51 fun w52 =>
              ldB ad4 w52 fun b30 =>
              ldS (ad4.add 1) w52 fun s30 =>
              Calls Tryd.prog 22 #[Value.agg #[Value.bool b30, s30.v], Value.int .i64 a1] w52 fun e11 w53 =>
              ∃ b31 : Bool, ∃ s31 : Slc, ∃ x21 : Int, e11 = .returned (Value.agg #[Value.bool b31, s31.v, Value.int .i64 x21]) ∧
              (stC ad2 (Value.bool b31) w53 fun w54 =>
               stC (ad2.add 1) s31.v w54 fun w55 =>
               stC (ad2.add 2) (Value.int .i64 x21) w55 fun w56 =>
               ldB ad2 w56 fun b32 =>
               ldS (ad2.add 1) w56 fun s32 =>
               ldI .i64 (ad2.add 2) w56 fun x22 =>
               R (.returned (Value.agg #[Value.bool b32, s32.v, Value.int .i64 x22])) w56)))
            (ldB ad1 w42 fun b33 =>
             ldS (ad1.add 1) w42 fun s33 =>
             ldB ad3 w42 fun b34 =>
             ldS (ad3.add 1) w42 fun s34 =>
             Calls Tryd.prog 83 #[Value.agg #[Value.bool b33, s33.v], Value.agg #[Value.bool b34, s34.v]] w42 fun e12 w57 =>
             ∃ b35 : Bool, ∃ s35 : Slc, ∃ b36 : Bool, ∃ s36 : Slc, e12 = .returned (Value.tuple #[Value.agg #[Value.bool b35, s35.v], Value.agg #[Value.bool b36, s36.v]]) ∧
             (stC ad4 (Value.bool b35) w57 fun w58 =>
              stC (ad4.add 1) s35.v w58 fun w59 =>
              ldB ad4 w59 fun b37 =>
              ldS (ad4.add 1) w59 fun s37 =>
              Calls Tryd.prog 22 #[Value.agg #[Value.bool b37, s37.v], Value.int .i64 a1] w59 fun e13 w60 =>
              ∃ b38 : Bool, ∃ s38 : Slc, ∃ x23 : Int, e13 = .returned (Value.agg #[Value.bool b38, s38.v, Value.int .i64 x23]) ∧
              (stC ad2 (Value.bool b38) w60 fun w61 =>
               stC (ad2.add 1) s38.v w61 fun w62 =>
               stC (ad2.add 2) (Value.int .i64 x23) w62 fun w63 =>
               ldB ad2 w63 fun b39 =>
               ldS (ad2.add 1) w63 fun s39 =>
               ldI .i64 (ad2.add 2) w63 fun x24 =>
               R (.returned (Value.agg #[Value.bool b39, s39.v, Value.int .i64 x24])) w63)))))))))))) :
    Calls Tryd.prog 38 #[Value.agg #[Value.bool a0_0, a0_1.v, Value.int .i64 a0_2], Value.int .i64 a1, Value.int .i64 a2] w R := by
  refine calls_of_vc (fun _ => none) (by kernel_rfl) Tryd.func38 rfl ?_ ?_
  · refine kcast h ?_; kernel_rfl
  · exact (obl_seq rfl (obl_reg (obl_seq rfl (obl_seq rfl (obl_reg (obl_cond (obl_seq rfl (obl_reg (obl_ret (obl_skip (obl_seq rfl (obl_reg (obl_seq rfl (obl_seq rfl (obl_reg (obl_cond (obl_seq rfl (obl_seq rfl (obl_reg (obl_cond (obl_seq rfl (obl_reg (obl_ret (obl_skip (obl_seq rfl (obl_seq rfl (obl_reg (obl_cond (obl_seq rfl (obl_reg (obl_ret (obl_skip (obl_seq rfl (obl_reg (obl_ret (obl_skip (obl_seq rfl (obl_reg (obl_seq rfl (obl_reg (obl_seq rfl (obl_seq rfl (obl_reg (obl_blk rfl (obl_seq rfl (obl_reg (obl_cond (obl_reg (obl_seq rfl (obl_reg (obl_cond (obl_reg (obl_reg (obl_seq rfl (obl_reg (obl_ret trivial))))))))))))))))))))))))))))))))))))))))))))))))))))))))

set_option maxRecDepth 100000 in
/-- surd/surdref08.Cut: function 41. -/
theorem surdref08_Cut_vc (a0_a_0 : Bool) (a0_a_1 : Slc) (a0_a_2 : Int) (a1_bits : Int) (a2_mode : Int) (w : World) (R : Ending → World → Prop)
    
    (h : newC w #[Value.bool a0_a_0, a0_a_1.v, Value.int .i64 a0_a_2] 47 fun ad1 w1 =>
    newC w1 #[Value.bool false, (⟨none, 0, 0⟩ : Slc).v, Value.int .i64 0] 47 fun ad2 w2 =>
    ldS (ad1.add 1) w2 fun s1 =>
    Calls Tryd.prog 34 #[s1.v] w2 fun e1 w3 =>
    ∃ x1 : Int, e1 = .returned (Value.int .i64 x1) ∧
    (br (decide (a1_bits ≥ x1))
     (ldB ad1 w3 fun b1 =>
      ldS (ad1.add 1) w3 fun s2 =>
      ldI .i64 (ad1.add 2) w3 fun x2 =>
      stC ad2 (Value.bool b1) w3 fun w4 =>
      stC (ad2.add 1) s2.v w4 fun w5 =>
      stC (ad2.add 2) (Value.int .i64 x2) w5 fun w6 =>
      ldB ad2 w6 fun b2 =>
      ldS (ad2.add 1) w6 fun s3 =>
      ldI .i64 (ad2.add 2) w6 fun x3 =>
      R (.returned (Value.agg #[Value.bool b2, s3.v, Value.int .i64 x3])) w6)
     (ldB ad1 w3.drew fun b3 =>
      ldS (ad1.add 1) w3.drew fun s4 =>
      ldI .i64 (ad1.add 2) w3.drew fun x4 =>
      ldB ad1 w3.drew fun b4 =>
      ldS (ad1.add 1) w3.drew fun s5 =>
      ldI .i64 (ad1.add 2) w3.drew fun x5 =>
      Calls Tryd.prog 33 #[Value.agg #[Value.bool b4, s5.v, Value.int .i64 x5]] w3.drew fun e2 w7 =>
      ∃ x6 : Int, e2 = .returned (Value.int .i64 x6) ∧
      (Ahead w3.drew w7 ∧
       (Calls Tryd.prog 38 #[Value.agg #[Value.bool b3, s4.v, Value.int .i64 x4], Value.int .i64 (IntKind.i64.wrap ((IntKind.i64.wrap (x6 - a1_bits)) + 1)), Value.int .i64 a2_mode] w7 fun e3 w8 =>
        ∃ b5 : Bool, ∃ s6 : Slc, ∃ x7 : Int, e3 = .returned (Value.agg #[Value.bool b5, s6.v, Value.int .i64 x7]) ∧
        (Ahead w7 w8 ∧
         (stC ad2 (Value.bool b5) w8 fun w9 =>
          stC (ad2.add 1) s6.v w9 fun w10 =>
          stC (ad2.add 2) (Value.int .i64 x7) w10 fun w11 =>
          ldB ad2 w11 fun b6 =>
          ldS (ad2.add 1) w11 fun s7 =>
          ldI .i64 (ad2.add 2) w11 fun x8 =>
          R (.returned (Value.agg #[Value.bool b6, s7.v, Value.int .i64 x8])) w11))))))) :
    Calls Tryd.prog 41 #[Value.agg #[Value.bool a0_a_0, a0_a_1.v, Value.int .i64 a0_a_2], Value.int .i64 a1_bits, Value.int .i64 a2_mode] w R := by
  refine calls_of_vc (fun _ => none) (by kernel_rfl) Tryd.func41 rfl ?_ ?_
  · refine kcast h ?_; kernel_rfl
  · exact (obl_seq rfl (obl_reg (obl_seq rfl (obl_seq rfl (obl_reg (obl_cond (obl_seq rfl (obl_reg (obl_ret (obl_skip (obl_seq rfl (obl_held (by kernel_rfl) (by kernel_rfl) (by kernel_rfl) (obl_ret trivial)))))))))))))

set_option maxRecDepth 100000 in
/-- surd/surdref08.Whole: function 42. -/
theorem surdref08_Whole_vc (a0_a_0 : Bool) (a0_a_1 : Slc) (a0_a_2 : Int) (a1_mode : Int) (w : World) (R : Ending → World → Prop)
    
    (h : newC w #[Value.bool a0_a_0, a0_a_1.v, Value.int .i64 a0_a_2] 47 fun ad1 w1 =>
    newC w1 #[Value.bool false, (⟨none, 0, 0⟩ : Slc).v] 44 fun ad2 w2 =>
    ldB ad1 w2 fun b1 =>
    ldS (ad1.add 1) w2 fun s1 =>
    ldI .i64 (ad1.add 2) w2 fun x1 =>
    Calls Tryd.prog 38 #[Value.agg #[Value.bool b1, s1.v, Value.int .i64 x1], Value.int .i64 0, Value.int .i64 a1_mode] w2 fun e1 w3 =>
    ∃ b2 : Bool, ∃ s2 : Slc, ∃ x2 : Int, e1 = .returned (Value.agg #[Value.bool b2, s2.v, Value.int .i64 x2]) ∧
    (newC w3 #[Value.bool false, (⟨none, 0, 0⟩ : Slc).v, Value.int .i64 0] 47 fun ad3 w4 =>
     stC ad3 (Value.bool b2) w4 fun w5 =>
     stC (ad3.add 1) s2.v w5 fun w6 =>
     stC (ad3.add 2) (Value.int .i64 x2) w6 fun w7 =>
     ldS (ad3.add 1) w7.drew fun s3 =>
     ldI .i64 (ad3.add 2) w7.drew fun x3 =>
     Calls Tryd.prog 34 #[s3.v] w7.drew fun e2 w8 =>
     ∃ x4 : Int, e2 = .returned (Value.int .i64 x4) ∧
     (Ahead w7.drew w8 ∧
      (br (decide ((IntKind.i64.wrap (x4 + x3)) > 67108864))
       (stC ad2 (Value.bool false) w8 fun w9 =>
        stC (ad2.add 1) ((⟨none, 0, 0⟩ : Slc).v) w9 fun w10 =>
        ldB ad2 w10 fun b3 =>
        ldS (ad2.add 1) w10 fun s4 =>
        R (.returned (Value.tuple #[Value.agg #[Value.bool b3, s4.v], Value.bool false])) w10)
       (ldB ad3 w8 fun b4 =>
        ldS (ad3.add 1) w8 fun s5 =>
        ldI .i64 (ad3.add 2) w8 fun x5 =>
        Calls Tryd.prog 53 #[Value.agg #[Value.bool b4, s5.v], Value.int .i64 x5] w8 fun e3 w11 =>
        ∃ b5 : Bool, ∃ s6 : Slc, e3 = .returned (Value.agg #[Value.bool b5, s6.v]) ∧
        (stC ad2 (Value.bool b5) w11 fun w12 =>
         stC (ad2.add 1) s6.v w12 fun w13 =>
         ldB ad2 w13 fun b6 =>
         ldS (ad2.add 1) w13 fun s7 =>
         R (.returned (Value.tuple #[Value.agg #[Value.bool b6, s7.v], Value.bool true])) w13)))))) :
    Calls Tryd.prog 42 #[Value.agg #[Value.bool a0_a_0, a0_a_1.v, Value.int .i64 a0_a_2], Value.int .i64 a1_mode] w R := by
  refine calls_of_vc (fun _ => none) (by kernel_rfl) Tryd.func42 rfl ?_ ?_
  · refine kcast h ?_; kernel_rfl
  · exact (obl_seq rfl (obl_reg (obl_seq rfl (obl_reg (obl_seq rfl (obl_seq rfl (obl_held (by kernel_rfl) (by kernel_rfl) (by kernel_rfl) (obl_cond (obl_seq rfl (obl_reg (obl_ret (obl_skip (obl_seq rfl (obl_reg (obl_ret trivial)))))))))))))))

set_option maxRecDepth 100000 in
/-- surd/surdref06.Add: function 91. -/
theorem surdref06_Add_vc (a0_a_0 : Bool) (a0_a_1 : Slc) (a1_b_0 : Bool) (a1_b_1 : Slc) (w : World) (R : Ending → World → Prop)
    
    (h : newC w #[Value.bool a0_a_0, a0_a_1.v] 44 fun ad1 w1 =>
    newC w1 #[Value.bool a1_b_0, a1_b_1.v] 44 fun ad2 w2 =>
    newC w2 #[Value.bool false, (⟨none, 0, 0⟩ : Slc).v] 44 fun ad3 w3 =>
    ldB ad1 w3 fun b1 =>
    ldB ad2 w3 fun b2 =>
    br (b1 == b2)
    (ldB ad1 w3.drew fun b3 =>
     ldS (ad1.add 1) w3.drew fun s1 =>
     ldS (ad2.add 1) w3.drew fun s2 =>
     Calls Tryd.prog 116 #[s1.v, s2.v] w3.drew fun e1 w4 =>
     ∃ s3 : Slc, e1 = .returned s3.v ∧
     (Ahead w3.drew w4 ∧
      (Calls Tryd.prog 66 #[Value.bool b3, s3.v] w4 fun e2 w5 =>
       ∃ b4 : Bool, ∃ s4 : Slc, e2 = .returned (Value.agg #[Value.bool b4, s4.v]) ∧
       (Ahead w4 w5 ∧
        (stC ad3 (Value.bool b4) w5 fun w6 =>
         stC (ad3.add 1) s4.v w6 fun w7 =>
         ldB ad3 w7 fun b5 =>
         ldS (ad3.add 1) w7 fun s5 =>
         R (.returned (Value.agg #[Value.bool b5, s5.v])) w7)))))
    (ldS (ad1.add 1) w3 fun s6 =>
     ldS (ad2.add 1) w3 fun s7 =>
     Calls Tryd.prog 106 #[s6.v, s7.v] w3 fun e3 w8 =>
     ∃ x1 : Int, e3 = .returned (Value.int .i64 x1) ∧
     (br (decide (x1 ≥ 0))
      (ldB ad1 w8.drew fun b6 =>
       ldS (ad1.add 1) w8.drew fun s8 =>
       ldS (ad2.add 1) w8.drew fun s9 =>
       Calls Tryd.prog 117 #[s8.v, s9.v] w8.drew fun e4 w9 =>
       ∃ s10 : Slc, e4 = .returned s10.v ∧
       (Ahead w8.drew w9 ∧
        (Calls Tryd.prog 66 #[Value.bool b6, s10.v] w9 fun e5 w10 =>
         ∃ b7 : Bool, ∃ s11 : Slc, e5 = .returned (Value.agg #[Value.bool b7, s11.v]) ∧
         (Ahead w9 w10 ∧
          (stC ad3 (Value.bool b7) w10 fun w11 =>
           stC (ad3.add 1) s11.v w11 fun w12 =>
           ldB ad3 w12 fun b8 =>
           ldS (ad3.add 1) w12 fun s12 =>
           R (.returned (Value.agg #[Value.bool b8, s12.v])) w12)))))
      (ldB ad2 w8.drew fun b9 =>
       ldS (ad2.add 1) w8.drew fun s13 =>
       ldS (ad1.add 1) w8.drew fun s14 =>
       Calls Tryd.prog 117 #[s13.v, s14.v] w8.drew fun e6 w13 =>
       ∃ s15 : Slc, e6 = .returned s15.v ∧
       (Ahead w8.drew w13 ∧
        (Calls Tryd.prog 66 #[Value.bool b9, s15.v] w13 fun e7 w14 =>
         ∃ b10 : Bool, ∃ s16 : Slc, e7 = .returned (Value.agg #[Value.bool b10, s16.v]) ∧
         (Ahead w13 w14 ∧
          (stC ad3 (Value.bool b10) w14 fun w15 =>
           stC (ad3.add 1) s16.v w15 fun w16 =>
           ldB ad3 w16 fun b11 =>
           ldS (ad3.add 1) w16 fun s17 =>
           R (.returned (Value.agg #[Value.bool b11, s17.v])) w16)))))))) :
    Calls Tryd.prog 91 #[Value.agg #[Value.bool a0_a_0, a0_a_1.v], Value.agg #[Value.bool a1_b_0, a1_b_1.v]] w R := by
  refine calls_of_vc (fun _ => none) (by kernel_rfl) Tryd.func91 rfl ?_ ?_
  · refine kcast h ?_; kernel_rfl
  · exact (obl_seq rfl (obl_reg (obl_seq rfl (obl_seq rfl (obl_reg (obl_cond (obl_seq rfl (obl_held (by kernel_rfl) (by kernel_rfl) (by kernel_rfl) (obl_ret (obl_skip (obl_seq rfl (obl_seq rfl (obl_reg (obl_cond (obl_seq rfl (obl_held (by kernel_rfl) (by kernel_rfl) (by kernel_rfl) (obl_ret (obl_skip (obl_seq rfl (obl_held (by kernel_rfl) (by kernel_rfl) (by kernel_rfl) (obl_ret trivial)))))))))))))))))))))

set_option maxRecDepth 100000 in
/-- surd/surdref06.Sub: function 104. -/
theorem surdref06_Sub_vc (a0_a_0 : Bool) (a0_a_1 : Slc) (a1_b_0 : Bool) (a1_b_1 : Slc) (w : World) (R : Ending → World → Prop)
    
    (h : newC w #[Value.bool a0_a_0, a0_a_1.v] 44 fun ad1 w1 =>
    newC w1 #[Value.bool a1_b_0, a1_b_1.v] 44 fun ad2 w2 =>
    newC w2 #[Value.bool false, (⟨none, 0, 0⟩ : Slc).v] 44 fun ad3 w3 =>
    ldB ad1 w3.drew fun b1 =>
    ldS (ad1.add 1) w3.drew fun s1 =>
    ldB ad2 w3.drew fun b2 =>
    ldS (ad2.add 1) w3.drew fun s2 =>
    Calls Tryd.prog 96 #[Value.agg #[Value.bool b2, s2.v]] w3.drew fun e1 w4 =>
    ∃ b3 : Bool, ∃ s3 : Slc, e1 = .returned (Value.agg #[Value.bool b3, s3.v]) ∧
    (Ahead w3.drew w4 ∧
     (Calls Tryd.prog 91 #[Value.agg #[Value.bool b1, s1.v], Value.agg #[Value.bool b3, s3.v]] w4 fun e2 w5 =>
      ∃ b4 : Bool, ∃ s4 : Slc, e2 = .returned (Value.agg #[Value.bool b4, s4.v]) ∧
      (Ahead w4 w5 ∧
       (stC ad3 (Value.bool b4) w5 fun w6 =>
        stC (ad3.add 1) s4.v w6 fun w7 =>
        ldB ad3 w7 fun b5 =>
        ldS (ad3.add 1) w7 fun s5 =>
        R (.returned (Value.agg #[Value.bool b5, s5.v])) w7))))) :
    Calls Tryd.prog 104 #[Value.agg #[Value.bool a0_a_0, a0_a_1.v], Value.agg #[Value.bool a1_b_0, a1_b_1.v]] w R := by
  refine calls_of_vc (fun _ => none) (by kernel_rfl) Tryd.func104 rfl ?_ ?_
  · refine kcast h ?_; kernel_rfl
  · exact (obl_seq rfl (obl_reg (obl_seq rfl (obl_held (by kernel_rfl) (by kernel_rfl) (by kernel_rfl) (obl_ret trivial)))))

set_option maxRecDepth 100000 in
/-- surd/surdref06.Mul: function 105. -/
theorem surdref06_Mul_vc (a0_a_0 : Bool) (a0_a_1 : Slc) (a1_b_0 : Bool) (a1_b_1 : Slc) (w : World) (R : Ending → World → Prop)
    
    (h : newC w #[Value.bool a0_a_0, a0_a_1.v] 44 fun ad1 w1 =>
    newC w1 #[Value.bool a1_b_0, a1_b_1.v] 44 fun ad2 w2 =>
    newC w2 #[Value.bool false, (⟨none, 0, 0⟩ : Slc).v] 44 fun ad3 w3 =>
    ldB ad1 w3.drew fun b1 =>
    ldB ad2 w3.drew fun b2 =>
    ldS (ad1.add 1) w3.drew fun s1 =>
    ldS (ad2.add 1) w3.drew fun s2 =>
    Calls Tryd.prog 129 #[s1.v, s2.v] w3.drew fun e1 w4 =>
    ∃ s3 : Slc, e1 = .returned s3.v ∧
    (Ahead w3.drew w4 ∧
     (Calls Tryd.prog 66 #[Value.bool (!(b1 == b2)), s3.v] w4 fun e2 w5 =>
      ∃ b3 : Bool, ∃ s4 : Slc, e2 = .returned (Value.agg #[Value.bool b3, s4.v]) ∧
      (Ahead w4 w5 ∧
       (stC ad3 (Value.bool b3) w5 fun w6 =>
        stC (ad3.add 1) s4.v w6 fun w7 =>
        ldB ad3 w7 fun b4 =>
        ldS (ad3.add 1) w7 fun s5 =>
        R (.returned (Value.agg #[Value.bool b4, s5.v])) w7))))) :
    Calls Tryd.prog 105 #[Value.agg #[Value.bool a0_a_0, a0_a_1.v], Value.agg #[Value.bool a1_b_0, a1_b_1.v]] w R := by
  refine calls_of_vc (fun _ => none) (by kernel_rfl) Tryd.func105 rfl ?_ ?_
  · refine kcast h ?_; kernel_rfl
  · exact (obl_seq rfl (obl_reg (obl_seq rfl (obl_held (by kernel_rfl) (by kernel_rfl) (by kernel_rfl) (obl_ret trivial)))))

def surdref06_Floor_cut (K5 : Addr → Addr → Addr → Addr → Addr → Bool → World → Prop) (K6 : Addr → Addr → Addr → Addr → Addr → World → Prop) : Nat → Option ((Act → World → Prop) × (Act → World → Nat))
  | 3000005 => some (fun a_ w_ => atSz a_ 43 (atA a_ 2 fun t2_a => atA a_ 3 fun t3_b => atA a_ 4 fun t4 => atA a_ 5 fun t5 => atA a_ 8 fun t8_x => atB a_ 33 fun t33 => K5 t2_a t3_b t4 t5 t8_x t33 w_), fun _ _ => 0)
  | 3000006 => some (fun a_ w_ => atSz a_ 43 (atA a_ 2 fun t2_a => atA a_ 3 fun t3_b => atA a_ 4 fun t4 => atA a_ 5 fun t5 => atA a_ 8 fun t8_x => K6 t2_a t3_b t4 t5 t8_x w_), fun _ _ => 0)
  | _ => none

set_option maxRecDepth 100000 in
/-- surd/surdref06.Floor: function 81. -/
theorem surdref06_Floor_vc (a0_a_0 : Bool) (a0_a_1 : Slc) (a1_b_0 : Bool) (a1_b_1 : Slc) (w : World) (R : Ending → World → Prop)
    (K5 : Addr → Addr → Addr → Addr → Addr → Bool → World → Prop) (K6 : Addr → Addr → Addr → Addr → Addr → World → Prop)
    (h : newC w #[Value.bool a0_a_0, a0_a_1.v] 44 fun ad1 w1 =>
    newC w1 #[Value.bool a1_b_0, a1_b_1.v] 44 fun ad2 w2 =>
    newC w2 #[Value.bool false, (⟨none, 0, 0⟩ : Slc).v] 44 fun ad3 w3 =>
    newC w3 #[Value.bool false, (⟨none, 0, 0⟩ : Slc).v] 44 fun ad4 w4 =>
    ldS (ad1.add 1) w4 fun s1 =>
    ldS (ad2.add 1) w4 fun s2 =>
    Calls Tryd.prog 103 #[s1.v, s2.v] w4 fun e1 w5 =>
    ∃ s3 : Slc, ∃ s4 : Slc, e1 = .returned (Value.tuple #[s3.v, s4.v]) ∧
    (ldB ad1 w5 fun b1 =>
     ldB ad2 w5 fun b2 =>
     Calls Tryd.prog 66 #[Value.bool (!(b1 == b2)), s3.v] w5 fun e2 w6 =>
     ∃ b3 : Bool, ∃ s5 : Slc, e2 = .returned (Value.agg #[Value.bool b3, s5.v]) ∧
     (newC w6 #[Value.bool false, (⟨none, 0, 0⟩ : Slc).v] 44 fun ad5 w7 =>
      stC ad5 (Value.bool b3) w7 fun w8 =>
      stC (ad5.add 1) s5.v w8 fun w9 =>
      Calls Tryd.prog 76 #[s4.v] w9 fun e3 w10 =>
      ∃ b4 : Bool, e3 = .returned (Value.bool b4) ∧
      (br (!b4)
       (ldB ad1 w10 fun b5 =>
        ldB ad2 w10 fun b6 =>
        K5 ad1 ad2 ad3 ad4 ad5 (!(b5 == b6)) w10)
       (K5 ad1 ad2 ad3 ad4 ad5 false w10)))))
    (h3000005 : ∀ (t2_a : Addr) (t3_b : Addr) (t4 : Addr) (t5 : Addr) (t8_x : Addr) (t33 : Bool) (w_ : World), K5 t2_a t3_b t4 t5 t8_x t33 w_ → 
    br t33
    (ldB t8_x w_.drew fun b7 =>
     ldS (t8_x.add 1) w_.drew fun s6 =>
     Calls Tryd.prog 77 #[Value.int .i64 1] w_.drew fun e4 w11 =>
     ∃ b8 : Bool, ∃ s7 : Slc, e4 = .returned (Value.agg #[Value.bool b8, s7.v]) ∧
     (Ahead w_.drew w11 ∧
      (Calls Tryd.prog 104 #[Value.agg #[Value.bool b7, s6.v], Value.agg #[Value.bool b8, s7.v]] w11 fun e5 w12 =>
       ∃ b9 : Bool, ∃ s8 : Slc, e5 = .returned (Value.agg #[Value.bool b9, s8.v]) ∧
       (Ahead w11 w12 ∧
        (stC t8_x (Value.bool b9) w12 fun w13 =>
         stC (t8_x.add 1) s8.v w13 fun w14 =>
         K6 t2_a t3_b t4 t5 t8_x w14)))))
    (K6 t2_a t3_b t4 t5 t8_x w_))
    (h3000006 : ∀ (t2_a : Addr) (t3_b : Addr) (t4 : Addr) (t5 : Addr) (t8_x : Addr) (w_ : World), K6 t2_a t3_b t4 t5 t8_x w_ → 
    ∃ V1 : Nat → Nat → Prop, Out (V1 0) t8_x (ldB t8_x w_.drew fun b10 =>
     ldS (t8_x.add 1) w_.drew fun s9 =>
     Out (V1 1) t2_a (ldB t2_a w_.drew fun b11 =>
      ldS (t2_a.add 1) w_.drew fun s10 =>
      Out (V1 2) t8_x (ldB t8_x w_.drew fun b12 =>
       ldS (t8_x.add 1) w_.drew fun s11 =>
       Out (V1 3) t3_b (ldB t3_b w_.drew fun b13 =>
        ldS (t3_b.add 1) w_.drew fun s12 =>
        Calls Tryd.prog 105 #[Value.agg #[Value.bool b12, s11.v], Value.agg #[Value.bool b13, s12.v]] w_.drew fun e6 w15 =>
        ∃ b14 : Bool, ∃ s13 : Slc, e6 = .returned (Value.agg #[Value.bool b14, s13.v]) ∧
        (Bar (V1 0) w_.drew w15 ∧
         (Bar (V1 1) w_.drew w15 ∧
          (Calls Tryd.prog 104 #[Value.agg #[Value.bool b11, s10.v], Value.agg #[Value.bool b14, s13.v]] w15 fun e7 w16 =>
           ∃ b15 : Bool, ∃ s14 : Slc, e7 = .returned (Value.agg #[Value.bool b15, s14.v]) ∧
           (Bar (V1 0) w15 w16 ∧
            (stC t4 (Value.bool b10) w16 fun w17 =>
             stC (t4.add 1) s9.v w17 fun w18 =>
             stC t5 (Value.bool b15) w18 fun w19 =>
             stC (t5.add 1) s14.v w19 fun w20 =>
             ldB t4 w20 fun b16 =>
             ldS (t4.add 1) w20 fun s15 =>
             ldB t5 w20 fun b17 =>
             ldS (t5.add 1) w20 fun s16 =>
             R (.returned (Value.tuple #[Value.agg #[Value.bool b16, s15.v], Value.agg #[Value.bool b17, s16.v]])) w20)))))))))) :
    Calls Tryd.prog 81 #[Value.agg #[Value.bool a0_a_0, a0_a_1.v], Value.agg #[Value.bool a1_b_0, a1_b_1.v]] w R := by
  refine calls_of_vc (marks [2000005] (surdref06_Floor_cut K5 K6)) (by kernel_rfl) Tryd.func81 rfl ?_ ?_
  · refine kcast h ?_; kernel_rfl
  · exact (obl_seq rfl (obl_reg (obl_seq rfl (obl_reg (obl_seq rfl (obl_reg (obl_join _ rfl (obl_join _ rfl (obl_reg trivial) (fun a_ w_ hL_ => (by
    obtain ⟨hz_, hd_, hL_⟩ := atSz_out hL_
    obtain ⟨t2_a, h2_, hL_⟩ := atA_out hL_
    obtain ⟨t3_b, h3_, hL_⟩ := atA_out hL_
    obtain ⟨t4, h4_, hL_⟩ := atA_out hL_
    obtain ⟨t5, h5_, hL_⟩ := atA_out hL_
    obtain ⟨t8_x, h8_, hL_⟩ := atA_out hL_
    obtain ⟨t33, h33_, hL_⟩ := atB_out hL_
    obtain ⟨g3000005, rfl⟩ : ∃ g, a_ = Fr 43 [(2, Value.pointer (some t2_a)), (3, Value.pointer (some t3_b)), (4, Value.pointer (some t4)), (5, Value.pointer (some t5)), (8, Value.pointer (some t8_x)), (33, Value.bool t33)] g := ⟨_, fr_of hz_ hd_ [(2, Value.pointer (some t2_a)), (3, Value.pointer (some t3_b)), (4, Value.pointer (some t4)), (5, Value.pointer (some t5)), (8, Value.pointer (some t8_x)), (33, Value.bool t33)] (sel_cons h2_ (sel_cons h3_ (sel_cons h4_ (sel_cons h5_ (sel_cons h8_ (sel_cons h33_ sel_nil))))))⟩
    clear hz_ hd_ h2_ h3_ h4_ h5_ h8_ h33_
    have hJ3000005_ := hL_
    refine ⟨(marks [2000005] (surdref06_Floor_cut K5 K6)), kcast (h3000005 t2_a t3_b t4 t5 t8_x t33 w_ hJ3000005_) ?_, ?_⟩
    · kernel_rfl
    · exact (obl_cond (obl_held (by kernel_rfl) (by kernel_rfl) (by kernel_rfl) (obl_skip trivial)))))) (fun a_ w_ hL_ => (by
    obtain ⟨hz_, hd_, hL_⟩ := atSz_out hL_
    obtain ⟨t2_a, h2_, hL_⟩ := atA_out hL_
    obtain ⟨t3_b, h3_, hL_⟩ := atA_out hL_
    obtain ⟨t4, h4_, hL_⟩ := atA_out hL_
    obtain ⟨t5, h5_, hL_⟩ := atA_out hL_
    obtain ⟨t8_x, h8_, hL_⟩ := atA_out hL_
    obtain ⟨g3000006, rfl⟩ : ∃ g, a_ = Fr 43 [(2, Value.pointer (some t2_a)), (3, Value.pointer (some t3_b)), (4, Value.pointer (some t4)), (5, Value.pointer (some t5)), (8, Value.pointer (some t8_x))] g := ⟨_, fr_of hz_ hd_ [(2, Value.pointer (some t2_a)), (3, Value.pointer (some t3_b)), (4, Value.pointer (some t4)), (5, Value.pointer (some t5)), (8, Value.pointer (some t8_x))] (sel_cons h2_ (sel_cons h3_ (sel_cons h4_ (sel_cons h5_ (sel_cons h8_ sel_nil)))))⟩
    clear hz_ hd_ h2_ h3_ h4_ h5_ h8_
    have hJ3000006_ := hL_
    refine ⟨(marks [2000005] (surdref06_Floor_cut K5 K6)), kcast (h3000006 t2_a t3_b t4 t5 t8_x w_ hJ3000006_) ?_, ?_⟩
    · kernel_rfl
    · exact (obl_seq rfl (obl_store _ rfl (by kernel_rfl) (obl_ret trivial))))))))))))

def surdref06_Near_cut (K5 : Addr → Addr → Addr → Addr → Addr → Bool → World → Prop) (K6 : Addr → Addr → Addr → Addr → Addr → World → Prop) : Nat → Option ((Act → World → Prop) × (Act → World → Nat))
  | 3000005 => some (fun a_ w_ => atSz a_ 42 (atA a_ 2 fun t2_a => atA a_ 3 fun t3_b => atA a_ 4 fun t4 => atA a_ 5 fun t5 => atA a_ 6 fun t6_q => atB a_ 32 fun t32 => K5 t2_a t3_b t4 t5 t6_q t32 w_), fun _ _ => 0)
  | 3000006 => some (fun a_ w_ => atSz a_ 42 (atA a_ 2 fun t2_a => atA a_ 3 fun t3_b => atA a_ 4 fun t4 => atA a_ 5 fun t5 => atA a_ 6 fun t6_q => K6 t2_a t3_b t4 t5 t6_q w_), fun _ _ => 0)
  | _ => none

set_option maxRecDepth 100000 in
/-- surd/surdref06.Near: function 83. -/
theorem surdref06_Near_vc (a0_a_0 : Bool) (a0_a_1 : Slc) (a1_b_0 : Bool) (a1_b_1 : Slc) (w : World) (R : Ending → World → Prop)
    (K5 : Addr → Addr → Addr → Addr → Addr → Bool → World → Prop) (K6 : Addr → Addr → Addr → Addr → Addr → World → Prop)
    (h : newC w #[Value.bool a0_a_0, a0_a_1.v] 44 fun ad1 w1 =>
    newC w1 #[Value.bool a1_b_0, a1_b_1.v] 44 fun ad2 w2 =>
    newC w2 #[Value.bool false, (⟨none, 0, 0⟩ : Slc).v] 44 fun ad3 w3 =>
    newC w3 #[Value.bool false, (⟨none, 0, 0⟩ : Slc).v] 44 fun ad4 w4 =>
    ldB ad1 w4 fun b1 =>
    ldS (ad1.add 1) w4 fun s1 =>
    ldB ad2 w4 fun b2 =>
    ldS (ad2.add 1) w4 fun s2 =>
    Calls Tryd.prog 81 #[Value.agg #[Value.bool b1, s1.v], Value.agg #[Value.bool b2, s2.v]] w4 fun e1 w5 =>
    ∃ b3 : Bool, ∃ s3 : Slc, ∃ b4 : Bool, ∃ s4 : Slc, e1 = .returned (Value.tuple #[Value.agg #[Value.bool b3, s3.v], Value.agg #[Value.bool b4, s4.v]]) ∧
    (newC w5 #[Value.bool false, (⟨none, 0, 0⟩ : Slc).v] 44 fun ad5 w6 =>
     newC w6 #[Value.bool false, (⟨none, 0, 0⟩ : Slc).v] 44 fun ad6 w7 =>
     stC ad5 (Value.bool b3) w7 fun w8 =>
     stC (ad5.add 1) s3.v w8 fun w9 =>
     stC ad6 (Value.bool b4) w9 fun w10 =>
     stC (ad6.add 1) s4.v w10 fun w11 =>
     ldS (ad6.add 1) w11.drew fun s5 =>
     ldS (ad2.add 1) w11.drew fun s6 =>
     Calls Tryd.prog 54 #[s5.v, Value.int .i64 1] w11.drew fun e2 w12 =>
     ∃ s7 : Slc, e2 = .returned s7.v ∧
     (Ahead w11.drew w12 ∧
      (Calls Tryd.prog 106 #[s7.v, s6.v] w12 fun e3 w13 =>
       ∃ x1 : Int, e3 = .returned (Value.int .i64 x1) ∧
       (Ahead w12 w13 ∧
        (br (decide (x1 > 0))
         (K5 ad1 ad2 ad3 ad4 ad5 true w13)
         (br (x1 == 0)
          (ldS (ad5.add 1) w13 fun s19 =>
           Calls Tryd.prog 99 #[s19.v, Value.int .i64 0] w13 fun e8 w24 =>
           ∃ x2 : Int, e8 = .returned (Value.int .i64 x2) ∧
           (K5 ad1 ad2 ad3 ad4 ad5 (x2 == 1) w24))
          (K5 ad1 ad2 ad3 ad4 ad5 false w13))))))))
    (h3000005 : ∀ (t2_a : Addr) (t3_b : Addr) (t4 : Addr) (t5 : Addr) (t6_q : Addr) (t32 : Bool) (w_ : World), K5 t2_a t3_b t4 t5 t6_q t32 w_ → 
    br t32
    (ldB t6_q w_.drew fun b5 =>
     ldS (t6_q.add 1) w_.drew fun s8 =>
     Calls Tryd.prog 77 #[Value.int .i64 1] w_.drew fun e4 w14 =>
     ∃ b6 : Bool, ∃ s9 : Slc, e4 = .returned (Value.agg #[Value.bool b6, s9.v]) ∧
     (Ahead w_.drew w14 ∧
      (Calls Tryd.prog 91 #[Value.agg #[Value.bool b5, s8.v], Value.agg #[Value.bool b6, s9.v]] w14 fun e5 w15 =>
       ∃ b7 : Bool, ∃ s10 : Slc, e5 = .returned (Value.agg #[Value.bool b7, s10.v]) ∧
       (Ahead w14 w15 ∧
        (stC t6_q (Value.bool b7) w15 fun w16 =>
         stC (t6_q.add 1) s10.v w16 fun w17 =>
         K6 t2_a t3_b t4 t5 t6_q w17)))))
    (K6 t2_a t3_b t4 t5 t6_q w_))
    (h3000006 : ∀ (t2_a : Addr) (t3_b : Addr) (t4 : Addr) (t5 : Addr) (t6_q : Addr) (w_ : World), K6 t2_a t3_b t4 t5 t6_q w_ → 
    ∃ V1 : Nat → Nat → Prop, Out (V1 0) t6_q (ldB t6_q w_.drew fun b8 =>
     ldS (t6_q.add 1) w_.drew fun s11 =>
     Out (V1 1) t2_a (ldB t2_a w_.drew fun b9 =>
      ldS (t2_a.add 1) w_.drew fun s12 =>
      Out (V1 2) t6_q (ldB t6_q w_.drew fun b10 =>
       ldS (t6_q.add 1) w_.drew fun s13 =>
       Out (V1 3) t3_b (ldB t3_b w_.drew fun b11 =>
        ldS (t3_b.add 1) w_.drew fun s14 =>
        Calls Tryd.prog 105 #[Value.agg #[Value.bool b10, s13.v], Value.agg #[Value.bool b11, s14.v]] w_.drew fun e6 w18 =>
        ∃ b12 : Bool, ∃ s15 : Slc, e6 = .returned (Value.agg #[Value.bool b12, s15.v]) ∧
        (Bar (V1 0) w_.drew w18 ∧
         (Bar (V1 1) w_.drew w18 ∧
          (Calls Tryd.prog 104 #[Value.agg #[Value.bool b9, s12.v], Value.agg #[Value.bool b12, s15.v]] w18 fun e7 w19 =>
           ∃ b13 : Bool, ∃ s16 : Slc, e7 = .returned (Value.agg #[Value.bool b13, s16.v]) ∧
           (Bar (V1 0) w18 w19 ∧
            (stC t4 (Value.bool b8) w19 fun w20 =>
             stC (t4.add 1) s11.v w20 fun w21 =>
             stC t5 (Value.bool b13) w21 fun w22 =>
             stC (t5.add 1) s16.v w22 fun w23 =>
             ldB t4 w23 fun b14 =>
             ldS (t4.add 1) w23 fun s17 =>
             ldB t5 w23 fun b15 =>
             ldS (t5.add 1) w23 fun s18 =>
             R (.returned (Value.tuple #[Value.agg #[Value.bool b14, s17.v], Value.agg #[Value.bool b15, s18.v]])) w23)))))))))) :
    Calls Tryd.prog 83 #[Value.agg #[Value.bool a0_a_0, a0_a_1.v], Value.agg #[Value.bool a1_b_0, a1_b_1.v]] w R := by
  refine calls_of_vc (marks [2000005] (surdref06_Near_cut K5 K6)) (by kernel_rfl) Tryd.func83 rfl ?_ ?_
  · refine kcast h ?_; kernel_rfl
  · exact (obl_seq rfl (obl_reg (obl_seq rfl (obl_reg (obl_seq rfl (obl_held (by kernel_rfl) (by kernel_rfl) (by kernel_rfl) (obl_join _ rfl (obl_join _ rfl (obl_reg trivial) (fun a_ w_ hL_ => (by
    obtain ⟨hz_, hd_, hL_⟩ := atSz_out hL_
    obtain ⟨t2_a, h2_, hL_⟩ := atA_out hL_
    obtain ⟨t3_b, h3_, hL_⟩ := atA_out hL_
    obtain ⟨t4, h4_, hL_⟩ := atA_out hL_
    obtain ⟨t5, h5_, hL_⟩ := atA_out hL_
    obtain ⟨t6_q, h6_, hL_⟩ := atA_out hL_
    obtain ⟨t32, h32_, hL_⟩ := atB_out hL_
    obtain ⟨g3000005, rfl⟩ : ∃ g, a_ = Fr 42 [(2, Value.pointer (some t2_a)), (3, Value.pointer (some t3_b)), (4, Value.pointer (some t4)), (5, Value.pointer (some t5)), (6, Value.pointer (some t6_q)), (32, Value.bool t32)] g := ⟨_, fr_of hz_ hd_ [(2, Value.pointer (some t2_a)), (3, Value.pointer (some t3_b)), (4, Value.pointer (some t4)), (5, Value.pointer (some t5)), (6, Value.pointer (some t6_q)), (32, Value.bool t32)] (sel_cons h2_ (sel_cons h3_ (sel_cons h4_ (sel_cons h5_ (sel_cons h6_ (sel_cons h32_ sel_nil))))))⟩
    clear hz_ hd_ h2_ h3_ h4_ h5_ h6_ h32_
    have hJ3000005_ := hL_
    refine ⟨(marks [2000005] (surdref06_Near_cut K5 K6)), kcast (h3000005 t2_a t3_b t4 t5 t6_q t32 w_ hJ3000005_) ?_, ?_⟩
    · kernel_rfl
    · exact (obl_cond (obl_held (by kernel_rfl) (by kernel_rfl) (by kernel_rfl) (obl_skip trivial)))))) (fun a_ w_ hL_ => (by
    obtain ⟨hz_, hd_, hL_⟩ := atSz_out hL_
    obtain ⟨t2_a, h2_, hL_⟩ := atA_out hL_
    obtain ⟨t3_b, h3_, hL_⟩ := atA_out hL_
    obtain ⟨t4, h4_, hL_⟩ := atA_out hL_
    obtain ⟨t5, h5_, hL_⟩ := atA_out hL_
    obtain ⟨t6_q, h6_, hL_⟩ := atA_out hL_
    obtain ⟨g3000006, rfl⟩ : ∃ g, a_ = Fr 42 [(2, Value.pointer (some t2_a)), (3, Value.pointer (some t3_b)), (4, Value.pointer (some t4)), (5, Value.pointer (some t5)), (6, Value.pointer (some t6_q))] g := ⟨_, fr_of hz_ hd_ [(2, Value.pointer (some t2_a)), (3, Value.pointer (some t3_b)), (4, Value.pointer (some t4)), (5, Value.pointer (some t5)), (6, Value.pointer (some t6_q))] (sel_cons h2_ (sel_cons h3_ (sel_cons h4_ (sel_cons h5_ (sel_cons h6_ sel_nil)))))⟩
    clear hz_ hd_ h2_ h3_ h4_ h5_ h6_
    have hJ3000006_ := hL_
    refine ⟨(marks [2000005] (surdref06_Near_cut K5 K6)), kcast (h3000006 t2_a t3_b t4 t5 t6_q w_ hJ3000006_) ?_, ?_⟩
    · kernel_rfl
    · exact (obl_seq rfl (obl_store _ rfl (by kernel_rfl) (obl_ret trivial))))))))))))

set_option maxRecDepth 100000 in
/-- surd/surdref06.Neg: function 96. -/
theorem surdref06_Neg_vc (a0_a_0 : Bool) (a0_a_1 : Slc) (w : World) (R : Ending → World → Prop)
    
    (h : newC w #[Value.bool a0_a_0, a0_a_1.v] 44 fun ad1 w1 =>
    newC w1 #[Value.bool false, (⟨none, 0, 0⟩ : Slc).v] 44 fun ad2 w2 =>
    ldB ad1 w2 fun b1 =>
    ldS (ad1.add 1) w2 fun s1 =>
    Calls Tryd.prog 66 #[Value.bool (!b1), s1.v] w2 fun e1 w3 =>
    ∃ b2 : Bool, ∃ s2 : Slc, e1 = .returned (Value.agg #[Value.bool b2, s2.v]) ∧
    (stC ad2 (Value.bool b2) w3 fun w4 =>
     stC (ad2.add 1) s2.v w4 fun w5 =>
     ldB ad2 w5 fun b3 =>
     ldS (ad2.add 1) w5 fun s3 =>
     R (.returned (Value.agg #[Value.bool b3, s3.v])) w5)) :
    Calls Tryd.prog 96 #[Value.agg #[Value.bool a0_a_0, a0_a_1.v]] w R := by
  refine calls_of_vc (fun _ => none) (by kernel_rfl) Tryd.func96 rfl ?_ ?_
  · refine kcast h ?_; kernel_rfl
  · exact (obl_seq rfl (obl_reg (obl_seq rfl (obl_reg (obl_ret trivial)))))

end Go.Proofs.YthhbjhdnaopcnaaDoor
namespace Go.Proofs.YthhbjhdnaopcnaaDoor
open Go Go.RowKit Eng Sp Dg
set_option linter.unusedVariables false
set_option linter.unusedSimpArgs false
set_option maxRecDepth 100000
namespace Nat

/-- A law's answer. -/
def Yes (w : World) (e : Ending) (w' : World) : Prop := e = .returned (.bool true) ∧ Ahead w w'

/-- A literal's slice of one limb. -/
theorem one_rd (w : World) (x : Nat) : Rd .u64 (w.alloc (.cells #[.int .u64 (x : Int)] tU64 (0, 0))) ⟨some ⟨w.heap.size, 0, none⟩, 1, 1⟩ (nn [x]) :=
  Own.rd (t := tU64) (b := w.heap.size) ⟨rfl, [], rfl, by rw [get_alloc]; rfl⟩

end Nat
end Go.Proofs.YthhbjhdnaopcnaaDoor
namespace Go.Proofs.YthhbjhdnaopcnaaDoor
open Go Go.RowKit Eng Sp Dg
set_option linter.unusedVariables false
set_option linter.unusedSimpArgs false
set_option maxRecDepth 100000
namespace Dy
open _root_.Go.Proofs.YthhbjhdnaopcnaaDoor.Nat (ldN OwnNil Num Num.bl OwnNil.mono bigC semShr digs_len_bl Yes andI_nat num_of)
open _root_.Go.Proofs.YthhbjhdnaopcnaaDoor.Ref (RN RN.nil Of_spec Is_spec Len_spec zero_spec Int_spec tdiv32 tmod32)
open Sb

theorem bit_digit (U s : Nat) (hs : s < 32) : U % 2 ^ 32 / 2 ^ s % 2 = U / 2 ^ s % 2 := by
  have h : (2 : Nat) ^ 32 = 2 ^ s * (2 * 2 ^ (31 - s)) := by rw [← Nat.pow_succ', ← Nat.pow_add]; congr 1; omega
  rw [h, Nat.mod_mul_right_div_self, Nat.mod_mul_right_mod]
theorem Bit_spec {w : World} {s : Slc} {x : Nat} {i : Nat} (h : RN w s x) (hl : (digs B32 x).length ≤ 2 ^ 46) (hi : i ≤ 9223372036854775807) :
    Calls pr surdref01_Num_Bit_id #[s.v, .int .i64 (i : Int)] w fun e w' => w' = w ∧ e = .returned (.int .i64 ((x / 2 ^ i % 2 : Nat) : Int)) := by
  have hn := h.n
  have ox := ok_digs two32 x
  have vx := val_digs two32 x
  have hB := B32v
  have hp2 : B32 ^ (i / 32) * 2 ^ (i % 32) = 2 ^ i := (pow_split i 32).symm
  have hx : x / 2 ^ i % 2 = (digs B32 x).getD (i / 32) 0 / 2 ^ (i % 32) % 2 := by
    rw [digit (by omega : 0 < B32) _ ox (i / 32), vx, ← hp2, ← Nat.div_div_eq_div_mul, show B32 = 2 ^ 32 from rfl, bit_digit _ _ (Nat.mod_lt _ (by omega))]
  have e0 : ((i : Int)).toNat = i := by omega
  unfold RN at h
  refine surdref01_Num_Bit_vc s i w _ (br_false (by simp) ?_)
  rw [tdiv32 (by omega) (by omega), tmod32 (by omega), e0]
  refine br_intro (fun hb => ?_) (fun hb => ?_)
  · refine ⟨rfl, ?_⟩
    have hb' : (digs B32 x).length ≤ i / 32 := by simp at hb; omega
    rw [hx, getD_ge _ 0 hb']
    simp
  · have hb' : i / 32 < (digs B32 x).length := by simp at hb; omega
    refine ldN h (by omega) (by omega) ?_
    refine semShr (by omega) ?_
    rw [Int.toNat_natCast]
    have hlt := ok_getD ox (by omega : 0 < B32) (i / 32)
    generalize (digs B32 x).getD (i / 32) 0 = d at *
    have hd : d / 2 ^ (i % 32) < B64 := Nat.lt_of_le_of_lt (Nat.div_le_self _ _) (by rw [B64v]; omega)
    rw [show (1 : Int) = ((1 : Nat) : Int) from rfl, andI_nat hd (by rw [B64v]; omega), Nat.and_one_is_mod, hx, wrap_i64 (by omega) (by omega)]
    exact ⟨rfl, rfl⟩

theorem rTail_spec {w : World} {s : Slc} {x : Nat} (h : RN w s x) (hl : (digs B32 x).length ≤ 2 ^ 46) :
    Calls pr surdref01_Num_Tail_id #[s.v] w fun e w' => w' = w ∧ e = .returned (.int .i64 (tz x)) := by
  have hn := h.n
  have hbl : bl x ≤ 2 ^ 51 := by
    have := Ref.bl_len32 (ok_digs two32 x)
    rw [val_digs two32] at this
    omega
  refine surdref01_Num_Tail_vc s w _ (fun t n w' => t = s ∧ w' = w ∧ x ≠ 0 ∧ ∃ j : Nat, n = (j : Int) ∧ j ≤ tz x) (fun _ n _ => (tz x - n).toNat) ?_ ?_
  · refine br_intro (fun hz => ?_) (fun hz => ?_)
    · have hx : x = 0 := by
        have : (digs B32 x).length = 0 := by simp at hz; omega
        rw [← val_digs two32 x, List.length_eq_zero_iff.1 this]; rfl
      subst hx
      exact ⟨rfl, by rw [tz_zero]; rfl⟩
    · refine ⟨rfl, rfl, fun e => ?_, 0, rfl, Nat.zero_le _⟩
      rw [e, digs_zero] at hn
      rw [hn] at hz
      simp at hz
  · rintro t n w1 ⟨rfl, rfl, hx, j, rfl, hj⟩
    have htz := tz_lt hx
    refine Calls.mono (Bit_spec h hl (by omega)) ?_
    rintro e w2 ⟨rfl, rfl⟩
    have e8 : IntKind.i64.wrap ((j : Int) + 1) = ((j + 1 : Nat) : Int) := by rw [wrap_i64 (by omega) (by omega)]; omega
    have hxj : x / 2 ^ j = 2 ^ (tz x - j) * od x := by
      have h1 := od_mul x
      have hp : 0 < 2 ^ j := Nat.pow_pos (by omega)
      conv => lhs; rw [← h1, show tz x = j + (tz x - j) by omega, Nat.pow_add, Nat.mul_assoc]
      rw [Nat.mul_div_cancel_left _ hp]
    refine ⟨_, rfl, br_intro (fun hb => ?_) (fun hb => ?_)⟩
    · have hne : j ≠ tz x := by
        intro he
        rw [hxj, he, Nat.sub_self, Nat.pow_zero, Nat.one_mul, od_odd hx] at hb
        simp at hb
      exact ⟨⟨rfl, rfl, hx, j + 1, e8, by omega⟩, by rw [e8]; omega⟩
    · have he : j = tz x := by
        rcases Nat.lt_or_ge j (tz x) with hlt | hge
        · exfalso
          rw [hxj, show tz x - j = (tz x - j - 1) + 1 by omega, Nat.pow_succ, Nat.mul_comm (2 ^ _), Nat.mul_assoc, Nat.mul_mod_right] at hb
          simp at hb
        · omega
      subst he
      exact ⟨rfl, rfl⟩

theorem make1_spec {w : World} {neg : Bool} {s : Slc} {x : Nat} (h : RN w s x) :
    Calls pr surdref06_make1_id #[.bool neg, s.v] w fun e w' => Ahead w w' ∧ e = .returned (.agg (c2 (nD neg x) s)) ∧ RN w' s x := by
  refine surdref06_make1_vc neg s w _ (newC_b fun b w1 hb h1 hs1 B1 => br_intro (fun hn => ?_) (fun hn => ?_))
  · refine Calls.mono (zero_spec (h.ahead h1)) ?_
    rintro e w2 ⟨rfl, rfl⟩
    refine ⟨_, rfl, ret2 B1 fun w' u _ => ⟨u.ahead h1 (by omega), ?_, u.rd _ _ (h.ahead h1)⟩⟩
    rw [nD, hn]; simp
  · refine ret2 B1 fun w' u _ => ⟨u.ahead h1 (by omega), ?_, u.rd _ _ (h.ahead h1)⟩
    rw [nD, hn]; rfl
theorem zOf_spec {w : World} {neg : Bool} {s : Slc} {l : List Nat} (h : Rd .u64 w s (nn l)) (hl : l.length * 8 ≤ 140737488351232) (ol : ok B64 l) :
    Calls pr surdref06_Of_id #[.bool neg, s.v] w fun e w' => Ahead w w' ∧ ∃ s', e = .returned (.agg (c2 (nD neg (val B64 l)) s')) ∧ RN w' s' (val B64 l) := by
  refine surdref06_Of_vc neg s w _ (newC_b fun b w1 hb h1 hs1 B1 => Calls.mono (Of_spec (h.ahead h1) hl ol) ?_)
  rintro e w2 ⟨h2, s1, rfl, r1⟩
  refine ⟨_, rfl, Calls.mono (make1_spec r1) ?_⟩
  rintro e w3 ⟨h3, rfl, r3⟩
  refine ⟨_, _, rfl, ret2 ((B1.ahead h2).ahead h3) fun w' u _ => ⟨u.ahead ((h1.trans h2).trans h3) (by omega), s1, rfl, u.rd _ _ r3⟩⟩
theorem zSign_spec {w : World} {neg : Bool} {s : Slc} {x : Nat} (h : RN w s x) :
    Calls pr surdref06_Z_Sign_id #[.agg (c2 (nD neg x) s)] w fun e w' => Ahead w w' ∧ e = .returned (.int .i64 (sgn neg x)) := by
  refine surdref06_Z_Sign_vc (nD neg x) s w _ (newC_b fun b w1 hb h1 hs1 B1 => ldB_b 0 B1 rfl (br_intro (fun hn => ?_) (fun hn => ?_)))
  · refine ⟨h1, ?_⟩
    unfold nD at hn
    simp only [Bool.and_eq_true, decide_eq_true_eq] at hn
    rw [sgn, if_neg hn.2, hn.1]; rfl
  · refine ldS_b 1 B1 rfl (Calls.mono (zero_spec (h.ahead h1)) ?_)
    rintro e w2 ⟨rfl, rfl⟩
    refine ⟨_, rfl, br_intro (fun hz => ?_) (fun hz => ?_)⟩
    · exact ⟨h1, by rw [sgn, if_pos (by simpa using hz)]⟩
    · have hx : x ≠ 0 := by simpa using hz
      rw [nD_ne hx] at hn
      exact ⟨h1, by rw [sgn, if_neg hx, hn]; rfl⟩
theorem zIs_spec {w : World} {neg : Bool} {s t : Slc} {x : Nat} (h : RN w s x) (ht : Rd .u64 w t (nn (digs B64 x))) (hl : (digs B64 x).length ≤ 2 ^ 44) :
    Calls pr surdref06_Z_Is_id #[.agg (c2 neg s), .bool neg, t.v] w fun e w' => Ahead w w' ∧ e = .returned (.bool true) := by
  refine surdref06_Z_Is_vc neg s neg t w _ (newC_b fun b w1 hb h1 hs1 B1 => ldB_b 0 B1 rfl (br_true (by simp) ?_))
  refine ldS_b 1 B1 rfl (Calls.mono (Is_spec (h.ahead h1) (ht.ahead h1) hl) ?_)
  rintro e w2 ⟨h2, rfl⟩
  exact ⟨_, rfl, h1.trans h2, rfl⟩
theorem zInt_spec {w : World} {v : Int} (h0 : -9223372036854775808 ≤ v) (h1 : v ≤ 9223372036854775807) :
    Calls pr surdref06_Int_id #[.int .i64 v] w fun e w' => Ahead w w' ∧ ∃ s, e = .returned (.agg (c2 (nD (decide (v < 0)) v.natAbs) s)) ∧ RN w' s v.natAbs := by
  have hB := B64v
  refine surdref06_Int_vc v w _ (newC_b fun b w1 hb h1' hs1 B1 => br_intro (fun hn => ?_) (fun hn => ?_))
  · have hn' : v < 0 := by simpa using hn
    have e1 : IntKind.u64.wrap (IntKind.u64.wrap (IntKind.i64.wrap (0 - IntKind.i64.wrap (v + 1))) + 1) = ((v.natAbs : Nat) : Int) := by
      rw [wrap_i64 (x := v + 1) (by omega) (by omega), wrap_i64 (by omega) (by omega), wrap_u64' (x := 0 - (v + 1)) (by omega) (by omega), wrap_u64' (by omega) (by omega)]
      omega
    rw [e1]
    refine newC_b fun b2 w2 hb2 h2 hs2 B2 => ?_
    have hrd : Rd .u64 w2 ⟨some ⟨b2, 0, none⟩, 1, 1⟩ (nn [v.natAbs]) := by
      obtain ⟨t, hm⟩ := B2
      exact ⟨rfl, Nat.le_refl _, fun i hi => ⟨_, rfl, by
        have : i = 0 := by simpa using hi
        subst this
        simp [World.cell?, Addr.add, hm, nn]⟩⟩
    refine Calls.mono (Of_spec hrd (by simp) (fun z hz => by simp at hz; omega)) ?_
    rintro e w3 ⟨h3, s1, rfl, r1⟩
    have ev : val B64 [v.natAbs] = v.natAbs := by simp [val]
    rw [ev] at r1
    refine ⟨_, rfl, Calls.mono (make1_spec r1) ?_⟩
    rintro e w4 ⟨h4, rfl, r4⟩
    refine ⟨_, _, rfl, ret2 (((B1.ahead h2).ahead h3).ahead h4) fun w' u _ => ⟨u.ahead (((h1'.trans h2).trans h3).trans h4) (by omega), s1, ?_, u.rd _ _ r4⟩⟩
    simp [hn']
  · have hn' : ¬ v < 0 := by simpa using hn
    obtain ⟨m, rfl⟩ : ∃ m : Nat, v = (m : Int) := ⟨v.toNat, by omega⟩
    refine Calls.mono (Int_spec (v := m) (by omega)) ?_
    rintro e w3 ⟨h3, s1, rfl, r1⟩
    refine ⟨_, rfl, Calls.mono (make1_spec r1) ?_⟩
    rintro e w4 ⟨h4, rfl, r4⟩
    refine ⟨_, _, rfl, ret2 ((B1.ahead h3).ahead h4) fun w' u _ => ⟨u.ahead ((h1'.trans h3).trans h4) (by omega), s1, ?_, u.rd _ _ r4⟩⟩
    simp [hn']

theorem dOf_specN {w : World} {neg : Bool} {s : Slc} {x : Nat} {e : Int} (h : RN w s x) (hl : (digs B32 x).length ≤ 2 ^ 45) (he : -4611686018427387904 ≤ e ∧ e ≤ 4611686018427387904) :
    Calls pr surdref08_Of_id #[.agg (c2 (nD neg x) s), .int .i64 e] w fun en w' => Ahead w w' ∧ ∃ s', en = .returned (.agg (c3 (nD neg x) s' (eD x e))) ∧ RN w' s' (od x) ∧ ∀ ad, s'.A = some ad → w.heap.size ≤ ad.block := by
  refine surdref08_Of_vc (nD neg x) s e w _ (newC_b fun b1 w1 hb1 h1 hs1 B1 => newC_b fun b2 w2 hb2 h2 hs2 B2 => ?_)
  have h12 := h1.trans h2
  have hb : w.heap.size ≤ b2 := by have := h1.size; omega
  have hbl : bl x ≤ 2 ^ 50 := by
    have := Ref.bl_len32 (ok_digs two32 x)
    rw [val_digs two32] at this
    omega
  refine get2 (B1.ahead h2) rfl rfl (Calls.mono (zSign_spec (h.ahead h12)) ?_)
  rintro en w3 ⟨h3, rfl⟩
  have h13 := h12.trans h3
  have B13 := (B1.ahead h2).ahead h3
  have B23 := B2.ahead h3
  refine ⟨_, rfl, br_intro (fun hz => ?_) (fun hz => ?_)⟩
  · have hx : x = 0 := sgn_zero_iff.1 (by simpa using hz)
    subst hx
    refine ret3 B23 fun w' u _ => ⟨u.ahead h13 hb, _, by rw [nD_zero, eD_zero], by rw [od_zero]; exact RN.nil, fun ad h => by cases h⟩
  · have hx : x ≠ 0 := fun e0 => by rw [e0] at hz; simp [sgn] at hz
    have htz := tz_lt hx
    refine ldS_b 1 B13 rfl (Calls.mono (rTail_spec (h.ahead h13) (by omega)) ?_)
    rintro en w7 ⟨rfl, rfl⟩
    have hd := Ahead.drew w7
    refine ⟨_, rfl, get2 (B13.ahead hd) rfl rfl (Calls.mono (Ref.Shr_specN ((h.ahead h13).ahead hd) (by omega) (by omega) (by omega)) ?_)⟩
    rintro en w8 ⟨h8, s5, rfl, r5, q5⟩
    rw [Int.toNat_natCast] at r5
    have h78 := hd.trans h8
    refine ⟨_, rfl, h8, ret3 (B23.ahead h78) fun w' u _ => ⟨u.ahead (h13.trans h78) hb, s5, ?_, u.rd _ _ r5, fun ad had => by have := q5 ad had; have := h13.size; have := hd.size; omega⟩⟩
    rw [eD, if_neg hx, wrap_i64 (by omega) (by omega)]
theorem dOf_spec {w : World} {neg : Bool} {s : Slc} {x : Nat} {e : Int} (h : RN w s x) (hl : (digs B32 x).length ≤ 2 ^ 45) (he : -4611686018427387904 ≤ e ∧ e ≤ 4611686018427387904) :
    Calls pr surdref08_Of_id #[.agg (c2 (nD neg x) s), .int .i64 e] w fun en w' => Ahead w w' ∧ ∃ s', en = .returned (.agg (c3 (nD neg x) s' (eD x e))) ∧ RN w' s' (od x) :=
  Calls.mono (dOf_specN h hl he) fun en w' ⟨h1, s', h2, h3, _⟩ => ⟨h1, s', h2, h3⟩
theorem dInt_spec {w : World} {v e : Int} (h0 : -9223372036854775808 ≤ v) (h1 : v ≤ 9223372036854775807) (he : -4611686018427387904 ≤ e ∧ e ≤ 4611686018427387904) :
    Calls pr surdref08_Int_id #[.int .i64 v, .int .i64 e] w fun en w' => Ahead w w' ∧ ∃ s', en = .returned (.agg (c3 (nD (decide (v < 0)) v.natAbs) s' (eD v.natAbs e))) ∧ RN w' s' (od v.natAbs) := by
  refine surdref08_Int_vc v e w _ (newC_b fun b1 w1 hb1 h1' hs1 B1 => Calls.mono (zInt_spec h0 h1) ?_)
  rintro en w2 ⟨h2, s1, rfl, r1⟩
  have hl : (digs B32 v.natAbs).length ≤ 2 := digs_length_le two32 (by rw [B32v]; omega)
  refine ⟨_, _, rfl, Calls.mono (dOf_spec r1 (by omega) he) ?_⟩
  rintro en w3 ⟨h3, s2, rfl, r2⟩
  exact ⟨_, _, _, rfl, ret3 ((B1.ahead h2).ahead h3) fun w' u _ => ⟨u.ahead ((h1'.trans h2).trans h3) (by omega), s2, rfl, u.rd _ _ r2⟩⟩
theorem dIs_spec {w : World} {neg : Bool} {s t : Slc} {x : Nat} {e : Int} (h : RN w s x) (ht : Rd .u64 w t (nn (digs B64 x))) (hl : (digs B64 x).length ≤ 2 ^ 44) :
    Calls pr surdref08_D_Is_id #[.agg (c3 neg s e), .bool neg, t.v, .int .i64 e] w fun en w' => Ahead w w' ∧ en = .returned (.bool true) := by
  refine surdref08_D_Is_vc neg s e neg t e w _ (newC_b fun b w1 hb h1 hs1 B1 => get2 B1 rfl rfl (Calls.mono (zIs_spec (h.ahead h1) (ht.ahead h1) hl) ?_))
  rintro en w2 ⟨h2, rfl⟩
  exact ⟨_, rfl, br_true rfl (ldI_b 2 (B1.ahead h2) rfl ⟨h1.trans h2, by simp⟩)⟩
theorem Fits_spec {w : World} {e : Int} : Calls pr surdref08_Fits_id #[.int .i64 e] w fun en w' => w' = w ∧ en = .returned (.bool (decide (wi e))) := by
  refine surdref08_Fits_vc e w _ (br_intro (fun h => ⟨rfl, ?_⟩) (fun h => ⟨rfl, ?_⟩))
  · have h1 : -1099511627776 ≤ e := by simpa using h
    congr 2
    simp [wi, h1]
  · have h1 : ¬ -1099511627776 ≤ e := by simpa using h
    congr 2
    simp [wi, h1]
/-- Told, of a dyadic in lowest terms. -/
def tK (n : Nat) (e : Int) : Int := if 67108864 < bl n then 3 else if wi e then 0 else 80
theorem dTold_spec {w : World} {neg : Bool} {s : Slc} {n : Nat} {e : Int} (h : RN w s n) (hl : (digs B32 n).length ≤ 2 ^ 46) :
    Calls pr surdref08_Told_id #[.agg (c3 neg s e)] w fun en w' => Ahead w w' ∧ ∃ x s' e', en = .returned (.tuple #[.agg (c3 x s' e'), .int .i64 (tK n e)]) ∧ (tK n e = 0 → x = neg ∧ e' = e ∧ RN w' s' n) := by
  refine surdref08_Told_vc neg s e w _ (newC_b fun b1 w1 hb1 h1 hs1 B1 => newC_b fun b2 w2 hb2 h2 hs2 B2 => ?_)
  have h12 := h1.trans h2
  have hb : w.heap.size ≤ b2 := by have := h1.size; omega
  refine ldS_b 1 (B1.ahead h2) rfl (Calls.mono (Len_spec (h.ahead h12) hl) ?_)
  rintro en w3 ⟨rfl, rfl⟩
  refine ⟨_, rfl, br_intro (fun hg => ?_) (fun hg => ?_)⟩
  · have hc : tK n e = 3 := if_pos (by simp at hg; omega)
    rw [hc]
    exact ret3 B2 fun w' u _ => ⟨u.ahead h12 hb, _, _, _, rfl, fun h => by omega⟩
  · refine ldI_b 2 (B1.ahead h2) rfl (Calls.mono Fits_spec ?_)
    rintro en w7 ⟨rfl, rfl⟩
    refine ⟨_, rfl, br_intro (fun hw => ?_) (fun hw => ?_)⟩
    · have hc : tK n e = 80 := by rw [tK, if_neg (by simp at hg; omega), if_neg (by simpa using hw)]
      rw [hc]
      exact ret3 B2 fun w' u _ => ⟨u.ahead h12 hb, _, _, _, rfl, fun h => by omega⟩
    · have hc : tK n e = 0 := by rw [tK, if_neg (by simp at hg; omega), if_pos (by simpa using hw)]
      rw [hc]
      exact get3 (B1.ahead h2) (ret3 B2 fun w' u _ => ⟨u.ahead h12 hb, _, _, _, rfl, fun _ => ⟨rfl, rfl, u.rd _ _ (h.ahead h12)⟩⟩)
theorem tK_bl {n : Nat} {e : Int} (h : tK n e = 0) : bl n ≤ 67108864 := by
  unfold tK at h
  split at h
  · omega
  · omega

theorem num_spec {w : World} {c : Int} : Calls pr surdlaw08_num_id #[.int .i64 c] w fun e w' => w' = w ∧ e = .returned (.int .i64 c) :=
  surdlaw08_num_vc c w _ ⟨rfl, rfl⟩

theorem awake_spec {w : World} (hT : Tab w) : Calls pr surdlaw08_awake_id #[] w (Yes w) := by
  have hB := B64v
  refine surdlaw08_awake_vc w _ (newC_b fun b1 w1 hb1 h1 hs1 B1 => ?_)
  have hrd : Rd .u64 w1 ⟨some ⟨b1, 0, none⟩, 1, 1⟩ (nn [12]) := by
    obtain ⟨t, hm⟩ := B1
    exact ⟨rfl, Nat.le_refl _, fun i hi => ⟨_, rfl, by
      have : i = 0 := by simpa using hi
      subst this
      simp [World.cell?, Addr.add, hm, nn]⟩⟩
  have hnum : Num w1 ⟨some ⟨b1, 0, none⟩, 1, 1⟩ 12 := ⟨[12], hrd, by simp, fun z hz => by simp at hz; omega, by simp [val]⟩
  refine Calls.mono (Make_spec (e := -3) (hT.ahead h1) hnum) ?_
  have htz : tz 12 = 2 := tz_eq (k := 2) (m := 1) rfl
  have hod : od 12 = 3 := by rw [od, htz]
  have hwi : wi (-3) := by unfold wi; omega
  have htc : tC 12 (-3) = 0 := by
    have : bl 3 ≤ 2 := bl_le (by omega)
    rw [tC, hod, if_neg (by omega), if_pos (by rw [eD, if_neg (by omega), htz]; unfold wi; omega)]
  rw [if_pos hwi, htc]
  rintro en w2 ⟨h2, s1, rfl, o1⟩
  rw [if_pos rfl, hod] at o1
  have hnD : nD false 12 = false := rfl
  have heD : eD 12 (-3) = -1 := by rw [eD, if_neg (by omega), htz]; rfl
  rw [if_pos rfl, if_pos rfl, hnD, heD]
  refine ⟨_, _, _, _, rfl, newC_b fun b2 w3 hb2 h3 hs3 B2 => set3 B2 fun w6 u C2 => ?_⟩
  have h06 : Ahead w w6 := u.ahead ((h1.trans h2).trans h3) (by have := (h1.trans h2).size; omega)
  have hd := Ahead.drew w6
  refine Calls.mono num_spec ?_
  rintro en w7 ⟨rfl, rfl⟩
  refine ⟨_, rfl, Ahead.refl _, br_true rfl (get3 (C2.ahead hd) (Calls.mono (dInt_spec (v := 3) (e := -1) (by omega) (by omega) (by omega)) ?_))⟩
  rintro en w8 ⟨h8, s3, rfl, r3⟩
  have o3 : od (3 : Int).natAbs = 3 := od_of_odd rfl
  have t3 : tz 3 = 0 := tz_odd rfl
  have n3 : nD (decide ((3 : Int) < 0)) (3 : Int).natAbs = false := rfl
  have e3 : eD (3 : Int).natAbs (-1) = -1 := by show eD 3 (-1) = -1; rw [eD, if_neg (by omega), t3]; rfl
  rw [o3] at r3
  rw [n3, e3]
  have o6 := u.own2 o1 h3 (by omega)
  have hl : (digs B64 3).length ≤ 1 := digs_length_le two64 (by rw [B64v]; omega)
  refine ⟨_, _, _, rfl, h8, Calls.mono (dIs_spec r3 ((o6.ahead hd).ahead h8).rd (by omega)) ?_⟩
  rintro en w9 ⟨h9, rfl⟩
  exact ⟨_, rfl, h9, rfl, ((h06.trans hd).trans h8).trans h9⟩

end Dy
end Go.Proofs.YthhbjhdnaopcnaaDoor
namespace Go.Proofs.YthhbjhdnaopcnaaDoor
open Go Go.RowKit Eng Sp Dg
set_option linter.unusedVariables false
set_option linter.unusedSimpArgs false
namespace L2

/-- Types of rows: no local variable's block has such a type. -/
def rowTy (t : TypeId) : Bool := t == tU64 || t == tInt || t == tU64s || t == tInts
def noU (cs : Array Value) : Bool := cs.toList.all fun v => match v with
  | .int .u64 _ => false
  | _ => true
/-- The block's cells. -/
def Blt (w : World) (b : Nat) (t : TypeId) (cs : Array Value) : Prop := w.heap[b]? = some (Obj.cells cs t (0, 0))
/-- Rows of numbers stay, and every limb. -/
structure Ext (w w' : World) : Prop where
  size : w.heap.size ≤ w'.heap.size
  row : ∀ (k : Nat) (cs : Array Value) (t : TypeId) (m : Nat × Nat), w.heap[k]? = some (Obj.cells cs t m) → rowTy t = true → w'.heap[k]? = some (Obj.cells cs t m)
  cell : ∀ (ad : Addr) (x : Int), w.cell? ad = some (.int .u64 x) → w'.cell? ad = some (.int .u64 x)
theorem Ext.refl (w : World) : Ext w w := ⟨Nat.le_refl _, fun _ _ _ _ h _ => h, fun _ _ h => h⟩
theorem Ext.trans {a b c : World} (h : Ext a b) (k : Ext b c) : Ext a c :=
  ⟨Nat.le_trans h.size k.size, fun i cs t m hi ht => k.row i cs t m (h.row i cs t m hi ht) ht, fun ad x hx => k.cell ad x (h.cell ad x hx)⟩
theorem Ext.of_ahead {a b : World} (h : Ahead a b) : Ext a b :=
  ⟨h.size, fun k cs t m hk _ => by rw [Below.block h k (Array.getElem?_eq_some_iff.1 hk).1]; exact hk, fun ad x hx => h.cell hx⟩
theorem _root_.Go.Proofs.YthhbjhdnaopcnaaDoor.Eng.Ahead.ext {a b : World} (h : Ahead a b) : Ext a b := Ext.of_ahead h

theorem Blt.lt {w : World} {b : Nat} {t : TypeId} {cs : Array Value} (h : Blt w b t cs) : b < w.heap.size := (Array.getElem?_eq_some_iff.1 h).1
theorem Blt.ahead {w w' : World} {b : Nat} {t : TypeId} {cs : Array Value} (h : Blt w b t cs) (ha : Ahead w w') : Blt w' b t cs := by
  unfold Blt; rw [Below.block ha b h.lt]; exact h
theorem Blt.bar {V : Nat → Prop} {w w' : World} {b : Nat} {t : TypeId} {cs : Array Value} (h : Blt w b t cs) (hb : Bar V w w') (hv : ¬ V b) : Blt w' b t cs := by
  unfold Blt; rw [hb.block b h.lt hv]; exact h
theorem Blt.cell {w : World} {b i : Nat} {t : TypeId} {cs : Array Value} {v : Value} (h : Blt w b t cs) (hc : cs[i]? = some v) : w.cell? ⟨b, i, none⟩ = some v := by
  unfold Blt at h
  simp [World.cell?, h, hc]

theorem newC_t {w : World} {cs : Array Value} {t : TypeId} {K : Addr → World → Prop} (h : ∀ b w', b = w.heap.size → Ahead w w' → w'.heap.size = b + 1 → Blt w' b t cs → K ⟨b, 0, none⟩ w') : newC w cs t K :=
  h _ _ rfl (Ahead.alloc _ _) (size_alloc _ _) (get_alloc _ _)
theorem newC_map {w : World} {cs : Array Value} {t : TypeId} {K K' : Addr → World → Prop} (h : newC w cs t K) (hk : ∀ ad w', Ahead w w' → K ad w' → K' ad w') : newC w cs t K' :=
  hk _ _ (Ahead.alloc _ _) h

/-- Nothing but the block has changed; it holds no limb, before and behind. -/
structure Upt (b : Nat) (w w' : World) : Prop where
  os : w'.os = w.os
  tape : w'.tape = w.tape
  output : w'.output = w.output
  size : w'.heap.size = w.heap.size
  block : ∀ k, k ≠ b → w'.heap[k]? = w.heap[k]?
  ext : Ext w w'
theorem Upt.trans {b : Nat} {x y z : World} (h : Upt b x y) (k : Upt b y z) : Upt b x z :=
  ⟨k.os.trans h.os, k.tape.trans h.tape, k.output.trans h.output, k.size.trans h.size, fun i hi => (k.block i hi).trans (h.block i hi), h.ext.trans k.ext⟩
theorem Upt.ahead {b : Nat} {w0 w w' : World} (h : Upt b w w') (ha : Ahead w0 w) (hb : w0.heap.size ≤ b) : Ahead w0 w' :=
  Below.trans ha ⟨h.os, h.tape, h.output, Nat.le_of_eq h.size.symm, fun k hk => h.block k (by omega)⟩
theorem Upt.blt {b k : Nat} {w w' : World} {t : TypeId} {cs : Array Value} (h : Upt k w w') (hr : Blt w b t cs) (hne : b ≠ k) : Blt w' b t cs := by
  unfold Blt; rw [h.block b hne]; exact hr
theorem Upt.bar {b : Nat} {V : Nat → Prop} {w w' : World} (h : Upt b w w') (hv : V b) : Bar V w w' :=
  ⟨h.os, h.tape, h.output, Nat.le_of_eq h.size.symm, fun k _ hk => h.block k fun e => hk (e ▸ hv)⟩

theorem no_limb {w : World} {b : Nat} {t : TypeId} {cs : Array Value} (h : Blt w b t cs) (hn : noU cs = true) (ad : Addr) (x : Int) (hc : w.cell? ad = some (.int .u64 x)) : ad.block ≠ b := by
  intro hb
  unfold Blt at h
  rw [World.cell?, hb, h] at hc
  simp only at hc
  split at hc
  · cases hc
  · have hm := Array.mem_of_getElem? hc
    unfold noU at hn
    have := List.all_eq_true.1 hn _ (Array.mem_toList_iff.2 hm)
    simp at this

theorem stC_t (i : Nat) {w : World} {b : Nat} {t : TypeId} {cs : Array Value} {ad : Addr} {v : Value} {K : World → Prop} (h : Blt w b t cs) (hi : Nat.blt i cs.size = true) (hn : noU cs = true) (ht : rowTy t = false)
    (hk : ∀ w', Upt b w w' → Blt w' b t (cs.setIfInBounds i v) → K w') (hA : ad = ⟨b, i, none⟩ := by first | rfl | exact add_off) : stC ad v w K := by
  subst hA
  have hi' : i < cs.size := by simpa [Nat.blt_eq] using hi
  have hh : w.heap[b]? = some (Obj.cells cs t (0, 0)) := h
  have hlt := (Array.getElem?_eq_some_iff.1 hh).1
  have hget := (Array.getElem?_eq_some_iff.1 hh).2
  have hblk : ∀ k, k ≠ b → (w.setCell ⟨b, i, none⟩ v).heap[k]? = w.heap[k]? := fun k hk => Below.heap_setCell _ _ _ _ hk
  refine ⟨⟨cs[i], by simp [World.cell?, hh, hi']⟩, by simp [World.frozen?, hh], hk _ ⟨rfl, rfl, rfl, by simp [World.setCell], hblk, ⟨by simp [World.setCell], fun k cs' t' m hk' ht' => ?_, fun ad x hx => ?_⟩⟩ ?_⟩
  · by_cases e : k = b
    · subst e
      rw [hh] at hk'
      have := Option.some.inj hk'
      injection this with h1 h2 h3
      subst h2
      rw [ht] at ht'
      cases ht'
    · rw [hblk k e]; exact hk'
  · have hne := no_limb h hn ad x hx
    rw [World.cell?_of_block (hblk _ hne)]; exact hx
  · unfold Blt
    simp [World.setCell, Array.getElem?_modify, hh]

theorem ldB_t (i : Nat) {w : World} {b : Nat} {t : TypeId} {cs : Array Value} {ad : Addr} {x : Bool} {K : Bool → Prop} (h : Blt w b t cs) (hc : cs[i]? = some (.bool x)) (hk : K x) (hA : ad = ⟨b, i, none⟩ := by first | rfl | exact add_off) : ldB ad w K := by
  subst hA; exact ⟨x, h.cell hc, hk⟩
theorem ldS_t (i : Nat) {w : World} {b : Nat} {t : TypeId} {cs : Array Value} {ad : Addr} {x : Slc} {K : Slc → Prop} (h : Blt w b t cs) (hc : cs[i]? = some x.v) (hk : K x) (hA : ad = ⟨b, i, none⟩ := by first | rfl | exact add_off) : ldS ad w K := by
  subst hA; exact ⟨x, h.cell hc, hk⟩
theorem ldI_t (i : Nat) {w : World} {b : Nat} {t : TypeId} {cs : Array Value} {ad : Addr} {k : IntKind} {x : Int} {K : Int → Prop} (h : Blt w b t cs) (hc : cs[i]? = some (.int k x)) (hk : K x) (hA : ad = ⟨b, i, none⟩ := by first | rfl | exact add_off) : ldI k ad w K := by
  subst hA; exact ⟨x, h.cell hc, hk⟩

theorem out_t {V : Nat → Prop} {ad : Addr} {b i : Nat} {p : Prop} (hA : ad = ⟨b, i, none⟩) (hv : ¬ V b) (h : p) : Out V ad p := by subst hA; exact ⟨hv, h⟩
theorem br_map {b : Bool} {X Y X' Y' : Prop} (h : br b X Y) (hx : X → X') (hy : Y → Y') : br b X' Y' := by cases b; exact hy h; exact hx h
section
variable {P : Program} {e : Sem Value} {w : World}
end

/-- The block is no local variable's. -/
def NoLoc (w : World) (k : Nat) : Prop := ∀ (t : TypeId) (cs : Array Value), w.heap[k]? = some (Obj.cells cs t (0, 0)) → rowTy t = false → False
theorem bar_ahead2 {V : Nat → Prop} {w0 w w' : World} (h : Ahead w0 w) (hb : Bar V w w') (hv : ∀ k, V k → w0.heap.size ≤ k) : Ahead w0 w' :=
  ⟨hb.os.trans h.os, hb.tape.trans h.tape, hb.output.trans h.output, Nat.le_trans h.size hb.size, fun k hk => (hb.block k (Nat.lt_of_lt_of_le hk h.size) (fun h1 => by have := hv k h1; omega)).trans (Below.block h k hk)⟩

/-- A step that writes over rows of the call's own (the document's Own). -/
def OwnStep (w0 w w' : World) : Prop := ∃ V : Nat → Prop, Bar V w w' ∧ ∀ k, V k → w0.heap.size ≤ k ∧ NoLoc w k

theorem _root_.Go.Proofs.YthhbjhdnaopcnaaDoor.Sp.Rd.ext {w w' : World} {s : Slc} {l : List Int} (h : Rd .u64 w s l) (x : Ext w w') : Rd .u64 w' s l :=
  ⟨h.n, h.c, fun i hi => by obtain ⟨ad, e, hc⟩ := h.get i hi; exact ⟨ad, e, x.cell _ _ hc⟩⟩
theorem _root_.Go.Proofs.YthhbjhdnaopcnaaDoor.Sp.Own.ext {k : IntKind} {t : TypeId} {w w' : World} {s : Slc} {l : List Int} {b : Nat} (h : Own k t w s l b) (x : Ext w w') (ht : rowTy t = true := by rfl) : Own k t w' s l b := by
  obtain ⟨sp, h1, h2⟩ := h.mem
  exact ⟨h.hd, sp, h1, x.row _ _ _ _ h2 ht⟩

end L2
end Go.Proofs.YthhbjhdnaopcnaaDoor
namespace Go.Proofs.YthhbjhdnaopcnaaDoor
open Go Go.RowKit Eng Sp Dg
set_option linter.unusedVariables false
set_option linter.unusedSimpArgs false
set_option maxRecDepth 100000
namespace Ref
open _root_.Go.Proofs.YthhbjhdnaopcnaaDoor.Nat (ldN OwnNil)

def isRw (P : Program) (t : TypeId) : Bool := match P.underlying t with
  | some (.slice e) => match P.info? e with
    | some i => i.size == 1
    | none => false
  | _ => false
theorem run_indexAtG {P : Program} {t : TypeId} (hT : isRw P t = true) (w : World) (s : Slc) (i : Int) (ad : Addr) (hA : s.A = some ad) (h0 : 0 ≤ i) (h1 : i < s.n) :
    (Instr.indexAt t s.v (.int .i64 i)).run P w = .ok (.pointer (some (ad.add i.toNat))) w := by
  unfold isRw at hT
  split at hT
  · rename_i e hu
    split at hT
    · rename_i inf hi
      have hs : inf.size = 1 := by simpa using hT
      obtain ⟨A, n, c⟩ := s
      simp only at hA h1
      subst hA
      simp only [Instr.indexAt, asIntOf, Slc.v, underlying, program, Sem.run_bind, Sem.run, Result.andThen, hu, Sem.run_pure]
      simp [h0, h1, sizeOf, typeInfo, program, Sem.run, hi, hs, hu]
    · cases hT
  · cases hT

/-- The slice's row lies in this block. -/
def Bk (s : Slc) (k : Nat) : Prop := s.A = some ⟨k, 0, none⟩
def upd {α : Type} (f : Nat → α) (i : Nat) (x : α) : Nat → α := fun j => if j = i then x else f j

/-- The state of a call of Own: the lists lie apart, in memory from base on; their heads stand in the block ab. -/
structure St (V : Nat → Prop) (base : Nat) (w0 : World) (ab n : Nat) (w : World) (S : Nat → Slc) (L : Nat → List Nat) : Prop where
  low : Below base w0 w
  hab : base ≤ ab
  hsz : base ≤ w.heap.size
  row : w.heap[ab]? = some (.cells ((List.range n).map fun j => (S j).v).toArray tU64s (0, 0))
  own : ∀ j, j < n → OwnNil base w (S j) (L j)
  nab : ∀ j, j < n → ¬ Bk (S j) ab
  apart : ∀ i j k, i < n → j < n → i ≠ j → Bk (S i) k → ¬ Bk (S j) k
  keepV : ∀ k, k < w0.heap.size → ¬ V k → w.heap[k]? = w0.heap[k]?
  vab : V ab
  vbig : ∀ k, w0.heap.size ≤ k → V k
  vS : ∀ j k, j < n → Bk (S j) k → V k

theorem St.ablt {V : Nat → Prop} {base : Nat} {w0 : World} {ab n : Nat} {w : World} {S : Nat → Slc} {L : Nat → List Nat} (h : St V base w0 ab n w S L) : ab < w.heap.size := (Array.getElem?_eq_some_iff.1 h.row).1

theorem OwnNil.block {base : Nat} {w w' : World} {s : Slc} {l : List Nat} (h : OwnNil base w s l) (hb : ∀ k, k < w.heap.size → Bk s k → w'.heap[k]? = w.heap[k]?) : OwnNil base w' s l := by
  rcases h with h | ⟨b, h1, h2, h3⟩
  · exact .inl h
  · refine .inr ⟨b, h1, h2, h3.hd, ?_⟩
    obtain ⟨sp, hc, hm⟩ := h3.mem
    exact ⟨sp, hc, by rw [hb b h3.lt h3.A]; exact hm⟩

theorem St.alloc {V : Nat → Prop} {base : Nat} {w0 : World} {ab n : Nat} {w : World} {S : Nat → Slc} {L : Nat → List Nat} (h : St V base w0 ab n w S L) (o : Obj) : St V base w0 ab n (w.alloc o) S L where
  low := Below.alloc h.low h.hsz o
  hab := h.hab
  hsz := by rw [size_alloc]; have := h.hsz; omega
  row := by rw [Below.heap_alloc _ _ _ h.ablt]; exact h.row
  own := fun j hj => OwnNil.block (h.own j hj) fun k hk _ => Below.heap_alloc _ _ _ hk
  nab := h.nab
  apart := h.apart
  keepV := fun k hk hv => by rw [Below.heap_alloc _ _ _ (Nat.lt_of_lt_of_le hk h.low.size)]; exact h.keepV k hk hv
  vab := h.vab
  vbig := h.vbig
  vS := h.vS

theorem St.ld {V : Nat → Prop} {base : Nat} {w0 : World} {ab n : Nat} {w : World} {S : Nat → Slc} {L : Nat → List Nat} (h : St V base w0 ab n w S L) {t : TypeId} (hT : isRw pr t = true) {i : Nat} (hi : i < n) {K : Slc → World → Prop} (hk : K (S i) w) :
    semA pr (Instr.indexAt t (Slc.v ⟨some ⟨ab, 0, none⟩, n, n⟩) (.int .i64 (i : Int))) w fun ad w1 => ldS ad w1 fun s => K s w1 := by
  unfold semA
  rw [Sem.wp_iff_run, run_indexAtG hT w ⟨some ⟨ab, 0, none⟩, n, n⟩ i ⟨ab, 0, none⟩ rfl (by omega) (by simp; omega), add_off]
  refine ⟨_, rfl, S i, ?_, hk⟩
  simp [World.cell?, h.row, hi]

/-- A number is written into one of the lists. -/
theorem St.st {V : Nat → Prop} {base : Nat} {w0 : World} {ab n : Nat} {w : World} {S : Nat → Slc} {L : Nat → List Nat} (h : St V base w0 ab n w S L) {t : TypeId} (hT : isSl pr t .u64 = some tU64) {i k : Nat} (hi : i < n) (hk : k < (L i).length) {x : Nat} {K : World → Prop}
    (hK : ∀ w', St V base w0 ab n w' S (upd L i ((L i).set k x)) → K w') :
    semA pr (Instr.indexAt t (S i).v (.int .i64 (k : Int))) w fun ad w1 => stC ad (.int .u64 (x : Int)) w1 fun w2 => K w2 := by
  rcases h.own i hi with ⟨_, hnil⟩ | ⟨b, hb, hc, ho⟩
  · rw [hnil] at hk; simp at hk
  · unfold semA
    rw [Sem.wp_iff_run, run_indexAt hT w (S i) k _ ho.A (by omega) (by rw [ho.n]; simpa using hk), add_off]
    refine ⟨_, rfl, ⟨_, ho.cell (by simpa using hk)⟩, ho.frozen _, hK _ ?_⟩
    have hbab : b ≠ ab := fun e => h.nab i hi (by rw [← e]; exact ho.A)
    refine ⟨Below.setCell h.low hb _, h.hab, by simpa [World.setCell] using h.hsz, ?_, ?_, h.nab, h.apart, ?_, h.vab, h.vbig, h.vS⟩
    · rw [Below.heap_setCell _ _ _ _ (by simpa using fun e => hbab e.symm)]; exact h.row
    · intro j hj
      unfold upd
      split
      · rename_i hji
        subst hji
        refine .inr ⟨b, hb, hc, ?_⟩
        have := ho.set (i := k) (by simpa using hk) (x : Int)
        rw [nn_set] at this
        exact this
      · rename_i hji
        refine OwnNil.block (h.own j hj) fun m hm hbm => Below.heap_setCell _ _ _ _ ?_
        intro e
        subst e
        exact h.apart i j _ hi hj (fun e => hji e.symm) ho.A hbm
    · intro m hm hv
      rw [Below.heap_setCell _ _ _ _ (by intro e; subst e; exact hv (h.vS i _ hi ho.A))]
      exact h.keepV m hm hv

/-- One of the lists grows, and its new head is stored. -/
theorem St.app {V : Nat → Prop} {base : Nat} {w0 : World} {ab n : Nat} {w : World} {S : Nat → Slc} {L : Nat → List Nat} (h : St V base w0 ab n w S L) {t ty t2 : TypeId} (hT : isSl pr t .u64 = some tU64) (hT2 : isRw pr t2 = true) {i : Nat} (hi : i < n) {x : Slc} {ys : List Nat}
    (hx : Rd .u64 w x (nn ys)) (hy : 0 < ys.length) (hsz : ((L i).length + ys.length) * 8 ≤ 2 ^ 47) {K : World → Prop}
    (hK : ∀ w' s', St V base w0 ab n w' (upd S i s') (upd L i (L i ++ ys)) → K w') :
    semS pr (Builtin.append_ #[t, t] ty #[(S i).v, x.v]) w fun s3 w6 => semA pr (Instr.indexAt t2 (Slc.v ⟨some ⟨ab, 0, none⟩, n, n⟩) (.int .i64 (i : Int))) w6 fun ad w7 => stC ad s3.v w7 fun w8 => K w8 := by
  obtain ⟨hu, he, inf, hinf, hs1, hb8, hz⟩ := isSl_out hT
  obtain ⟨ad, hA, _⟩ := hx.get 0 (by simpa using hy)
  have hrow : w.ownsRow base tU64 1 (S i).v (L i).length (ints .u64 (nn (L i))) := by
    rcases h.own i hi with ⟨h1, h2⟩ | ⟨b, h1, h2, h3⟩
    · rw [h1, h2]; exact ⟨rfl, .inl ⟨rfl, rfl⟩⟩
    · have := h3.ownsRow h1 h2
      rw [nn_length] at this
      exact this
  obtain ⟨v', w', hr, ho, hg, hn, hblk⟩ := run_append_own_at (P := pr) (ty := ty) w base t tU64 inf (.int .u64 0) 1 8 hu hinf hz hs1 hb8 rfl (by omega) (S i).v (L i).length (ints .u64 (nn (L i))) hrow ad ys.length x.c (ints .u64 (nn ys)) (by simp [ints])
    (fun j u hj => by
      have hj' : j < (nn ys).length := by
        have := (List.getElem?_eq_some_iff.1 hj).1
        simpa [ints] using this
      obtain ⟨ad', e', hc⟩ := hx.get j hj'
      rw [hA] at e'
      obtain rfl := Option.some.inj e'
      rw [ints_get hj'] at hj
      obtain rfl := Option.some.inj hj
      exact hc) (by simp [ints, Value.oneCell']) (by unfold maxLen; omega) (by omega) h.hsz
  have hne : v' ≠ .slice none 0 0 := fun e => by have := hn.1 e; omega
  have ho' : w'.ownsRow base tU64 1 v' (nn (L i ++ ys)).length (ints .u64 (nn (L i ++ ys))) := by
    simp only [ints, nn_append, List.map_append, List.length_append, nn_length]; exact ho
  obtain ⟨s', b', rfl, hb', hc', hown⟩ := own_of_row ho' hne
  unfold semS
  have hxv : x.v = .slice (some ad) ys.length x.c := by rw [Slc.v, hA, hx.n, nn_length]
  rw [Sem.wp_iff_run, hxv, hr]
  refine ⟨s', rfl, ?_⟩
  -- which blocks changed
  have hob : ∀ k, (S i).v.ownBlock = some k → Bk (S i) k ∧ base ≤ k := by
    intro k hk
    rcases h.own i hi with ⟨h1, _⟩ | ⟨b, h1, _, h3⟩
    · rw [h1] at hk; simp [Slc.v, Value.ownBlock] at hk
    · rw [Slc.v, h3.A] at hk
      simp [Value.ownBlock] at hk
      subst hk
      exact ⟨h3.A, h1⟩
  have keep : ∀ k, k < w.heap.size → ¬ Bk (S i) k → w'.heap[k]? = w.heap[k]? := fun k hk hb => hg.block k hk fun e => hb (hob k e.symm).1
  have hlow : Below base w w' := Below.grown (Below.refl _ _) hg h.hsz fun k hk => (hob k hk).2
  have hab' : w'.heap[ab]? = some (.cells ((List.range n).map fun j => (S j).v).toArray tU64s (0, 0)) := by rw [keep ab h.ablt (h.nab i hi)]; exact h.row
  have hbnew : Bk s' b' := hown.A
  have hb2 : Bk (S i) b' ∨ b' = w.heap.size := by
    have e : s'.v.ownBlock = some b' := by rw [Slc.v, hown.A]; rfl
    rcases hblk with h1 | h1
    · exact .inl (hob b' (by rw [← h1]; exact e)).1
    · right
      rw [e] at h1
      exact Option.some.inj h1
  have hablt := h.ablt
  have hbab : b' ≠ ab := by
    rintro rfl
    rcases hb2 with h1 | h1
    · exact h.nab i hi h1
    · omega
  show semA pr (Instr.indexAt t2 (Slc.v ⟨some ⟨ab, 0, none⟩, n, n⟩) (.int .i64 (i : Int))) w' fun ad w7 => stC ad s'.v w7 fun w8 => K w8
  unfold semA
  rw [Sem.wp_iff_run, run_indexAtG hT2 w' ⟨some ⟨ab, 0, none⟩, n, n⟩ i ⟨ab, 0, none⟩ rfl (by omega) (by simp; omega), add_off]
  refine ⟨_, rfl, ⟨(S i).v, by simp [World.cell?, hab', hi]⟩, by simp [World.frozen?, hab'], hK _ s' ?_⟩
  have hset : ∀ k, k ≠ ab → (w'.setCell ⟨ab, i, none⟩ s'.v).heap[k]? = w'.heap[k]? := fun k hk => Below.heap_setCell _ _ _ _ (by simpa using hk)
  refine ⟨Below.setCell (Below.trans h.low hlow) h.hab _, h.hab, ?_, ?_, ?_, ?_, ?_, ?_, h.vab, h.vbig, ?_⟩
  · have := h.hsz; have := hg.size; simp [World.setCell]; omega
  · have hlt : ab < w'.heap.size := (Array.getElem?_eq_some_iff.1 hab').1
    simp only [World.setCell]
    rw [Array.getElem?_modify, if_pos rfl, hab']
    simp only [Option.map_some, Option.some.injEq]
    congr 1
    apply Array.ext
    · simp
    · intro k hk1 hk2
      have hk : k < n := by simpa using hk2
      by_cases hki : k = i
      · subst hki; simp [upd]
      · simp [upd, hki, Ne.symm hki, Array.getElem_set, Array.getElem_setIfInBounds]
  · intro j hj
    unfold upd
    split
    · rename_i hji
      subst hji
      refine .inr ⟨b', hb', hc', hown.hd, ?_⟩
      obtain ⟨sp, h1, h2⟩ := hown.mem
      exact ⟨sp, h1, (hset _ hbab).trans h2⟩
    · rename_i hji
      refine OwnNil.block (OwnNil.block (h.own j hj) fun k hk hbk => keep k hk fun e => h.apart i j k hi hj (fun e => hji e.symm) e hbk) fun k hk hbk => hset k ?_
      rintro rfl
      exact h.nab j hj hbk
  · intro j hj
    unfold upd
    split
    · intro e
      exact hbab (congrArg Addr.block (Option.some.inj (hbnew.symm.trans e)))
    · exact h.nab j hj
  · intro a c k ha hc hac
    unfold upd
    have only : ∀ j, j < n → j ≠ i → ∀ k, Bk (S j) k → Bk s' k → False := by
      intro j hj hji k h1 h2
      have : b' = k := congrArg Addr.block (Option.some.inj (hbnew.symm.trans h2))
      subst this
      rcases hb2 with h4 | h4
      · exact h.apart i j _ hi hj (fun e => hji e.symm) h4 h1
      · rcases h.own j hj with ⟨h5, _⟩ | ⟨b, _, _, h5⟩
        · rw [h5] at h1; simp [Bk] at h1
        · have h6 : b = b' := congrArg Addr.block (Option.some.inj (h5.A.symm.trans h1))
          have := h5.lt
          omega
    split
    · rename_i hai
      subst hai
      split
      · rename_i hci; exact absurd hci.symm hac
      · rename_i hci
        intro h1 h2
        exact only c hc hci k h2 h1
    · rename_i hai
      split
      · intro h1 h2
        exact only a ha hai k h1 h2
      · exact h.apart a c k ha hc hac
  · intro k hk hv
    have hkw := Nat.lt_of_lt_of_le hk h.low.size
    exact (Below.heap_setCell _ _ _ _ (by simpa using fun e => hv (by rw [e]; exact h.vab))).trans ((keep k hkw (fun e => hv (h.vS i k hi e))).trans (h.keepV k hk hv))
  · intro j k hj
    unfold upd
    split
    · intro e
      have : b' = k := congrArg Addr.block (Option.some.inj (hbnew.symm.trans e))
      subst this
      rcases hb2 with h1 | h1
      · exact h.vS i _ hi h1
      · exact h.vbig _ (by have := h.low.size; omega)
    · exact h.vS j k hj

/-- What Own writes into a list, and what it appends. -/
def fil (L : Nat → List Nat) (j : Nat) : List Nat := List.replicate (L j).length (j % 251 + 1)
def tl (j : Nat) : List Nat := [300 + 5 * j, 300 + 5 * j + 1, 300 + 5 * j + 2, 300 + 5 * j + 3, 300 + 5 * j + 4]
theorem upd_same {α : Type} (f : Nat → α) (i : Nat) (x : α) : upd f i x i = x := if_pos rfl
theorem upd_upd {α : Type} (f : Nat → α) (i : Nat) (x y : α) : upd (upd f i x) i y = upd f i y := by
  funext j; unfold upd; split <;> rfl
theorem upd_self {α : Type} (f : Nat → α) (i : Nat) : upd f i (f i) = f := by
  funext j; unfold upd; split
  · rename_i h; rw [h]
  · rfl
theorem tl_getD (i k : Nat) (h : k < 5) : (tl i).getD k 0 = 300 + 5 * i + k := by
  have : k = 0 ∨ k = 1 ∨ k = 2 ∨ k = 3 ∨ k = 4 := by omega
  rcases this with rfl | rfl | rfl | rfl | rfl <;> rfl

theorem St.congr {V : Nat → Prop} {base : Nat} {w0 : World} {ab n : Nat} {w : World} {S : Nat → Slc} {L L' : Nat → List Nat} (h : St V base w0 ab n w S L) (e : ∀ j, j < n → L j = L' j) : St V base w0 ab n w S L' :=
  ⟨h.low, h.hab, h.hsz, h.row, fun j hj => by rw [← e j hj]; exact h.own j hj, h.nab, h.apart, h.keepV, h.vab, h.vbig, h.vS⟩
theorem fil_getD (L : Nat → List Nat) (i k : Nat) : (fil L i ++ tl i).getD k 0 = if k < (L i).length then i % 251 + 1 else if k < (L i).length + 5 then 300 + 5 * i + (k - (L i).length) else 0 := by
  by_cases h : k < (L i).length
  · rw [if_pos h]
    simp [fil, List.getD_eq_getElem?_getD, List.getElem?_append, h]
  · rw [if_neg h]
    have e : (fil L i ++ tl i).getD k 0 = (tl i).getD (k - (L i).length) 0 := by
      simp [fil, List.getD_eq_getElem?_getD, List.getElem?_append, h]
    rw [e]
    by_cases h2 : k < (L i).length + 5
    · rw [if_pos h2]; exact tl_getD i _ (by omega)
    · rw [if_neg h2, getD_ge]; simp [tl]; omega

theorem Own_spec {V : Nat → Prop} {base : Nat} {w0 w : World} {ab n : Nat} {S : Nat → Slc} {L : Nat → List Nat} (h : St V base w0 ab n w S L) (hn : n ≤ 1000) (hL : ∀ j, j < n → ((L j).length + 5) * 8 ≤ 2 ^ 47) :
    Calls pr surdref01_Own_id #[Slc.v ⟨some ⟨ab, 0, none⟩, n, n⟩] w fun e w' => (Below base w0 w' ∧ ∀ k, k < w0.heap.size → ¬ V k → w'.heap[k]? = w0.heap[k]?) ∧ e = .returned (.bool true) := by
  have hB := B64v
  refine surdref01_Own_vc ⟨some ⟨ab, 0, none⟩, n, n⟩ w _
    (fun t0 t13 t14 t15 w' => t0 = ⟨some ⟨ab, 0, none⟩, n, n⟩ ∧ t13 = ⟨some ⟨ab, 0, none⟩, n, n⟩ ∧ t14 = (n : Int) ∧ ∃ i : Nat, t15 = (i : Int) ∧ i ≤ n ∧ St V base w0 ab n w' S (fun j => if j < i then fil L j else L j))
    (fun _ _ n i _ => (n - i).toNat)
    (fun o0 o13 o14 o15 ow t0 t3 t4 t13 t14 t15 t21 t22 w' => t0 = ⟨some ⟨ab, 0, none⟩, n, n⟩ ∧ t13 = ⟨some ⟨ab, 0, none⟩, n, n⟩ ∧ t14 = (n : Int) ∧ ∃ (i k : Nat) (R : List Nat), o15 = (i : Int) ∧ t3 = (i : Int) ∧ t15 = (i : Int) ∧ i < n ∧ t4 = S i ∧ t21 = ((L i).length : Int) ∧ t22 = (k : Int) ∧ k ≤ (L i).length ∧
      R.length = (L i).length ∧ (∀ m, m < k → R.getD m 0 = i % 251 + 1) ∧ St V base w0 ab n w' S (upd (fun j => if j < i then fil L j else L j) i R))
    (fun _ _ _ _ _ _ _ _ _ _ _ n k _ => (n - k).toNat)
    (fun t0 t34 t35 t36 w' => t0 = ⟨some ⟨ab, 0, none⟩, n, n⟩ ∧ t34 = ⟨some ⟨ab, 0, none⟩, n, n⟩ ∧ t35 = (n : Int) ∧ ∃ (i : Nat) (S' : Nat → Slc), t36 = (i : Int) ∧ i ≤ n ∧ St V base w0 ab n w' S' (fun j => if j < i then fil L j ++ tl j else fil L j))
    (fun _ _ n i _ => (n - i).toNat)
    (fun t62 t63 t64 w' => t62 = ⟨some ⟨ab, 0, none⟩, n, n⟩ ∧ t63 = (n : Int) ∧ ∃ (i : Nat) (S' : Nat → Slc), t64 = (i : Int) ∧ i ≤ n ∧ St V base w0 ab n w' S' (fun j => fil L j ++ tl j))
    (fun _ n i _ => (n - i).toNat)
    (fun o62 o63 o64 ow t9 t10 t62 t63 t64 t69 t70 t71 w' => t62 = ⟨some ⟨ab, 0, none⟩, n, n⟩ ∧ t63 = (n : Int) ∧ ∃ (i k : Nat) (S' : Nat → Slc), o64 = (i : Int) ∧ t9 = (i : Int) ∧ t64 = (i : Int) ∧ i < n ∧ t10 = S' i ∧ t69 = S' i ∧ t70 = ((L i).length + 5 : Nat) ∧ t71 = (k : Int) ∧ k ≤ (L i).length + 5 ∧ St V base w0 ab n w' S' (fun j => fil L j ++ tl j))
    (fun _ _ _ _ _ _ _ _ _ _ n k _ => (n - k).toNat) ?_ ?_ ?_ ?_ ?_ ?_
  · exact ⟨rfl, rfl, rfl, 0, rfl, Nat.zero_le _, by simpa using h⟩
  · rintro t0 t13 t14 t15 w1 ⟨rfl, rfl, rfl, i, rfl, hi, hst⟩
    refine br_intro (fun hlt => ?_) (fun hge => ?_)
    · have hi' : i < n := by simp at hlt; omega
      refine hst.ld (by kernel_rfl) hi' ?_
      have ho := (hst.own i hi').rd
      rw [if_neg (by omega)] at ho
      refine ⟨rfl, rfl, rfl, i, 0, L i, rfl, rfl, rfl, hi', rfl, by rw [ho.n, nn_length], rfl, Nat.zero_le _, rfl, fun m hm => by omega, ?_⟩
      have e : upd (fun j => if j < i then fil L j else L j) i (L i) = fun j => if j < i then fil L j else L j := by
        have := upd_self (fun j => if j < i then fil L j else L j) i
        rw [if_neg (by omega)] at this
        exact this
      rw [e]
      exact hst
    · have hi' : i = n := by simp at hge; omega
      subst hi'
      exact ⟨rfl, rfl, rfl, 0, S, rfl, Nat.zero_le _, hst.congr fun j hj => by rw [if_pos hj, if_neg (by omega)]⟩
  · rintro t0 t13 t14 t15 w1 _ t0' t3' t4' t13' t14' t15' t21' t22' w2 ⟨rfl, rfl, rfl, i, k, R, rfl, rfl, rfl, hi, rfl, rfl, rfl, hk, hR, hd, hst⟩
    have hLi := hL i hi
    refine br_intro (fun hlt => ?_) (fun hge => ?_)
    · have hk' : k < (L i).length := by simp at hlt; omega
      have e8 : IntKind.i64.wrap ((k : Int) + 1) = ((k + 1 : Nat) : Int) := by rw [wrap_i64 (by omega) (by omega)]; omega
      have e1 : IntKind.u64.wrap (IntKind.i64.wrap (Int.tmod (i : Int) 251 + 1)) = ((i % 251 + 1 : Nat) : Int) := by
        have : Int.tmod (i : Int) 251 = ((i % 251 : Nat) : Int) := by rw [Int.tmod_eq_emod_of_nonneg (by omega)]; omega
        rw [this, wrap_i64 (by omega) (by omega), wrap_u64' (by omega) (by omega)]; omega
      rw [e1]
      refine hst.st (by kernel_rfl) hi (by rw [upd_same]; omega) ?_
      intro w3 hst3
      rw [upd_same, upd_upd] at hst3
      refine ⟨⟨rfl, rfl, rfl, i, k + 1, R.set k (i % 251 + 1), rfl, rfl, rfl, hi, rfl, rfl, e8, hk', by simpa using hR, fun m hm => ?_, hst3⟩, by rw [e8]; omega⟩
      rw [getD_set _ _ _ _ (by omega)]
      split
      · rfl
      · exact hd m (by omega)
    · have hk' : k = (L i).length := by simp at hge; omega
      subst hk'
      have e8 : IntKind.i64.wrap ((i : Int) + 1) = ((i + 1 : Nat) : Int) := by rw [wrap_i64 (by omega) (by omega)]; omega
      have hRf : R = fil L i := ext_getD (by rw [hR, fil, List.length_replicate]) fun m hm => by
        rw [hd m (by omega), fil]
        simp [List.getD_eq_getElem?_getD, List.getElem?_replicate, show m < (L i).length by omega]
      refine ⟨⟨rfl, rfl, rfl, i + 1, e8, hi, hst.congr fun j hj => ?_⟩, by rw [e8]; omega⟩
      unfold upd
      by_cases hji : j = i
      · subst hji; rw [if_pos rfl, if_pos (by omega), hRf]
      · rw [if_neg hji]
        show (if j < i then _ else _) = _
        by_cases hlt : j < i
        · rw [if_pos hlt, if_pos (by omega)]
        · rw [if_neg hlt, if_neg (by omega)]
  · rintro t0 t34 t35 t36 w1 ⟨rfl, rfl, rfl, i, S', rfl, hi, hst⟩
    refine br_intro (fun hlt => ?_) (fun hge => ?_)
    · have hi' : i < n := by simp at hlt; omega
      have hLi := hL i hi'
      have e8 : IntKind.i64.wrap ((i : Int) + 1) = ((i + 1 : Nat) : Int) := by rw [wrap_i64 (by omega) (by omega)]; omega
      have e0 : IntKind.u64.wrap (IntKind.i64.wrap (300 + IntKind.i64.wrap (5 * (i : Int)))) = ((300 + 5 * i : Nat) : Int) := by
        rw [wrap_i64 (x := 5 * (i : Int)) (by omega) (by omega), wrap_i64 (by omega) (by omega), wrap_u64' (by omega) (by omega)]; omega
      have e1 : IntKind.u64.wrap (((300 + 5 * i : Nat) : Int) + 1) = ((300 + 5 * i + 1 : Nat) : Int) := by rw [wrap_u64' (by omega) (by omega)]; omega
      have e2 : IntKind.u64.wrap (((300 + 5 * i : Nat) : Int) + 2) = ((300 + 5 * i + 2 : Nat) : Int) := by rw [wrap_u64' (by omega) (by omega)]; omega
      have e3 : IntKind.u64.wrap (((300 + 5 * i : Nat) : Int) + 3) = ((300 + 5 * i + 3 : Nat) : Int) := by rw [wrap_u64' (by omega) (by omega)]; omega
      have e4 : IntKind.u64.wrap (((300 + 5 * i : Nat) : Int) + 4) = ((300 + 5 * i + 4 : Nat) : Int) := by rw [wrap_u64' (by omega) (by omega)]; omega
      rw [e0, e1, e2, e3, e4]
      refine hst.ld (by kernel_rfl) hi' ?_
      have hst2 := hst.alloc (.cells (ints .u64 (nn (tl i))).toArray tU64 (0, 0))
      have hlit : Rd .u64 (w1.alloc (.cells (ints .u64 (nn (tl i))).toArray tU64 (0, 0))) ⟨some ⟨w1.heap.size, 0, none⟩, 5, 5⟩ (nn (tl i)) :=
        Own.rd (t := tU64) (b := w1.heap.size) ⟨rfl, [], rfl, by rw [get_alloc]; simp⟩
      have hG : (if i < i then fil L i ++ tl i else fil L i) = fil L i := if_neg (by omega)
      refine hst2.app (by kernel_rfl) (by kernel_rfl) hi' hlit (by simp [tl]) (by rw [hG]; simp [fil, tl]; omega) ?_
      intro w8 s' hst8
      refine ⟨⟨rfl, rfl, rfl, i + 1, upd S' i s', e8, hi', hst8.congr fun j hj => ?_⟩, by rw [e8]; omega⟩
      rw [hG]
      unfold upd
      by_cases hji : j = i
      · subst hji; rw [if_pos rfl, if_pos (by omega)]
      · rw [if_neg hji]
        show (if j < i then _ else _) = _
        by_cases hlt : j < i
        · rw [if_pos hlt, if_pos (by omega)]
        · rw [if_neg hlt, if_neg (by omega)]
    · have hi' : i = n := by simp at hge; omega
      subst hi'
      exact ⟨rfl, rfl, 0, S', rfl, Nat.zero_le _, hst.congr fun j hj => by rw [if_pos hj]⟩
  · rintro t62 t63 t64 w1 ⟨rfl, rfl, i, S', rfl, hi, hst⟩
    refine br_intro (fun hlt => ?_) (fun hge => ?_)
    · have hi' : i < n := by simp at hlt; omega
      refine hst.ld (by kernel_rfl) hi' ?_
      have ho := (hst.own i hi').rd
      exact ⟨rfl, rfl, i, 0, S', rfl, rfl, rfl, hi', rfl, rfl, by rw [ho.n, nn_length]; simp [fil, tl], rfl, Nat.zero_le _, hst⟩
    · exact ⟨⟨hst.low, hst.keepV⟩, rfl⟩
  · rintro t62 t63 t64 w1 _ t9' t10' t62' t63' t64' t69' t70' t71' w2 ⟨rfl, rfl, i, k, S', rfl, rfl, rfl, hi, rfl, rfl, rfl, rfl, hk, hst⟩
    have hLi := hL i hi
    have ho := (hst.own i hi).rd
    have hon : (S' i).n = (L i).length + 5 := by rw [ho.n, nn_length]; simp [fil, tl]
    have hlen : (fil L i ++ tl i).length = (L i).length + 5 := by simp [fil, tl]
    refine br_intro (fun hlt => ?_) (fun hge => ?_)
    · have hk' : k < (L i).length + 5 := by simp at hlt; omega
      have e8 : IntKind.i64.wrap ((k : Int) + 1) = ((k + 1 : Nat) : Int) := by rw [wrap_i64 (by omega) (by omega)]; omega
      have e1 : IntKind.u64.wrap (IntKind.i64.wrap (Int.tmod (i : Int) 251 + 1)) = ((i % 251 + 1 : Nat) : Int) := by
        have : Int.tmod (i : Int) 251 = ((i % 251 : Nat) : Int) := by rw [Int.tmod_eq_emod_of_nonneg (by omega)]; omega
        rw [this, wrap_i64 (by omega) (by omega), wrap_u64' (by omega) (by omega)]; omega
      have e5 : IntKind.i64.wrap (((S' i).n : Int) - 5) = ((L i).length : Int) := by rw [hon, wrap_i64 (by omega) (by omega)]; omega
      have go : ((⟨some ⟨ab, 0, none⟩, n, n⟩ : Slc) = ⟨some ⟨ab, 0, none⟩, n, n⟩ ∧ (n : Int) = (n : Int) ∧ ∃ (i' k' : Nat) (S'' : Nat → Slc), (i : Int) = (i' : Int) ∧ (i : Int) = (i' : Int) ∧ (i : Int) = (i' : Int) ∧ i' < n ∧ S' i = S'' i' ∧ S' i = S'' i' ∧ (((L i).length + 5 : Nat) : Int) = ((L i').length + 5 : Nat) ∧ IntKind.i64.wrap ((k : Int) + 1) = (k' : Int) ∧ k' ≤ (L i').length + 5 ∧ St V base w0 ab n w2 S'' (fun j => fil L j ++ tl j)) ∧
          ((((L i).length + 5 : Nat) : Int) - IntKind.i64.wrap ((k : Int) + 1)).toNat < ((((L i).length + 5 : Nat) : Int) - (k : Int)).toNat :=
        ⟨⟨rfl, rfl, i, k + 1, S', rfl, rfl, rfl, hi, rfl, rfl, rfl, e8, hk', hst⟩, by rw [e8]; omega⟩
      refine ldN ho (by omega) (by omega) ?_
      rw [Int.toNat_natCast, fil_getD, e5, e1]
      refine br_intro (fun h2 => ?_) (fun h2 => ?_)
      · have h2' : k < (L i).length := by simp at h2; omega
        rw [if_pos h2']
        refine br_false (by simp) (br_false (by simp; omega) go)
      · have h2' : (L i).length ≤ k := by simp at h2; omega
        rw [if_neg (by omega), if_pos hk']
        have e6 : IntKind.u64.wrap (IntKind.i64.wrap (IntKind.i64.wrap (IntKind.i64.wrap (IntKind.i64.wrap (300 + IntKind.i64.wrap (5 * (i : Int))) + (k : Int)) - ((S' i).n : Int)) + 5)) = ((300 + 5 * i + (k - (L i).length) : Nat) : Int) := by
          rw [hon, wrap_i64 (x := 5 * (i : Int)) (by omega) (by omega), wrap_i64 (x := 300 + 5 * (i : Int)) (by omega) (by omega), wrap_i64 (x := 300 + 5 * (i : Int) + (k : Int)) (by omega) (by omega),
            wrap_i64 (x := 300 + 5 * (i : Int) + (k : Int) - _) (by omega) (by omega), wrap_i64 (by omega) (by omega), wrap_u64' (by omega) (by omega)]
          omega
        rw [e6]
        exact br_true (by simp; omega) (br_false (by simp) go)
    · have hk' : k = (L i).length + 5 := by simp at hge; omega
      subst hk'
      have e8 : IntKind.i64.wrap ((i : Int) + 1) = ((i + 1 : Nat) : Int) := by rw [wrap_i64 (by omega) (by omega)]; omega
      exact ⟨⟨rfl, rfl, i + 1, S', e8, hi, hst⟩, by rw [e8]; omega⟩

end Ref
end Go.Proofs.YthhbjhdnaopcnaaDoor
namespace Go.Proofs.YthhbjhdnaopcnaaDoor
open Go Go.RowKit Eng Sp Dg
set_option linter.unusedVariables false
set_option linter.unusedSimpArgs false
set_option maxRecDepth 100000
namespace Ref
open _root_.Go.Proofs.YthhbjhdnaopcnaaDoor.Nat (OwnNil Num Ret bigC Yes num_of digs_len_bl)

theorem own_listV {base : Nat} {w : World} (ss : List (Slc × List Nat)) (hb : base ≤ w.heap.size) (h : ∀ p ∈ ss, OwnNil base w p.1 p.2 ∧ (p.2.length + 5) * 8 ≤ 2 ^ 47) (hp : ss.Pairwise fun p q => ∀ k, Bk p.1 k → ¬ Bk q.1 k) (hn : ss.length ≤ 1000)
    {arr : Array Value} {n : Nat} (harr : arr = (ss.map fun p => p.1.v).toArray) (hnn : n = ss.length) :
    Calls pr surdref01_Own_id #[Slc.v ⟨some ⟨w.heap.size, 0, none⟩, n, n⟩] (w.alloc (.cells arr tU64s (0, 0))) fun e w' => e = .returned (.bool true) ∧ Below base w w' ∧ (w.alloc (.cells arr tU64s (0, 0))).heap.size ≤ w'.heap.size ∧ ∀ k, k < w.heap.size → (∀ p ∈ ss, ¬ Bk p.1 k) → w'.heap[k]? = w.heap[k]? := by
  subst harr hnn
  have hget : ∀ j, j < ss.length → ss.getD j (⟨none, 0, 0⟩, []) ∈ ss := fun j hj => by
    rw [List.getD_eq_getElem?_getD, List.getElem?_eq_getElem hj]; exact List.getElem_mem hj
  have hal : ∀ {arr : Array Value} {t : TypeId}, Below base w (w.alloc (.cells arr t (0, 0))) := Below.alloc (Below.refl _ _) hb _
  refine Calls.mono (Own_spec (V := fun k => w.heap.size ≤ k ∨ ∃ p ∈ ss, Bk p.1 k) (base := base) (w0 := w.alloc (.cells (ss.map fun p => p.1.v).toArray tU64s (0, 0))) (ab := w.heap.size) (n := ss.length) (S := fun j => (ss.getD j (⟨none, 0, 0⟩, [])).1) (L := fun j => (ss.getD j (⟨none, 0, 0⟩, [])).2) ⟨Below.refl _ _, hb, ?_, ?_, ?_, ?_, ?_, fun _ _ _ => rfl, .inl (Nat.le_refl _), fun k hk => .inl (by rw [size_alloc] at hk; omega), fun j k hj hbk => .inr ⟨_, hget j hj, hbk⟩⟩ hn fun j hj => (h _ (hget j hj)).2) fun e w' ⟨⟨h1, h3⟩, h2⟩ => ⟨h2, Below.trans hal h1, h1.size, fun k hk hv => (h3 k (by rw [size_alloc]; omega) fun hh => by
    rcases hh with hh | ⟨p, hp, hh⟩
    · omega
    · exact hv p hp hh).trans (Below.heap_alloc _ _ _ hk)⟩
  · rw [size_alloc]; omega
  · rw [get_alloc]
    congr 3
    apply List.ext_getElem
    · simp
    · intro i h1 h2
      have hi : i < ss.length := by simpa using h1
      simp [List.getD_eq_getElem?_getD, hi]
  · intro j hj
    refine OwnNil.block (h _ (hget j hj)).1 fun k hk _ => Below.heap_alloc _ _ _ hk
  · intro j hj hbk
    rcases (h _ (hget j hj)).1 with ⟨h1, _⟩ | ⟨b, _, _, ho⟩
    · simp only [Bk, h1] at hbk; cases hbk
    · have : b = w.heap.size := congrArg Addr.block (Option.some.inj (ho.A.symm.trans hbk))
      have := ho.lt
      omega
  · intro i j k hi hj hij h1 h2
    rw [List.pairwise_iff_getElem] at hp
    simp only [List.getD_eq_getElem?_getD, List.getElem?_eq_getElem hi, List.getElem?_eq_getElem hj, Option.getD_some] at h1 h2
    rcases Nat.lt_or_ge i j with hlt | hge
    · exact hp i j hi hj hlt k h1 h2
    · exact hp j i hj hi (by omega) k h2 h1

theorem old_new {b1 m : Nat} {wa wb : World} {s t : Slc} {l l' : List Nat} (hs : OwnNil b1 wa s l) (hm : wa.heap.size ≤ m) (ht : OwnNil m wb t l') (k : Nat) (h1 : Bk s k) : ¬ Bk t k := by
  intro h2
  rcases hs with ⟨rfl, _⟩ | ⟨b, _, _, ho⟩
  · simp [Bk] at h1
  rcases ht with ⟨rfl, _⟩ | ⟨b', hb', _, ho'⟩
  · simp [Bk] at h2
  have e1 : b = k := congrArg Addr.block (Option.some.inj (ho.A.symm.trans h1))
  have e2 : b' = k := congrArg Addr.block (Option.some.inj (ho'.A.symm.trans h2))
  have := ho.lt
  omega

theorem len32 {l : List Nat} (h : ok B64 l) : (digs B32 (val B64 l)).length ≤ 2 * l.length := by
  refine digs_length_le two32 ?_
  rw [← b64_sq]
  exact val_lt h

end Ref
end Go.Proofs.YthhbjhdnaopcnaaDoor
namespace Go.Proofs.YthhbjhdnaopcnaaDoor
open Go Go.RowKit Eng Sp Dg L2
set_option linter.unusedVariables false
namespace Nat
theorem OwnNil.ext {base : Nat} {w w' : World} {s : Slc} {l : List Nat} (h : OwnNil base w s l) (x : Ext w w') : OwnNil base w' s l := by
  rcases h with h | ⟨b, h1, h2, h3⟩
  · exact .inl h
  · exact .inr ⟨b, h1, h2, h3.ext x⟩
theorem Num.ext {w w' : World} {s : Slc} {n : Nat} (h : Num w s n) (x : Ext w w') : Num w' s n := by
  obtain ⟨l, h1, h2⟩ := h
  exact ⟨l, h1.ext x, h2⟩
end Nat
namespace Ref
theorem Lent.ext {base : Nat} {w w' : World} {s t : Slc} {l : List Nat} (h : Lent base w s t l) (x : Ext w w') : Lent base w' s t l := by
  obtain ⟨b, h1, h2, h3, h4⟩ := h
  exact ⟨b, h1, h2, h3.ext x, h4⟩
theorem RN.ext {w w' : World} {s : Slc} {n : Nat} (h : RN w s n) (x : Ext w w') : RN w' s n := Sp.Rd.ext h x
/-- Own, as a step. -/
theorem own_step {base : Nat} {w0 w : World} (hw0 : w0.heap.size ≤ base) (ss : List (Slc × List Nat)) (hb : base ≤ w.heap.size) (h : ∀ p ∈ ss, Nat.OwnNil base w p.1 p.2 ∧ (p.2.length + 5) * 8 ≤ 2 ^ 47) (hp : ss.Pairwise fun p q => ∀ k, Bk p.1 k → ¬ Bk q.1 k) (hn : ss.length ≤ 1000)
    {arr : Array Value} {n : Nat} (harr : arr = (ss.map fun p => p.1.v).toArray) (hnn : n = ss.length) :
    Calls pr surdref01_Own_id #[Slc.v ⟨some ⟨w.heap.size, 0, none⟩, n, n⟩] (w.alloc (.cells arr tU64s (0, 0))) fun e w' => e = .returned (.bool true) ∧ OwnStep w0 (w.alloc (.cells arr tU64s (0, 0))) w' ∧ Below base w w' := by
  refine Calls.mono (own_listV ss hb h hp hn harr hnn) fun e w' ⟨h1, hlow, hsz, hkeep⟩ => ⟨h1, ⟨fun k => w.heap.size ≤ k ∨ ∃ p ∈ ss, Bk p.1 k, ⟨hlow.os, hlow.tape, hlow.output, hsz, fun k hk hv => ?_⟩, fun k hv => ⟨?_, fun t cs hc ht => ?_⟩⟩, hlow⟩
  · have hk' : k < w.heap.size := by
      rcases Nat.lt_or_ge k w.heap.size with h | h
      · exact h
      · exact absurd (.inl h) hv
    rw [hkeep k hk' fun p hp hbk => hv (.inr ⟨p, hp, hbk⟩)]
    exact (Below.heap_alloc _ _ _ hk').symm
  · rcases hv with hv | ⟨p, hp, hbk⟩
    · omega
    · rcases (h p hp).1 with ⟨h2, _⟩ | ⟨b, h2, _, h3⟩
      · simp only [Bk, h2] at hbk; cases hbk
      · have : b = k := congrArg Addr.block (Option.some.inj (h3.A.symm.trans hbk))
        omega
  · rcases hv with hv | ⟨p, hp, hbk⟩
    · rcases Nat.eq_or_lt_of_le hv with rfl | hv
      · rw [get_alloc] at hc
        have := Option.some.inj hc
        injection this with q1 q2 q3
        rw [← q2] at ht
        simp [rowTy] at ht
      · have := (Array.getElem?_eq_some_iff.1 hc).1
        rw [size_alloc] at this
        omega
    · rcases (h p hp).1 with ⟨h2, _⟩ | ⟨b, h2, _, h3⟩
      · simp only [Bk, h2] at hbk; cases hbk
      · have e : b = k := congrArg Addr.block (Option.some.inj (h3.A.symm.trans hbk))
        subst e
        obtain ⟨sp, _, hm⟩ := h3.mem
        have hl := h3.lt
        rw [Below.heap_alloc _ _ _ hl, hm] at hc
        have := Option.some.inj hc
        injection this with q1 q2 q3
        rw [← q2] at ht
        simp [rowTy] at ht
end Ref
end Go.Proofs.YthhbjhdnaopcnaaDoor
namespace Go.Proofs.YthhbjhdnaopcnaaDoor
open Go Go.RowKit Eng
set_option linter.unusedVariables false

set_option maxRecDepth 100000 in
/-- surd/surdref06.Shift: function 53. -/
theorem surdref06_Shift_vc (a0_a_0 : Bool) (a0_a_1 : Slc) (a1_n : Int) (w : World) (R : Ending → World → Prop)
    
    (h : newC w #[Value.bool a0_a_0, a0_a_1.v] 44 fun ad1 w1 =>
    newC w1 #[Value.bool false, (⟨none, 0, 0⟩ : Slc).v] 44 fun ad2 w2 =>
    br (decide (a1_n ≥ 0))
    (ldB ad1 w2.drew fun b1 =>
     ldS (ad1.add 1) w2.drew fun s1 =>
     Calls Tryd.prog 54 #[s1.v, Value.int .i64 a1_n] w2.drew fun e1 w3 =>
     ∃ s2 : Slc, e1 = .returned s2.v ∧
     (Ahead w2.drew w3 ∧
      (Calls Tryd.prog 66 #[Value.bool b1, s2.v] w3 fun e2 w4 =>
       ∃ b2 : Bool, ∃ s3 : Slc, e2 = .returned (Value.agg #[Value.bool b2, s3.v]) ∧
       (Ahead w3 w4 ∧
        (stC ad2 (Value.bool b2) w4 fun w5 =>
         stC (ad2.add 1) s3.v w5 fun w6 =>
         ldB ad2 w6 fun b3 =>
         ldS (ad2.add 1) w6 fun s4 =>
         R (.returned (Value.agg #[Value.bool b3, s4.v])) w6)))))
    (ldS (ad1.add 1) w2 fun s5 =>
     Calls Tryd.prog 34 #[s5.v] w2 fun e3 w7 =>
     ∃ x1 : Int, e3 = .returned (Value.int .i64 x1) ∧
     (br (decide (a1_n < (IntKind.i64.wrap (0 - x1))))
      (ldB ad1 w7 fun b4 =>
       br b4
       (Calls Tryd.prog 77 #[Value.int .i64 (-1)] w7 fun e4 w8 =>
        ∃ b5 : Bool, ∃ s6 : Slc, e4 = .returned (Value.agg #[Value.bool b5, s6.v]) ∧
        (stC ad2 (Value.bool b5) w8 fun w9 =>
         stC (ad2.add 1) s6.v w9 fun w10 =>
         ldB ad2 w10 fun b6 =>
         ldS (ad2.add 1) w10 fun s7 =>
         R (.returned (Value.agg #[Value.bool b6, s7.v])) w10))
       (stC ad2 (Value.bool false) w7 fun w11 =>
        stC (ad2.add 1) ((⟨none, 0, 0⟩ : Slc).v) w11 fun w12 =>
        ldB ad2 w12 fun b7 =>
        ldS (ad2.add 1) w12 fun s8 =>
        R (.returned (Value.agg #[Value.bool b7, s8.v])) w12))
      (∃ V1 : Nat → Nat → Prop, Out (V1 0) ad1 (ldB ad1 w7.drew fun b8 =>
        ldS (ad1.add 1) w7.drew fun s9 =>
        (Calls Tryd.prog 52 #[Value.int .i64 1] w7.drew fun e5 w13 =>
         ∃ s10 : Slc, e5 = .returned s10.v ∧
         (Bar (V1 0) w7.drew w13 ∧
          ((Calls Tryd.prog 54 #[s10.v, Value.int .i64 (IntKind.i64.wrap (0 - a1_n))] w13 fun e6 w14 =>
            ∃ s11 : Slc, e6 = .returned s11.v ∧
            (Bar (V1 0) w13 w14 ∧
             ((Calls Tryd.prog 66 #[Value.bool false, s11.v] w14 fun e7 w15 =>
               ∃ b9 : Bool, ∃ s12 : Slc, e7 = .returned (Value.agg #[Value.bool b9, s12.v]) ∧
               (Bar (V1 0) w14 w15 ∧
                ((Calls Tryd.prog 81 #[Value.agg #[Value.bool b8, s9.v], Value.agg #[Value.bool b9, s12.v]] w15 fun e8 w16 =>
                  ∃ b10 : Bool, ∃ s13 : Slc, ∃ b11 : Bool, ∃ s14 : Slc, e8 = .returned (Value.tuple #[Value.agg #[Value.bool b10, s13.v], Value.agg #[Value.bool b11, s14.v]]) ∧
                  ((newC w16 #[Value.bool false, (⟨none, 0, 0⟩ : Slc).v] 44 fun ad3 w17 =>
                    Bar (V1 0) w16 w17 ∧
                    (newC w17 #[Value.bool false, (⟨none, 0, 0⟩ : Slc).v] 44 fun ad4 w18 =>
                     Bar (V1 0) w17 w18 ∧
                     (stC ad3 (Value.bool b10) w18 fun w19 =>
                      stC (ad3.add 1) s13.v w19 fun w20 =>
                      stC ad4 (Value.bool b11) w20 fun w21 =>
                      stC (ad4.add 1) s14.v w21 fun w22 =>
                      ldB ad3 w22 fun b12 =>
                      ldS (ad3.add 1) w22 fun s15 =>
                      stC ad2 (Value.bool b12) w22 fun w23 =>
                      stC (ad2.add 1) s15.v w23 fun w24 =>
                      ldB ad2 w24 fun b13 =>
                      ldS (ad2.add 1) w24 fun s16 =>
                      R (.returned (Value.agg #[Value.bool b13, s16.v])) w24))) ∧
                   (newC w16 #[Value.bool false, (⟨none, 0, 0⟩ : Slc).v] 44 fun ad5 w25 =>
                    Bar (V1 0) w16 w25 ∧
                    (newC w25 #[Value.bool false, (⟨none, 0, 0⟩ : Slc).v] 44 fun ad6 w26 =>
                     Bar (V1 0) w25 w26 ∧
                     (stC ad6 (Value.bool b10) w26 fun w27 =>
                      stC (ad6.add 1) s13.v w27 fun w28 =>
                      stC ad5 (Value.bool b11) w28 fun w29 =>
                      stC (ad5.add 1) s14.v w29 fun w30 =>
                      ldB ad6 w30 fun b14 =>
                      ldS (ad6.add 1) w30 fun s17 =>
                      stC ad2 (Value.bool b14) w30 fun w31 =>
                      stC (ad2.add 1) s17.v w31 fun w32 =>
                      ldB ad2 w32 fun b15 =>
                      ldS (ad2.add 1) w32 fun s18 =>
                      R (.returned (Value.agg #[Value.bool b15, s18.v])) w32))))) ∧
                 ((newC w15 #[Value.bool false, (⟨none, 0, 0⟩ : Slc).v] 44 fun ad7 w33 =>
                   Bar (V1 0) w15 w33 ∧
                   ((Calls Tryd.prog 81 #[Value.agg #[Value.bool b8, s9.v], Value.agg #[Value.bool b9, s12.v]] w33 fun e9 w34 =>
                     ∃ b16 : Bool, ∃ s19 : Slc, ∃ b17 : Bool, ∃ s20 : Slc, e9 = .returned (Value.tuple #[Value.agg #[Value.bool b16, s19.v], Value.agg #[Value.bool b17, s20.v]]) ∧
                     (newC w34 #[Value.bool false, (⟨none, 0, 0⟩ : Slc).v] 44 fun ad8 w35 =>
                      Bar (V1 0) w34 w35 ∧
                      (stC ad7 (Value.bool b16) w35 fun w36 =>
                       stC (ad7.add 1) s19.v w36 fun w37 =>
                       stC ad8 (Value.bool b17) w37 fun w38 =>
                       stC (ad8.add 1) s20.v w38 fun w39 =>
                       ldB ad7 w39 fun b18 =>
                       ldS (ad7.add 1) w39 fun s21 =>
                       stC ad2 (Value.bool b18) w39 fun w40 =>
                       stC (ad2.add 1) s21.v w40 fun w41 =>
                       ldB ad2 w41 fun b19 =>
                       ldS (ad2.add 1) w41 fun s22 =>
                       R (.returned (Value.agg #[Value.bool b19, s22.v])) w41))) ∧
                    (newC w33 #[Value.bool false, (⟨none, 0, 0⟩ : Slc).v] 44 fun ad9 w42 =>
                     Bar (V1 0) w33 w42 ∧
                     (Calls Tryd.prog 81 #[Value.agg #[Value.bool b8, s9.v], Value.agg #[Value.bool b9, s12.v]] w42 fun e10 w43 =>
                      ∃ b20 : Bool, ∃ s23 : Slc, ∃ b21 : Bool, ∃ s24 : Slc, e10 = .returned (Value.tuple #[Value.agg #[Value.bool b20, s23.v], Value.agg #[Value.bool b21, s24.v]]) ∧
                      (stC ad7 (Value.bool b20) w43 fun w44 =>
                       stC (ad7.add 1) s23.v w44 fun w45 =>
                       stC ad9 (Value.bool b21) w45 fun w46 =>
                       stC (ad9.add 1) s24.v w46 fun w47 =>
                       ldB ad7 w47 fun b22 =>
                       ldS (ad7.add 1) w47 fun s25 =>
                       stC ad2 (Value.bool b22) w47 fun w48 =>
                       stC (ad2.add 1) s25.v w48 fun w49 =>
                       ldB ad2 w49 fun b23 =>
                       ldS (ad2.add 1) w49 fun s26 =>
                       R (.returned (Value.agg #[Value.bool b23, s26.v])) w49))))) ∧
                  (newC w15 #[Value.bool false, (⟨none, 0, 0⟩ : Slc).v] 44 fun ad10 w50 =>
                   Bar (V1 0) w15 w50 ∧
                   ((Calls Tryd.prog 81 #[Value.agg #[Value.bool b8, s9.v], Value.agg #[Value.bool b9, s12.v]] w50 fun e11 w51 =>
                     ∃ b24 : Bool, ∃ s27 : Slc, ∃ b25 : Bool, ∃ s28 : Slc, e11 = .returned (Value.tuple #[Value.agg #[Value.bool b24, s27.v], Value.agg #[Value.bool b25, s28.v]]) ∧
                     (newC w51 #[Value.bool false, (⟨none, 0, 0⟩ : Slc).v] 44 fun ad11 w52 =>
                      Bar (V1 0) w51 w52 ∧
                      (stC ad11 (Value.bool b24) w52 fun w53 =>
                       stC (ad11.add 1) s27.v w53 fun w54 =>
                       stC ad10 (Value.bool b25) w54 fun w55 =>
                       stC (ad10.add 1) s28.v w55 fun w56 =>
                       ldB ad11 w56 fun b26 =>
                       ldS (ad11.add 1) w56 fun s29 =>
                       stC ad2 (Value.bool b26) w56 fun w57 =>
                       stC (ad2.add 1) s29.v w57 fun w58 =>
                       ldB ad2 w58 fun b27 =>
                       ldS (ad2.add 1) w58 fun s30 =>
                       R (.returned (Value.agg #[Value.bool b27, s30.v])) w58))) ∧
                    (newC w50 #[Value.bool false, (⟨none, 0, 0⟩ : Slc).v] 44 fun ad12 w59 =>
                     Bar (V1 0) w50 w59 ∧
                     (Calls Tryd.prog 81 #[Value.agg #[Value.bool b8, s9.v], Value.agg #[Value.bool b9, s12.v]] w59 fun e12 w60 =>
                      ∃ b28 : Bool, ∃ s31 : Slc, ∃ b29 : Bool, ∃ s32 : Slc, e12 = .returned (Value.tuple #[Value.agg #[Value.bool b28, s31.v], Value.agg #[Value.bool b29, s32.v]]) ∧
                      (stC ad12 (Value.bool b28) w60 fun w61 =>
                       stC (ad12.add 1) s31.v w61 fun w62 =>
                       stC ad10 (Value.bool b29) w62 fun w63 =>
                       stC (ad10.add 1) s32.v w63 fun w64 =>
                       ldB ad12 w64 fun b30 =>
                       ldS (ad12.add 1) w64 fun s33 =>
                       stC ad2 (Value.bool b30) w64 fun w65 =>
                       stC (ad2.add 1) s33.v w65 fun w66 =>
                       ldB ad2 w66 fun b31 =>
                       ldS (ad2.add 1) w66 fun s34 =>
                       R (.returned (Value.agg #[Value.bool b31, s34.v])) w66))))))))) ∧
              ((newC w14 #[Value.bool false, (⟨none, 0, 0⟩ : Slc).v] 44 fun ad13 w67 =>
                Bar (V1 0) w14 w67 ∧
                ((Calls Tryd.prog 66 #[Value.bool false, s11.v] w67 fun e13 w68 =>
                  ∃ b32 : Bool, ∃ s35 : Slc, e13 = .returned (Value.agg #[Value.bool b32, s35.v]) ∧
                  (Bar (V1 0) w67 w68 ∧
                   ((Calls Tryd.prog 81 #[Value.agg #[Value.bool b8, s9.v], Value.agg #[Value.bool b32, s35.v]] w68 fun e14 w69 =>
                     ∃ b33 : Bool, ∃ s36 : Slc, ∃ b34 : Bool, ∃ s37 : Slc, e14 = .returned (Value.tuple #[Value.agg #[Value.bool b33, s36.v], Value.agg #[Value.bool b34, s37.v]]) ∧
                     (newC w69 #[Value.bool false, (⟨none, 0, 0⟩ : Slc).v] 44 fun ad14 w70 =>
                      Bar (V1 0) w69 w70 ∧
                      (stC ad13 (Value.bool b33) w70 fun w71 =>
                       stC (ad13.add 1) s36.v w71 fun w72 =>
                       stC ad14 (Value.bool b34) w72 fun w73 =>
                       stC (ad14.add 1) s37.v w73 fun w74 =>
                       ldB ad13 w74 fun b35 =>
                       ldS (ad13.add 1) w74 fun s38 =>
                       stC ad2 (Value.bool b35) w74 fun w75 =>
                       stC (ad2.add 1) s38.v w75 fun w76 =>
                       ldB ad2 w76 fun b36 =>
                       ldS (ad2.add 1) w76 fun s39 =>
                       R (.returned (Value.agg #[Value.bool b36, s39.v])) w76))) ∧
                    (newC w68 #[Value.bool false, (⟨none, 0, 0⟩ : Slc).v] 44 fun ad15 w77 =>
                     Bar (V1 0) w68 w77 ∧
                     (Calls Tryd.prog 81 #[Value.agg #[Value.bool b8, s9.v], Value.agg #[Value.bool b32, s35.v]] w77 fun e15 w78 =>
                      ∃ b37 : Bool, ∃ s40 : Slc, ∃ b38 : Bool, ∃ s41 : Slc, e15 = .returned (Value.tuple #[Value.agg #[Value.bool b37, s40.v], Value.agg #[Value.bool b38, s41.v]]) ∧
                      (stC ad13 (Value.bool b37) w78 fun w79 =>
                       stC (ad13.add 1) s40.v w79 fun w80 =>
                       stC ad15 (Value.bool b38) w80 fun w81 =>
                       stC (ad15.add 1) s41.v w81 fun w82 =>
                       ldB ad13 w82 fun b39 =>
                       ldS (ad13.add 1) w82 fun s42 =>
                       stC ad2 (Value.bool b39) w82 fun w83 =>
                       stC (ad2.add 1) s42.v w83 fun w84 =>
                       ldB ad2 w84 fun b40 =>
                       ldS (ad2.add 1) w84 fun s43 =>
                       R (.returned (Value.agg #[Value.bool b40, s43.v])) w84)))))) ∧
                 (newC w67 #[Value.bool false, (⟨none, 0, 0⟩ : Slc).v] 44 fun ad16 w85 =>
                  Bar (V1 0) w67 w85 ∧
                  (Calls Tryd.prog 66 #[Value.bool false, s11.v] w85 fun e16 w86 =>
                   ∃ b41 : Bool, ∃ s44 : Slc, e16 = .returned (Value.agg #[Value.bool b41, s44.v]) ∧
                   (Bar (V1 0) w85 w86 ∧
                    (Calls Tryd.prog 81 #[Value.agg #[Value.bool b8, s9.v], Value.agg #[Value.bool b41, s44.v]] w86 fun e17 w87 =>
                     ∃ b42 : Bool, ∃ s45 : Slc, ∃ b43 : Bool, ∃ s46 : Slc, e17 = .returned (Value.tuple #[Value.agg #[Value.bool b42, s45.v], Value.agg #[Value.bool b43, s46.v]]) ∧
                     (stC ad13 (Value.bool b42) w87 fun w88 =>
                      stC (ad13.add 1) s45.v w88 fun w89 =>
                      stC ad16 (Value.bool b43) w89 fun w90 =>
                      stC (ad16.add 1) s46.v w90 fun w91 =>
                      ldB ad13 w91 fun b44 =>
                      ldS (ad13.add 1) w91 fun s47 =>
                      stC ad2 (Value.bool b44) w91 fun w92 =>
                      stC (ad2.add 1) s47.v w92 fun w93 =>
                      ldB ad2 w93 fun b45 =>
                      ldS (ad2.add 1) w93 fun s48 =>
                      R (.returned (Value.agg #[Value.bool b45, s48.v])) w93))))))) ∧
               (newC w14 #[Value.bool false, (⟨none, 0, 0⟩ : Slc).v] 44 fun ad17 w94 =>
                Bar (V1 0) w14 w94 ∧
                ((Calls Tryd.prog 66 #[Value.bool false, s11.v] w94 fun e18 w95 =>
                  ∃ b46 : Bool, ∃ s49 : Slc, e18 = .returned (Value.agg #[Value.bool b46, s49.v]) ∧
                  (Bar (V1 0) w94 w95 ∧
                   ((Calls Tryd.prog 81 #[Value.agg #[Value.bool b8, s9.v], Value.agg #[Value.bool b46, s49.v]] w95 fun e19 w96 =>
                     ∃ b47 : Bool, ∃ s50 : Slc, ∃ b48 : Bool, ∃ s51 : Slc, e19 = .returned (Value.tuple #[Value.agg #[Value.bool b47, s50.v], Value.agg #[Value.bool b48, s51.v]]) ∧
                     (newC w96 #[Value.bool false, (⟨none, 0, 0⟩ : Slc).v] 44 fun ad18 w97 =>
                      Bar (V1 0) w96 w97 ∧
                      (stC ad18 (Value.bool b47) w97 fun w98 =>
                       stC (ad18.add 1) s50.v w98 fun w99 =>
                       stC ad17 (Value.bool b48) w99 fun w100 =>
                       stC (ad17.add 1) s51.v w100 fun w101 =>
                       ldB ad18 w101 fun b49 =>
                       ldS (ad18.add 1) w101 fun s52 =>
                       stC ad2 (Value.bool b49) w101 fun w102 =>
                       stC (ad2.add 1) s52.v w102 fun w103 =>
                       ldB ad2 w103 fun b50 =>
                       ldS (ad2.add 1) w103 fun s53 =>
                       R (.returned (Value.agg #[Value.bool b50, s53.v])) w103))) ∧
                    (newC w95 #[Value.bool false, (⟨none, 0, 0⟩ : Slc).v] 44 fun ad19 w104 =>
                     Bar (V1 0) w95 w104 ∧
                     (Calls Tryd.prog 81 #[Value.agg #[Value.bool b8, s9.v], Value.agg #[Value.bool b46, s49.v]] w104 fun e20 w105 =>
                      ∃ b51 : Bool, ∃ s54 : Slc, ∃ b52 : Bool, ∃ s55 : Slc, e20 = .returned (Value.tuple #[Value.agg #[Value.bool b51, s54.v], Value.agg #[Value.bool b52, s55.v]]) ∧
                      (stC ad19 (Value.bool b51) w105 fun w106 =>
                       stC (ad19.add 1) s54.v w106 fun w107 =>
                       stC ad17 (Value.bool b52) w107 fun w108 =>
                       stC (ad17.add 1) s55.v w108 fun w109 =>
                       ldB ad19 w109 fun b53 =>
                       ldS (ad19.add 1) w109 fun s56 =>
                       stC ad2 (Value.bool b53) w109 fun w110 =>
                       stC (ad2.add 1) s56.v w110 fun w111 =>
                       ldB ad2 w111 fun b54 =>
                       ldS (ad2.add 1) w111 fun s57 =>
                       R (.returned (Value.agg #[Value.bool b54, s57.v])) w111)))))) ∧
                 (newC w94 #[Value.bool false, (⟨none, 0, 0⟩ : Slc).v] 44 fun ad20 w112 =>
                  Bar (V1 0) w94 w112 ∧
                  (Calls Tryd.prog 66 #[Value.bool false, s11.v] w112 fun e21 w113 =>
                   ∃ b55 : Bool, ∃ s58 : Slc, e21 = .returned (Value.agg #[Value.bool b55, s58.v]) ∧
                   (Bar (V1 0) w112 w113 ∧
                    (Calls Tryd.prog 81 #[Value.agg #[Value.bool b8, s9.v], Value.agg #[Value.bool b55, s58.v]] w113 fun e22 w114 =>
                     ∃ b56 : Bool, ∃ s59 : Slc, ∃ b57 : Bool, ∃ s60 : Slc, e22 = .returned (Value.tuple #[Value.agg #[Value.bool b56, s59.v], Value.agg #[Value.bool b57, s60.v]]) ∧
                     (stC ad20 (Value.bool b56) w114 fun w115 =>
                      stC (ad20.add 1) s59.v w115 fun w116 =>
                      stC ad17 (Value.bool b57) w116 fun w117 =>
                      stC (ad17.add 1) s60.v w117 fun w118 =>
                      ldB ad20 w118 fun b58 =>
                      ldS (ad20.add 1) w118 fun s61 =>
                      stC ad2 (Value.bool b58) w118 fun w119 =>
                      stC (ad2.add 1) s61.v w119 fun w120 =>
                      ldB ad2 w120 fun b59 =>
                      ldS (ad2.add 1) w120 fun s62 =>
                      R (.returned (Value.agg #[Value.bool b59, s62.v])) w120))))))))))) ∧
           ((newC w13 #[Value.bool false, (⟨none, 0, 0⟩ : Slc).v] 44 fun ad21 w121 =>
             Bar (V1 0) w13 w121 ∧
             ((Calls Tryd.prog 54 #[s10.v, Value.int .i64 (IntKind.i64.wrap (0 - a1_n))] w121 fun e23 w122 =>
               ∃ s63 : Slc, e23 = .returned s63.v ∧
               (Bar (V1 0) w121 w122 ∧
                ((Calls Tryd.prog 66 #[Value.bool false, s63.v] w122 fun e24 w123 =>
                  ∃ b60 : Bool, ∃ s64 : Slc, e24 = .returned (Value.agg #[Value.bool b60, s64.v]) ∧
                  (Bar (V1 0) w122 w123 ∧
                   ((Calls Tryd.prog 81 #[Value.agg #[Value.bool b8, s9.v], Value.agg #[Value.bool b60, s64.v]] w123 fun e25 w124 =>
                     ∃ b61 : Bool, ∃ s65 : Slc, ∃ b62 : Bool, ∃ s66 : Slc, e25 = .returned (Value.tuple #[Value.agg #[Value.bool b61, s65.v], Value.agg #[Value.bool b62, s66.v]]) ∧
                     (newC w124 #[Value.bool false, (⟨none, 0, 0⟩ : Slc).v] 44 fun ad22 w125 =>
                      Bar (V1 0) w124 w125 ∧
                      (stC ad21 (Value.bool b61) w125 fun w126 =>
                       stC (ad21.add 1) s65.v w126 fun w127 =>
                       stC ad22 (Value.bool b62) w127 fun w128 =>
                       stC (ad22.add 1) s66.v w128 fun w129 =>
                       ldB ad21 w129 fun b63 =>
                       ldS (ad21.add 1) w129 fun s67 =>
                       stC ad2 (Value.bool b63) w129 fun w130 =>
                       stC (ad2.add 1) s67.v w130 fun w131 =>
                       ldB ad2 w131 fun b64 =>
                       ldS (ad2.add 1) w131 fun s68 =>
                       R (.returned (Value.agg #[Value.bool b64, s68.v])) w131))) ∧
                    (newC w123 #[Value.bool false, (⟨none, 0, 0⟩ : Slc).v] 44 fun ad23 w132 =>
                     Bar (V1 0) w123 w132 ∧
                     (Calls Tryd.prog 81 #[Value.agg #[Value.bool b8, s9.v], Value.agg #[Value.bool b60, s64.v]] w132 fun e26 w133 =>
                      ∃ b65 : Bool, ∃ s69 : Slc, ∃ b66 : Bool, ∃ s70 : Slc, e26 = .returned (Value.tuple #[Value.agg #[Value.bool b65, s69.v], Value.agg #[Value.bool b66, s70.v]]) ∧
                      (stC ad21 (Value.bool b65) w133 fun w134 =>
                       stC (ad21.add 1) s69.v w134 fun w135 =>
                       stC ad23 (Value.bool b66) w135 fun w136 =>
                       stC (ad23.add 1) s70.v w136 fun w137 =>
                       ldB ad21 w137 fun b67 =>
                       ldS (ad21.add 1) w137 fun s71 =>
                       stC ad2 (Value.bool b67) w137 fun w138 =>
                       stC (ad2.add 1) s71.v w138 fun w139 =>
                       ldB ad2 w139 fun b68 =>
                       ldS (ad2.add 1) w139 fun s72 =>
                       R (.returned (Value.agg #[Value.bool b68, s72.v])) w139)))))) ∧
                 (newC w122 #[Value.bool false, (⟨none, 0, 0⟩ : Slc).v] 44 fun ad24 w140 =>
                  Bar (V1 0) w122 w140 ∧
                  (Calls Tryd.prog 66 #[Value.bool false, s63.v] w140 fun e27 w141 =>
                   ∃ b69 : Bool, ∃ s73 : Slc, e27 = .returned (Value.agg #[Value.bool b69, s73.v]) ∧
                   (Bar (V1 0) w140 w141 ∧
                    (Calls Tryd.prog 81 #[Value.agg #[Value.bool b8, s9.v], Value.agg #[Value.bool b69, s73.v]] w141 fun e28 w142 =>
                     ∃ b70 : Bool, ∃ s74 : Slc, ∃ b71 : Bool, ∃ s75 : Slc, e28 = .returned (Value.tuple #[Value.agg #[Value.bool b70, s74.v], Value.agg #[Value.bool b71, s75.v]]) ∧
                     (stC ad21 (Value.bool b70) w142 fun w143 =>
                      stC (ad21.add 1) s74.v w143 fun w144 =>
                      stC ad24 (Value.bool b71) w144 fun w145 =>
                      stC (ad24.add 1) s75.v w145 fun w146 =>
                      ldB ad21 w146 fun b72 =>
                      ldS (ad21.add 1) w146 fun s76 =>
                      stC ad2 (Value.bool b72) w146 fun w147 =>
                      stC (ad2.add 1) s76.v w147 fun w148 =>
                      ldB ad2 w148 fun b73 =>
                      ldS (ad2.add 1) w148 fun s77 =>
                      R (.returned (Value.agg #[Value.bool b73, s77.v])) w148)))))))) ∧
              (newC w121 #[Value.bool false, (⟨none, 0, 0⟩ : Slc).v] 44 fun ad25 w149 =>
               Bar (V1 0) w121 w149 ∧
               (Calls Tryd.prog 54 #[s10.v, Value.int .i64 (IntKind.i64.wrap (0 - a1_n))] w149 fun e29 w150 =>
                ∃ s78 : Slc, e29 = .returned s78.v ∧
                (Bar (V1 0) w149 w150 ∧
                 (Calls Tryd.prog 66 #[Value.bool false, s78.v] w150 fun e30 w151 =>
                  ∃ b74 : Bool, ∃ s79 : Slc, e30 = .returned (Value.agg #[Value.bool b74, s79.v]) ∧
                  (Bar (V1 0) w150 w151 ∧
                   (Calls Tryd.prog 81 #[Value.agg #[Value.bool b8, s9.v], Value.agg #[Value.bool b74, s79.v]] w151 fun e31 w152 =>
                    ∃ b75 : Bool, ∃ s80 : Slc, ∃ b76 : Bool, ∃ s81 : Slc, e31 = .returned (Value.tuple #[Value.agg #[Value.bool b75, s80.v], Value.agg #[Value.bool b76, s81.v]]) ∧
                    (stC ad21 (Value.bool b75) w152 fun w153 =>
                     stC (ad21.add 1) s80.v w153 fun w154 =>
                     stC ad25 (Value.bool b76) w154 fun w155 =>
                     stC (ad25.add 1) s81.v w155 fun w156 =>
                     ldB ad21 w156 fun b77 =>
                     ldS (ad21.add 1) w156 fun s82 =>
                     stC ad2 (Value.bool b77) w156 fun w157 =>
                     stC (ad2.add 1) s82.v w157 fun w158 =>
                     ldB ad2 w158 fun b78 =>
                     ldS (ad2.add 1) w158 fun s83 =>
                     R (.returned (Value.agg #[Value.bool b78, s83.v])) w158))))))))) ∧
            (newC w13 #[Value.bool false, (⟨none, 0, 0⟩ : Slc).v] 44 fun ad26 w159 =>
             Bar (V1 0) w13 w159 ∧
             ((Calls Tryd.prog 54 #[s10.v, Value.int .i64 (IntKind.i64.wrap (0 - a1_n))] w159 fun e32 w160 =>
               ∃ s84 : Slc, e32 = .returned s84.v ∧
               (Bar (V1 0) w159 w160 ∧
                ((Calls Tryd.prog 66 #[Value.bool false, s84.v] w160 fun e33 w161 =>
                  ∃ b79 : Bool, ∃ s85 : Slc, e33 = .returned (Value.agg #[Value.bool b79, s85.v]) ∧
                  (Bar (V1 0) w160 w161 ∧
                   ((Calls Tryd.prog 81 #[Value.agg #[Value.bool b8, s9.v], Value.agg #[Value.bool b79, s85.v]] w161 fun e34 w162 =>
                     ∃ b80 : Bool, ∃ s86 : Slc, ∃ b81 : Bool, ∃ s87 : Slc, e34 = .returned (Value.tuple #[Value.agg #[Value.bool b80, s86.v], Value.agg #[Value.bool b81, s87.v]]) ∧
                     (newC w162 #[Value.bool false, (⟨none, 0, 0⟩ : Slc).v] 44 fun ad27 w163 =>
                      Bar (V1 0) w162 w163 ∧
                      (stC ad27 (Value.bool b80) w163 fun w164 =>
                       stC (ad27.add 1) s86.v w164 fun w165 =>
                       stC ad26 (Value.bool b81) w165 fun w166 =>
                       stC (ad26.add 1) s87.v w166 fun w167 =>
                       ldB ad27 w167 fun b82 =>
                       ldS (ad27.add 1) w167 fun s88 =>
                       stC ad2 (Value.bool b82) w167 fun w168 =>
                       stC (ad2.add 1) s88.v w168 fun w169 =>
                       ldB ad2 w169 fun b83 =>
                       ldS (ad2.add 1) w169 fun s89 =>
                       R (.returned (Value.agg #[Value.bool b83, s89.v])) w169))) ∧
                    (newC w161 #[Value.bool false, (⟨none, 0, 0⟩ : Slc).v] 44 fun ad28 w170 =>
                     Bar (V1 0) w161 w170 ∧
                     (Calls Tryd.prog 81 #[Value.agg #[Value.bool b8, s9.v], Value.agg #[Value.bool b79, s85.v]] w170 fun e35 w171 =>
                      ∃ b84 : Bool, ∃ s90 : Slc, ∃ b85 : Bool, ∃ s91 : Slc, e35 = .returned (Value.tuple #[Value.agg #[Value.bool b84, s90.v], Value.agg #[Value.bool b85, s91.v]]) ∧
                      (stC ad28 (Value.bool b84) w171 fun w172 =>
                       stC (ad28.add 1) s90.v w172 fun w173 =>
                       stC ad26 (Value.bool b85) w173 fun w174 =>
                       stC (ad26.add 1) s91.v w174 fun w175 =>
                       ldB ad28 w175 fun b86 =>
                       ldS (ad28.add 1) w175 fun s92 =>
                       stC ad2 (Value.bool b86) w175 fun w176 =>
                       stC (ad2.add 1) s92.v w176 fun w177 =>
                       ldB ad2 w177 fun b87 =>
                       ldS (ad2.add 1) w177 fun s93 =>
                       R (.returned (Value.agg #[Value.bool b87, s93.v])) w177)))))) ∧
                 (newC w160 #[Value.bool false, (⟨none, 0, 0⟩ : Slc).v] 44 fun ad29 w178 =>
                  Bar (V1 0) w160 w178 ∧
                  (Calls Tryd.prog 66 #[Value.bool false, s84.v] w178 fun e36 w179 =>
                   ∃ b88 : Bool, ∃ s94 : Slc, e36 = .returned (Value.agg #[Value.bool b88, s94.v]) ∧
                   (Bar (V1 0) w178 w179 ∧
                    (Calls Tryd.prog 81 #[Value.agg #[Value.bool b8, s9.v], Value.agg #[Value.bool b88, s94.v]] w179 fun e37 w180 =>
                     ∃ b89 : Bool, ∃ s95 : Slc, ∃ b90 : Bool, ∃ s96 : Slc, e37 = .returned (Value.tuple #[Value.agg #[Value.bool b89, s95.v], Value.agg #[Value.bool b90, s96.v]]) ∧
                     (stC ad29 (Value.bool b89) w180 fun w181 =>
                      stC (ad29.add 1) s95.v w181 fun w182 =>
                      stC ad26 (Value.bool b90) w182 fun w183 =>
                      stC (ad26.add 1) s96.v w183 fun w184 =>
                      ldB ad29 w184 fun b91 =>
                      ldS (ad29.add 1) w184 fun s97 =>
                      stC ad2 (Value.bool b91) w184 fun w185 =>
                      stC (ad2.add 1) s97.v w185 fun w186 =>
                      ldB ad2 w186 fun b92 =>
                      ldS (ad2.add 1) w186 fun s98 =>
                      R (.returned (Value.agg #[Value.bool b92, s98.v])) w186)))))))) ∧
              (newC w159 #[Value.bool false, (⟨none, 0, 0⟩ : Slc).v] 44 fun ad30 w187 =>
               Bar (V1 0) w159 w187 ∧
               (Calls Tryd.prog 54 #[s10.v, Value.int .i64 (IntKind.i64.wrap (0 - a1_n))] w187 fun e38 w188 =>
                ∃ s99 : Slc, e38 = .returned s99.v ∧
                (Bar (V1 0) w187 w188 ∧
                 (Calls Tryd.prog 66 #[Value.bool false, s99.v] w188 fun e39 w189 =>
                  ∃ b93 : Bool, ∃ s100 : Slc, e39 = .returned (Value.agg #[Value.bool b93, s100.v]) ∧
                  (Bar (V1 0) w188 w189 ∧
                   (Calls Tryd.prog 81 #[Value.agg #[Value.bool b8, s9.v], Value.agg #[Value.bool b93, s100.v]] w189 fun e40 w190 =>
                    ∃ b94 : Bool, ∃ s101 : Slc, ∃ b95 : Bool, ∃ s102 : Slc, e40 = .returned (Value.tuple #[Value.agg #[Value.bool b94, s101.v], Value.agg #[Value.bool b95, s102.v]]) ∧
                    (stC ad30 (Value.bool b94) w190 fun w191 =>
                     stC (ad30.add 1) s101.v w191 fun w192 =>
                     stC ad26 (Value.bool b95) w192 fun w193 =>
                     stC (ad26.add 1) s102.v w193 fun w194 =>
                     ldB ad30 w194 fun b96 =>
                     ldS (ad30.add 1) w194 fun s103 =>
                     stC ad2 (Value.bool b96) w194 fun w195 =>
                     stC (ad2.add 1) s103.v w195 fun w196 =>
                     ldB ad2 w196 fun b97 =>
                     ldS (ad2.add 1) w196 fun s104 =>
                     R (.returned (Value.agg #[Value.bool b97, s104.v])) w196))))))))))))) ∧
        ((newC w7.drew #[Value.bool false, (⟨none, 0, 0⟩ : Slc).v] 44 fun ad31 w197 =>
          Bar (V1 0) w7.drew w197 ∧
          ((Calls Tryd.prog 52 #[Value.int .i64 1] w197 fun e41 w198 =>
            ∃ s105 : Slc, e41 = .returned s105.v ∧
            (Bar (V1 0) w197 w198 ∧
             ((Calls Tryd.prog 54 #[s105.v, Value.int .i64 (IntKind.i64.wrap (0 - a1_n))] w198 fun e42 w199 =>
               ∃ s106 : Slc, e42 = .returned s106.v ∧
               (Bar (V1 0) w198 w199 ∧
                ((Calls Tryd.prog 66 #[Value.bool false, s106.v] w199 fun e43 w200 =>
                  ∃ b98 : Bool, ∃ s107 : Slc, e43 = .returned (Value.agg #[Value.bool b98, s107.v]) ∧
                  (Bar (V1 0) w199 w200 ∧
                   ((Calls Tryd.prog 81 #[Value.agg #[Value.bool b8, s9.v], Value.agg #[Value.bool b98, s107.v]] w200 fun e44 w201 =>
                     ∃ b99 : Bool, ∃ s108 : Slc, ∃ b100 : Bool, ∃ s109 : Slc, e44 = .returned (Value.tuple #[Value.agg #[Value.bool b99, s108.v], Value.agg #[Value.bool b100, s109.v]]) ∧
                     (newC w201 #[Value.bool false, (⟨none, 0, 0⟩ : Slc).v] 44 fun ad32 w202 =>
                      Bar (V1 0) w201 w202 ∧
                      (stC ad31 (Value.bool b99) w202 fun w203 =>
                       stC (ad31.add 1) s108.v w203 fun w204 =>
                       stC ad32 (Value.bool b100) w204 fun w205 =>
                       stC (ad32.add 1) s109.v w205 fun w206 =>
                       ldB ad31 w206 fun b101 =>
                       ldS (ad31.add 1) w206 fun s110 =>
                       stC ad2 (Value.bool b101) w206 fun w207 =>
                       stC (ad2.add 1) s110.v w207 fun w208 =>
                       ldB ad2 w208 fun b102 =>
                       ldS (ad2.add 1) w208 fun s111 =>
                       R (.returned (Value.agg #[Value.bool b102, s111.v])) w208))) ∧
                    (newC w200 #[Value.bool false, (⟨none, 0, 0⟩ : Slc).v] 44 fun ad33 w209 =>
                     Bar (V1 0) w200 w209 ∧
                     (Calls Tryd.prog 81 #[Value.agg #[Value.bool b8, s9.v], Value.agg #[Value.bool b98, s107.v]] w209 fun e45 w210 =>
                      ∃ b103 : Bool, ∃ s112 : Slc, ∃ b104 : Bool, ∃ s113 : Slc, e45 = .returned (Value.tuple #[Value.agg #[Value.bool b103, s112.v], Value.agg #[Value.bool b104, s113.v]]) ∧
                      (stC ad31 (Value.bool b103) w210 fun w211 =>
                       stC (ad31.add 1) s112.v w211 fun w212 =>
                       stC ad33 (Value.bool b104) w212 fun w213 =>
                       stC (ad33.add 1) s113.v w213 fun w214 =>
                       ldB ad31 w214 fun b105 =>
                       ldS (ad31.add 1) w214 fun s114 =>
                       stC ad2 (Value.bool b105) w214 fun w215 =>
                       stC (ad2.add 1) s114.v w215 fun w216 =>
                       ldB ad2 w216 fun b106 =>
                       ldS (ad2.add 1) w216 fun s115 =>
                       R (.returned (Value.agg #[Value.bool b106, s115.v])) w216)))))) ∧
                 (newC w199 #[Value.bool false, (⟨none, 0, 0⟩ : Slc).v] 44 fun ad34 w217 =>
                  Bar (V1 0) w199 w217 ∧
                  (Calls Tryd.prog 66 #[Value.bool false, s106.v] w217 fun e46 w218 =>
                   ∃ b107 : Bool, ∃ s116 : Slc, e46 = .returned (Value.agg #[Value.bool b107, s116.v]) ∧
                   (Bar (V1 0) w217 w218 ∧
                    (Calls Tryd.prog 81 #[Value.agg #[Value.bool b8, s9.v], Value.agg #[Value.bool b107, s116.v]] w218 fun e47 w219 =>
                     ∃ b108 : Bool, ∃ s117 : Slc, ∃ b109 : Bool, ∃ s118 : Slc, e47 = .returned (Value.tuple #[Value.agg #[Value.bool b108, s117.v], Value.agg #[Value.bool b109, s118.v]]) ∧
                     (stC ad31 (Value.bool b108) w219 fun w220 =>
                      stC (ad31.add 1) s117.v w220 fun w221 =>
                      stC ad34 (Value.bool b109) w221 fun w222 =>
                      stC (ad34.add 1) s118.v w222 fun w223 =>
                      ldB ad31 w223 fun b110 =>
                      ldS (ad31.add 1) w223 fun s119 =>
                      stC ad2 (Value.bool b110) w223 fun w224 =>
                      stC (ad2.add 1) s119.v w224 fun w225 =>
                      ldB ad2 w225 fun b111 =>
                      ldS (ad2.add 1) w225 fun s120 =>
                      R (.returned (Value.agg #[Value.bool b111, s120.v])) w225)))))))) ∧
              (newC w198 #[Value.bool false, (⟨none, 0, 0⟩ : Slc).v] 44 fun ad35 w226 =>
               Bar (V1 0) w198 w226 ∧
               (Calls Tryd.prog 54 #[s105.v, Value.int .i64 (IntKind.i64.wrap (0 - a1_n))] w226 fun e48 w227 =>
                ∃ s121 : Slc, e48 = .returned s121.v ∧
                (Bar (V1 0) w226 w227 ∧
                 (Calls Tryd.prog 66 #[Value.bool false, s121.v] w227 fun e49 w228 =>
                  ∃ b112 : Bool, ∃ s122 : Slc, e49 = .returned (Value.agg #[Value.bool b112, s122.v]) ∧
                  (Bar (V1 0) w227 w228 ∧
                   (Calls Tryd.prog 81 #[Value.agg #[Value.bool b8, s9.v], Value.agg #[Value.bool b112, s122.v]] w228 fun e50 w229 =>
                    ∃ b113 : Bool, ∃ s123 : Slc, ∃ b114 : Bool, ∃ s124 : Slc, e50 = .returned (Value.tuple #[Value.agg #[Value.bool b113, s123.v], Value.agg #[Value.bool b114, s124.v]]) ∧
                    (stC ad31 (Value.bool b113) w229 fun w230 =>
                     stC (ad31.add 1) s123.v w230 fun w231 =>
                     stC ad35 (Value.bool b114) w231 fun w232 =>
                     stC (ad35.add 1) s124.v w232 fun w233 =>
                     ldB ad31 w233 fun b115 =>
                     ldS (ad31.add 1) w233 fun s125 =>
                     stC ad2 (Value.bool b115) w233 fun w234 =>
                     stC (ad2.add 1) s125.v w234 fun w235 =>
                     ldB ad2 w235 fun b116 =>
                     ldS (ad2.add 1) w235 fun s126 =>
                     R (.returned (Value.agg #[Value.bool b116, s126.v])) w235)))))))))) ∧
           (newC w197 #[Value.bool false, (⟨none, 0, 0⟩ : Slc).v] 44 fun ad36 w236 =>
            Bar (V1 0) w197 w236 ∧
            (Calls Tryd.prog 52 #[Value.int .i64 1] w236 fun e51 w237 =>
             ∃ s127 : Slc, e51 = .returned s127.v ∧
             (Bar (V1 0) w236 w237 ∧
              (Calls Tryd.prog 54 #[s127.v, Value.int .i64 (IntKind.i64.wrap (0 - a1_n))] w237 fun e52 w238 =>
               ∃ s128 : Slc, e52 = .returned s128.v ∧
               (Bar (V1 0) w237 w238 ∧
                (Calls Tryd.prog 66 #[Value.bool false, s128.v] w238 fun e53 w239 =>
                 ∃ b117 : Bool, ∃ s129 : Slc, e53 = .returned (Value.agg #[Value.bool b117, s129.v]) ∧
                 (Bar (V1 0) w238 w239 ∧
                  (Calls Tryd.prog 81 #[Value.agg #[Value.bool b8, s9.v], Value.agg #[Value.bool b117, s129.v]] w239 fun e54 w240 =>
                   ∃ b118 : Bool, ∃ s130 : Slc, ∃ b119 : Bool, ∃ s131 : Slc, e54 = .returned (Value.tuple #[Value.agg #[Value.bool b118, s130.v], Value.agg #[Value.bool b119, s131.v]]) ∧
                   (stC ad31 (Value.bool b118) w240 fun w241 =>
                    stC (ad31.add 1) s130.v w241 fun w242 =>
                    stC ad36 (Value.bool b119) w242 fun w243 =>
                    stC (ad36.add 1) s131.v w243 fun w244 =>
                    ldB ad31 w244 fun b120 =>
                    ldS (ad31.add 1) w244 fun s132 =>
                    stC ad2 (Value.bool b120) w244 fun w245 =>
                    stC (ad2.add 1) s132.v w245 fun w246 =>
                    ldB ad2 w246 fun b121 =>
                    ldS (ad2.add 1) w246 fun s133 =>
                    R (.returned (Value.agg #[Value.bool b121, s133.v])) w246))))))))))) ∧
         (newC w7.drew #[Value.bool false, (⟨none, 0, 0⟩ : Slc).v] 44 fun ad37 w247 =>
          Bar (V1 0) w7.drew w247 ∧
          ((Calls Tryd.prog 52 #[Value.int .i64 1] w247 fun e55 w248 =>
            ∃ s134 : Slc, e55 = .returned s134.v ∧
            (Bar (V1 0) w247 w248 ∧
             ((Calls Tryd.prog 54 #[s134.v, Value.int .i64 (IntKind.i64.wrap (0 - a1_n))] w248 fun e56 w249 =>
               ∃ s135 : Slc, e56 = .returned s135.v ∧
               (Bar (V1 0) w248 w249 ∧
                ((Calls Tryd.prog 66 #[Value.bool false, s135.v] w249 fun e57 w250 =>
                  ∃ b122 : Bool, ∃ s136 : Slc, e57 = .returned (Value.agg #[Value.bool b122, s136.v]) ∧
                  (Bar (V1 0) w249 w250 ∧
                   ((Calls Tryd.prog 81 #[Value.agg #[Value.bool b8, s9.v], Value.agg #[Value.bool b122, s136.v]] w250 fun e58 w251 =>
                     ∃ b123 : Bool, ∃ s137 : Slc, ∃ b124 : Bool, ∃ s138 : Slc, e58 = .returned (Value.tuple #[Value.agg #[Value.bool b123, s137.v], Value.agg #[Value.bool b124, s138.v]]) ∧
                     (newC w251 #[Value.bool false, (⟨none, 0, 0⟩ : Slc).v] 44 fun ad38 w252 =>
                      Bar (V1 0) w251 w252 ∧
                      (stC ad38 (Value.bool b123) w252 fun w253 =>
                       stC (ad38.add 1) s137.v w253 fun w254 =>
                       stC ad37 (Value.bool b124) w254 fun w255 =>
                       stC (ad37.add 1) s138.v w255 fun w256 =>
                       ldB ad38 w256 fun b125 =>
                       ldS (ad38.add 1) w256 fun s139 =>
                       stC ad2 (Value.bool b125) w256 fun w257 =>
                       stC (ad2.add 1) s139.v w257 fun w258 =>
                       ldB ad2 w258 fun b126 =>
                       ldS (ad2.add 1) w258 fun s140 =>
                       R (.returned (Value.agg #[Value.bool b126, s140.v])) w258))) ∧
                    (newC w250 #[Value.bool false, (⟨none, 0, 0⟩ : Slc).v] 44 fun ad39 w259 =>
                     Bar (V1 0) w250 w259 ∧
                     (Calls Tryd.prog 81 #[Value.agg #[Value.bool b8, s9.v], Value.agg #[Value.bool b122, s136.v]] w259 fun e59 w260 =>
                      ∃ b127 : Bool, ∃ s141 : Slc, ∃ b128 : Bool, ∃ s142 : Slc, e59 = .returned (Value.tuple #[Value.agg #[Value.bool b127, s141.v], Value.agg #[Value.bool b128, s142.v]]) ∧
                      (stC ad39 (Value.bool b127) w260 fun w261 =>
                       stC (ad39.add 1) s141.v w261 fun w262 =>
                       stC ad37 (Value.bool b128) w262 fun w263 =>
                       stC (ad37.add 1) s142.v w263 fun w264 =>
                       ldB ad39 w264 fun b129 =>
                       ldS (ad39.add 1) w264 fun s143 =>
                       stC ad2 (Value.bool b129) w264 fun w265 =>
                       stC (ad2.add 1) s143.v w265 fun w266 =>
                       ldB ad2 w266 fun b130 =>
                       ldS (ad2.add 1) w266 fun s144 =>
                       R (.returned (Value.agg #[Value.bool b130, s144.v])) w266)))))) ∧
                 (newC w249 #[Value.bool false, (⟨none, 0, 0⟩ : Slc).v] 44 fun ad40 w267 =>
                  Bar (V1 0) w249 w267 ∧
                  (Calls Tryd.prog 66 #[Value.bool false, s135.v] w267 fun e60 w268 =>
                   ∃ b131 : Bool, ∃ s145 : Slc, e60 = .returned (Value.agg #[Value.bool b131, s145.v]) ∧
                   (Bar (V1 0) w267 w268 ∧
                    (Calls Tryd.prog 81 #[Value.agg #[Value.bool b8, s9.v], Value.agg #[Value.bool b131, s145.v]] w268 fun e61 w269 =>
                     ∃ b132 : Bool, ∃ s146 : Slc, ∃ b133 : Bool, ∃ s147 : Slc, e61 = .returned (Value.tuple #[Value.agg #[Value.bool b132, s146.v], Value.agg #[Value.bool b133, s147.v]]) ∧
                     (stC ad40 (Value.bool b132) w269 fun w270 =>
                      stC (ad40.add 1) s146.v w270 fun w271 =>
                      stC ad37 (Value.bool b133) w271 fun w272 =>
                      stC (ad37.add 1) s147.v w272 fun w273 =>
                      ldB ad40 w273 fun b134 =>
                      ldS (ad40.add 1) w273 fun s148 =>
                      stC ad2 (Value.bool b134) w273 fun w274 =>
                      stC (ad2.add 1) s148.v w274 fun w275 =>
                      ldB ad2 w275 fun b135 =>
                      ldS (ad2.add 1) w275 fun s149 =>
                      R (.returned (Value.agg #[Value.bool b135, s149.v])) w275)))))))) ∧
              (newC w248 #[Value.bool false, (⟨none, 0, 0⟩ : Slc).v] 44 fun ad41 w276 =>
               Bar (V1 0) w248 w276 ∧
               (Calls Tryd.prog 54 #[s134.v, Value.int .i64 (IntKind.i64.wrap (0 - a1_n))] w276 fun e62 w277 =>
                ∃ s150 : Slc, e62 = .returned s150.v ∧
                (Bar (V1 0) w276 w277 ∧
                 (Calls Tryd.prog 66 #[Value.bool false, s150.v] w277 fun e63 w278 =>
                  ∃ b136 : Bool, ∃ s151 : Slc, e63 = .returned (Value.agg #[Value.bool b136, s151.v]) ∧
                  (Bar (V1 0) w277 w278 ∧
                   (Calls Tryd.prog 81 #[Value.agg #[Value.bool b8, s9.v], Value.agg #[Value.bool b136, s151.v]] w278 fun e64 w279 =>
                    ∃ b137 : Bool, ∃ s152 : Slc, ∃ b138 : Bool, ∃ s153 : Slc, e64 = .returned (Value.tuple #[Value.agg #[Value.bool b137, s152.v], Value.agg #[Value.bool b138, s153.v]]) ∧
                    (stC ad41 (Value.bool b137) w279 fun w280 =>
                     stC (ad41.add 1) s152.v w280 fun w281 =>
                     stC ad37 (Value.bool b138) w281 fun w282 =>
                     stC (ad37.add 1) s153.v w282 fun w283 =>
                     ldB ad41 w283 fun b139 =>
                     ldS (ad41.add 1) w283 fun s154 =>
                     stC ad2 (Value.bool b139) w283 fun w284 =>
                     stC (ad2.add 1) s154.v w284 fun w285 =>
                     ldB ad2 w285 fun b140 =>
                     ldS (ad2.add 1) w285 fun s155 =>
                     R (.returned (Value.agg #[Value.bool b140, s155.v])) w285)))))))))) ∧
           (newC w247 #[Value.bool false, (⟨none, 0, 0⟩ : Slc).v] 44 fun ad42 w286 =>
            Bar (V1 0) w247 w286 ∧
            (Calls Tryd.prog 52 #[Value.int .i64 1] w286 fun e65 w287 =>
             ∃ s156 : Slc, e65 = .returned s156.v ∧
             (Bar (V1 0) w286 w287 ∧
              (Calls Tryd.prog 54 #[s156.v, Value.int .i64 (IntKind.i64.wrap (0 - a1_n))] w287 fun e66 w288 =>
               ∃ s157 : Slc, e66 = .returned s157.v ∧
               (Bar (V1 0) w287 w288 ∧
                (Calls Tryd.prog 66 #[Value.bool false, s157.v] w288 fun e67 w289 =>
                 ∃ b141 : Bool, ∃ s158 : Slc, e67 = .returned (Value.agg #[Value.bool b141, s158.v]) ∧
                 (Bar (V1 0) w288 w289 ∧
                  (Calls Tryd.prog 81 #[Value.agg #[Value.bool b8, s9.v], Value.agg #[Value.bool b141, s158.v]] w289 fun e68 w290 =>
                   ∃ b142 : Bool, ∃ s159 : Slc, ∃ b143 : Bool, ∃ s160 : Slc, e68 = .returned (Value.tuple #[Value.agg #[Value.bool b142, s159.v], Value.agg #[Value.bool b143, s160.v]]) ∧
                   (stC ad42 (Value.bool b142) w290 fun w291 =>
                    stC (ad42.add 1) s159.v w291 fun w292 =>
                    stC ad37 (Value.bool b143) w292 fun w293 =>
                    stC (ad37.add 1) s160.v w293 fun w294 =>
                    ldB ad42 w294 fun b144 =>
                    ldS (ad42.add 1) w294 fun s161 =>
                    stC ad2 (Value.bool b144) w294 fun w295 =>
                    stC (ad2.add 1) s161.v w295 fun w296 =>
                    ldB ad2 w296 fun b145 =>
                    ldS (ad2.add 1) w296 fun s162 =>
                    R (.returned (Value.agg #[Value.bool b145, s162.v])) w296))))))))))))))))) :
    Calls Tryd.prog 53 #[Value.agg #[Value.bool a0_a_0, a0_a_1.v], Value.int .i64 a1_n] w R := by
  refine calls_of_vc (marks [2000007] (fun _ => none)) (by kernel_rfl) Tryd.func53 rfl ?_ ?_
  · refine kcast h ?_; kernel_rfl
  · exact (obl_seq rfl (obl_reg (obl_seq rfl (obl_seq rfl (obl_reg (obl_cond (obl_seq rfl (obl_held (by kernel_rfl) (by kernel_rfl) (by kernel_rfl) (obl_ret (obl_skip (obl_seq rfl (obl_seq rfl (obl_reg (obl_cond (obl_seq rfl (obl_seq rfl (obl_reg (obl_cond (obl_seq rfl (obl_reg (obl_ret (obl_skip (obl_seq rfl (obl_reg (obl_ret (obl_skip (obl_seq rfl (obl_store _ rfl (by kernel_rfl) (obl_seq rfl (obl_reg (obl_ret trivial)))))))))))))))))))))))))))))))

set_option maxRecDepth 100000 in
/-- surd/surdref06.Ceil: function 82. -/
theorem surdref06_Ceil_vc (a0_a_0 : Bool) (a0_a_1 : Slc) (a1_b_0 : Bool) (a1_b_1 : Slc) (w : World) (R : Ending → World → Prop)
    
    (h : newC w #[Value.bool a0_a_0, a0_a_1.v] 44 fun ad1 w1 =>
    newC w1 #[Value.bool a1_b_0, a1_b_1.v] 44 fun ad2 w2 =>
    newC w2 #[Value.bool false, (⟨none, 0, 0⟩ : Slc).v] 44 fun ad3 w3 =>
    newC w3 #[Value.bool false, (⟨none, 0, 0⟩ : Slc).v] 44 fun ad4 w4 =>
    ldB ad1 w4 fun b1 =>
    ldS (ad1.add 1) w4 fun s1 =>
    ldB ad2 w4 fun b2 =>
    ldS (ad2.add 1) w4 fun s2 =>
    Calls Tryd.prog 81 #[Value.agg #[Value.bool b1, s1.v], Value.agg #[Value.bool b2, s2.v]] w4 fun e1 w5 =>
    ∃ b3 : Bool, ∃ s3 : Slc, ∃ b4 : Bool, ∃ s4 : Slc, e1 = .returned (Value.tuple #[Value.agg #[Value.bool b3, s3.v], Value.agg #[Value.bool b4, s4.v]]) ∧
    (newC w5 #[Value.bool false, (⟨none, 0, 0⟩ : Slc).v] 44 fun ad5 w6 =>
     newC w6 #[Value.bool false, (⟨none, 0, 0⟩ : Slc).v] 44 fun ad6 w7 =>
     stC ad5 (Value.bool b3) w7 fun w8 =>
     stC (ad5.add 1) s3.v w8 fun w9 =>
     stC ad6 (Value.bool b4) w9 fun w10 =>
     stC (ad6.add 1) s4.v w10 fun w11 =>
     ldB ad6 w11 fun b5 =>
     ldS (ad6.add 1) w11 fun s5 =>
     Calls Tryd.prog 28 #[Value.agg #[Value.bool b5, s5.v]] w11 fun e2 w12 =>
     ∃ x1 : Int, e2 = .returned (Value.int .i64 x1) ∧
     (br (x1 == 0)
      (∃ V1 : Nat → Nat → Prop, Out (V1 0) ad5 (ldB ad5 w12.drew fun b6 =>
        ldS (ad5.add 1) w12.drew fun s6 =>
        Out (V1 1) ad6 (ldB ad6 w12.drew fun b7 =>
         ldS (ad6.add 1) w12.drew fun s7 =>
         stC ad3 (Value.bool b6) w12.drew fun w13 =>
         stC (ad3.add 1) s6.v w13 fun w14 =>
         Bar (V1 1) w12.drew w14 ∧
         (stC ad4 (Value.bool b7) w14 fun w15 =>
          stC (ad4.add 1) s7.v w15 fun w16 =>
          ldB ad3 w16 fun b8 =>
          ldS (ad3.add 1) w16 fun s8 =>
          ldB ad4 w16 fun b9 =>
          ldS (ad4.add 1) w16 fun s9 =>
          R (.returned (Value.tuple #[Value.agg #[Value.bool b8, s8.v], Value.agg #[Value.bool b9, s9.v]])) w16))))
      (ldB ad5 w12.drew fun b10 =>
       ldS (ad5.add 1) w12.drew fun s10 =>
       Calls Tryd.prog 77 #[Value.int .i64 1] w12.drew fun e3 w17 =>
       ∃ b11 : Bool, ∃ s11 : Slc, e3 = .returned (Value.agg #[Value.bool b11, s11.v]) ∧
       (Ahead w12.drew w17 ∧
        (Calls Tryd.prog 91 #[Value.agg #[Value.bool b10, s10.v], Value.agg #[Value.bool b11, s11.v]] w17 fun e4 w18 =>
         ∃ b12 : Bool, ∃ s12 : Slc, e4 = .returned (Value.agg #[Value.bool b12, s12.v]) ∧
         (Ahead w17 w18 ∧
          (stC ad5 (Value.bool b12) w18 fun w19 =>
           stC (ad5.add 1) s12.v w19 fun w20 =>
           ∃ V2 : Nat → Nat → Prop, Out (V2 0) ad5 (ldB ad5 w20.drew fun b13 =>
            ldS (ad5.add 1) w20.drew fun s13 =>
            Out (V2 1) ad1 (ldB ad1 w20.drew fun b14 =>
             ldS (ad1.add 1) w20.drew fun s14 =>
             Out (V2 2) ad5 (ldB ad5 w20.drew fun b15 =>
              ldS (ad5.add 1) w20.drew fun s15 =>
              Out (V2 3) ad2 (ldB ad2 w20.drew fun b16 =>
               ldS (ad2.add 1) w20.drew fun s16 =>
               Calls Tryd.prog 105 #[Value.agg #[Value.bool b15, s15.v], Value.agg #[Value.bool b16, s16.v]] w20.drew fun e5 w21 =>
               ∃ b17 : Bool, ∃ s17 : Slc, e5 = .returned (Value.agg #[Value.bool b17, s17.v]) ∧
               (Bar (V2 0) w20.drew w21 ∧
                (Bar (V2 1) w20.drew w21 ∧
                 (Calls Tryd.prog 104 #[Value.agg #[Value.bool b14, s14.v], Value.agg #[Value.bool b17, s17.v]] w21 fun e6 w22 =>
                  ∃ b18 : Bool, ∃ s18 : Slc, e6 = .returned (Value.agg #[Value.bool b18, s18.v]) ∧
                  (Bar (V2 0) w21 w22 ∧
                   (stC ad3 (Value.bool b13) w22 fun w23 =>
                    stC (ad3.add 1) s13.v w23 fun w24 =>
                    stC ad4 (Value.bool b18) w24 fun w25 =>
                    stC (ad4.add 1) s18.v w25 fun w26 =>
                    ldB ad3 w26 fun b19 =>
                    ldS (ad3.add 1) w26 fun s19 =>
                    ldB ad4 w26 fun b20 =>
                    ldS (ad4.add 1) w26 fun s20 =>
                    R (.returned (Value.tuple #[Value.agg #[Value.bool b19, s19.v], Value.agg #[Value.bool b20, s20.v]])) w26))))))))))))))))) :
    Calls Tryd.prog 82 #[Value.agg #[Value.bool a0_a_0, a0_a_1.v], Value.agg #[Value.bool a1_b_0, a1_b_1.v]] w R := by
  refine calls_of_vc (marks [2000003, 2000005] (fun _ => none)) (by kernel_rfl) Tryd.func82 rfl ?_ ?_
  · refine kcast h ?_; kernel_rfl
  · exact (obl_seq rfl (obl_reg (obl_seq rfl (obl_reg (obl_seq rfl (obl_seq rfl (obl_reg (obl_cond (obl_seq rfl (obl_store _ rfl (by kernel_rfl) (obl_ret (obl_skip (obl_seq rfl (obl_held (by kernel_rfl) (by kernel_rfl) (by kernel_rfl) (obl_seq rfl (obl_store _ rfl (by kernel_rfl) (obl_ret trivial)))))))))))))))))

set_option maxRecDepth 100000 in
/-- surd/whole.fits: function 112. -/
theorem whole_fits_vc (a0_a_0 : Bool) (a0_a_1 : Slc) (w : World) (R : Ending → World → Prop)
    
    (h : newC w #[Value.bool a0_a_0, a0_a_1.v] 31 fun ad1 w1 =>
    newC w1 #[Value.bool false, (⟨none, 0, 0⟩ : Slc).v] 31 fun ad2 w2 =>
    ldS (ad1.add 1) w2 fun s1 =>
    Calls Tryd.prog 102 #[s1.v] w2 fun e1 w3 =>
    ∃ x1 : Int, e1 = .returned (Value.int .i64 x1) ∧
    (br (decide (x1 > 67108864))
     (stC ad2 (Value.bool false) w3 fun w4 =>
      stC (ad2.add 1) ((⟨none, 0, 0⟩ : Slc).v) w4 fun w5 =>
      ldB ad2 w5 fun b1 =>
      ldS (ad2.add 1) w5 fun s2 =>
      R (.returned (Value.tuple #[Value.agg #[Value.bool b1, s2.v], Value.int .i64 3])) w5)
     (ldB ad1 w3 fun b2 =>
      ldS (ad1.add 1) w3 fun s3 =>
      Calls Tryd.prog 118 #[Value.agg #[Value.bool b2, s3.v]] w3 fun e2 w6 =>
      ∃ b3 : Bool, ∃ s4 : Slc, e2 = .returned (Value.agg #[Value.bool b3, s4.v]) ∧
      (stC ad2 (Value.bool b3) w6 fun w7 =>
       stC (ad2.add 1) s4.v w7 fun w8 =>
       ldB ad2 w8 fun b4 =>
       ldS (ad2.add 1) w8 fun s5 =>
       R (.returned (Value.tuple #[Value.agg #[Value.bool b4, s5.v], Value.int .i64 0])) w8)))) :
    Calls Tryd.prog 112 #[Value.agg #[Value.bool a0_a_0, a0_a_1.v]] w R := by
  refine calls_of_vc (fun _ => none) (by kernel_rfl) Tryd.func112 rfl ?_ ?_
  · refine kcast h ?_; kernel_rfl
  · exact (obl_seq rfl (obl_reg (obl_seq rfl (obl_seq rfl (obl_reg (obl_cond (obl_seq rfl (obl_reg (obl_ret (obl_skip (obl_seq rfl (obl_reg (obl_ret trivial)))))))))))))

set_option maxRecDepth 100000 in
/-- surd/whole.norm: function 118. -/
theorem whole_norm_vc (a0_a_0 : Bool) (a0_a_1 : Slc) (w : World) (R : Ending → World → Prop)
    
    (h : newC w #[Value.bool a0_a_0, a0_a_1.v] 31 fun ad1 w1 =>
    newC w1 #[Value.bool false, (⟨none, 0, 0⟩ : Slc).v] 31 fun ad2 w2 =>
    ldS (ad1.add 1) w2 fun s1 =>
    Calls Tryd.prog 126 #[s1.v] w2 fun e1 w3 =>
    ∃ s2 : Slc, e1 = .returned s2.v ∧
    (ldB ad1 w3 fun b1 =>
     br b1
     (stC ad2 (Value.bool (decide ((s2.n : Int) > 0))) w3 fun w4 =>
      stC (ad2.add 1) s2.v w4 fun w5 =>
      ldB ad2 w5 fun b2 =>
      ldS (ad2.add 1) w5 fun s3 =>
      R (.returned (Value.agg #[Value.bool b2, s3.v])) w5)
     (stC ad2 (Value.bool false) w3 fun w6 =>
      stC (ad2.add 1) s2.v w6 fun w7 =>
      ldB ad2 w7 fun b3 =>
      ldS (ad2.add 1) w7 fun s4 =>
      R (.returned (Value.agg #[Value.bool b3, s4.v])) w7))) :
    Calls Tryd.prog 118 #[Value.agg #[Value.bool a0_a_0, a0_a_1.v]] w R := by
  refine calls_of_vc (fun _ => none) (by kernel_rfl) Tryd.func118 rfl ?_ ?_
  · refine kcast h ?_; kernel_rfl
  · exact (obl_seq rfl (obl_reg (obl_seq rfl (obl_reg (obl_seq rfl (obl_reg (obl_ret trivial)))))))

end Go.Proofs.YthhbjhdnaopcnaaDoor
