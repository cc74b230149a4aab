/- Verification conditions of some of the program's functions, printed by a program of this session. No condition. -/
import Derived.Test.YthhbjhdnaopcnaaDoorProg
import Derived.Test.YthhbjhdnaopcnaaDoorEng
namespace Go.Proofs.YthhbjhdnaopcnaaDoor
open Go Go.RowKit Eng
set_option linter.unusedVariables false

set_option maxRecDepth 100000 in
/-- surd/surdref06.Of: function 21. -/
theorem surdref06_Of_vc (a0_neg : Bool) (a1_limbs : Slc) (w : World) (R : Ending → World → Prop)
    
    (h : newC w #[Value.bool false, (⟨none, 0, 0⟩ : Slc).v] 44 fun ad1 w1 =>
    Calls Tryd.prog 67 #[a1_limbs.v] w1 fun e1 w2 =>
    ∃ s1 : Slc, e1 = .returned s1.v ∧
    (Calls Tryd.prog 66 #[Value.bool a0_neg, s1.v] w2 fun e2 w3 =>
      ∃ b1 : Bool, ∃ s2 : Slc, e2 = .returned (Value.agg #[Value.bool b1, s2.v]) ∧
      (stC ad1 (Value.bool b1) w3 fun w4 =>
        stC (ad1.add 1) s2.v w4 fun w5 =>
        ldB ad1 w5 fun b2 =>
        ldS (ad1.add 1) w5 fun s3 =>
        R (.returned (Value.agg #[Value.bool b2, s3.v])) w5))) :
    Calls Tryd.prog 21 #[Value.bool a0_neg, a1_limbs.v] w R := by
  refine calls_of_vc (fun _ => none) (by kernel_rfl) Tryd.func21 rfl ?_ ?_
  · refine kcast h ?_; kernel_rfl
  · exact (obl_seq rfl (obl_reg (obl_seq rfl (obl_reg (obl_ret trivial)))))

set_option maxRecDepth 100000 in
/-- (surd/surdref06.Z).Is: function 43. -/
theorem surdref06_Z_Is_vc (a0_a_0 : Bool) (a0_a_1 : Slc) (a1_neg : Bool) (a2_limbs : Slc) (w : World) (R : Ending → World → Prop)
    
    (h : newC w #[Value.bool a0_a_0, a0_a_1.v] 44 fun ad1 w1 =>
    ldB ad1 w1 fun b1 =>
    br (b1 == a1_neg)
    (ldS (ad1.add 1) w1 fun s1 =>
      Calls Tryd.prog 55 #[s1.v, a2_limbs.v] w1 fun e1 w2 =>
      ∃ b2 : Bool, e1 = .returned (Value.bool b2) ∧
      (R (.returned (Value.bool b2)) w2))
    (R (.returned (Value.bool false)) w1)) :
    Calls Tryd.prog 43 #[Value.agg #[Value.bool a0_a_0, a0_a_1.v], Value.bool a1_neg, a2_limbs.v] w R := by
  refine calls_of_vc (fun _ => none) (by kernel_rfl) Tryd.func43 rfl ?_ ?_
  · refine kcast h ?_; kernel_rfl
  · exact (obl_seq rfl (obl_reg (obl_seq rfl (obl_reg (obl_ret trivial)))))

set_option maxRecDepth 100000 in
/-- surd/surdref06.make1: function 66. -/
theorem surdref06_make1_vc (a0_neg : Bool) (a1_n : Slc) (w : World) (R : Ending → World → Prop)
    
    (h : newC w #[Value.bool false, (⟨none, 0, 0⟩ : Slc).v] 44 fun ad1 w1 =>
    br a0_neg
    (Calls Tryd.prog 76 #[a1_n.v] w1 fun e1 w2 =>
      ∃ b1 : Bool, e1 = .returned (Value.bool b1) ∧
      (stC ad1 (Value.bool (!b1)) w2 fun w3 =>
        stC (ad1.add 1) a1_n.v w3 fun w4 =>
        ldB ad1 w4 fun b2 =>
        ldS (ad1.add 1) w4 fun s1 =>
        R (.returned (Value.agg #[Value.bool b2, s1.v])) w4))
    (stC ad1 (Value.bool false) w1 fun w5 =>
      stC (ad1.add 1) a1_n.v w5 fun w6 =>
      ldB ad1 w6 fun b3 =>
      ldS (ad1.add 1) w6 fun s2 =>
      R (.returned (Value.agg #[Value.bool b3, s2.v])) w6)) :
    Calls Tryd.prog 66 #[Value.bool a0_neg, a1_n.v] w R := by
  refine calls_of_vc (fun _ => none) (by kernel_rfl) Tryd.func66 rfl ?_ ?_
  · refine kcast h ?_; kernel_rfl
  · exact (obl_seq rfl (obl_reg (obl_seq rfl (obl_reg (obl_ret trivial)))))

set_option maxRecDepth 100000 in
/-- surd/surdref08.Int: function 29. -/
theorem surdref08_Int_vc (a0_v : Int) (a1_e : Int) (w : World) (R : Ending → World → Prop)
    
    (h : newC w #[Value.bool false, (⟨none, 0, 0⟩ : Slc).v, Value.int .i64 0] 47 fun ad1 w1 =>
    Calls Tryd.prog 77 #[Value.int .i64 a0_v] w1 fun e1 w2 =>
    ∃ b1 : Bool, ∃ s1 : Slc, e1 = .returned (Value.agg #[Value.bool b1, s1.v]) ∧
    (Calls Tryd.prog 22 #[Value.agg #[Value.bool b1, s1.v], Value.int .i64 a1_e] w2 fun e2 w3 =>
      ∃ b2 : Bool, ∃ s2 : Slc, ∃ x1 : Int, e2 = .returned (Value.agg #[Value.bool b2, s2.v, Value.int .i64 x1]) ∧
      (stC ad1 (Value.bool b2) w3 fun w4 =>
        stC (ad1.add 1) s2.v w4 fun w5 =>
        stC (ad1.add 2) (Value.int .i64 x1) w5 fun w6 =>
        ldB ad1 w6 fun b3 =>
        ldS (ad1.add 1) w6 fun s3 =>
        ldI .i64 (ad1.add 2) w6 fun x2 =>
        R (.returned (Value.agg #[Value.bool b3, s3.v, Value.int .i64 x2])) w6))) :
    Calls Tryd.prog 29 #[Value.int .i64 a0_v, Value.int .i64 a1_e] w R := by
  refine calls_of_vc (fun _ => none) (by kernel_rfl) Tryd.func29 rfl ?_ ?_
  · refine kcast h ?_; kernel_rfl
  · exact (obl_seq rfl (obl_reg (obl_seq rfl (obl_reg (obl_ret trivial)))))

set_option maxRecDepth 100000 in
/-- surd/surdref08.Of: function 22. -/
theorem surdref08_Of_vc (a0_m_0 : Bool) (a0_m_1 : Slc) (a1_e : Int) (w : World) (R : Ending → World → Prop)
    
    (h : newC w #[Value.bool a0_m_0, a0_m_1.v] 44 fun ad1 w1 =>
    newC w1 #[Value.bool false, (⟨none, 0, 0⟩ : Slc).v, Value.int .i64 0] 47 fun ad2 w2 =>
    ldB ad1 w2 fun b1 =>
    ldS (ad1.add 1) w2 fun s1 =>
    Calls Tryd.prog 28 #[Value.agg #[Value.bool b1, s1.v]] w2 fun e1 w3 =>
    ∃ x1 : Int, e1 = .returned (Value.int .i64 x1) ∧
    (br (x1 == 0)
      (stC ad2 (Value.bool false) w3 fun w4 =>
        stC (ad2.add 1) ((⟨none, 0, 0⟩ : Slc).v) w4 fun w5 =>
        stC (ad2.add 2) (Value.int .i64 0) w5 fun w6 =>
        ldB ad2 w6 fun b2 =>
        ldS (ad2.add 1) w6 fun s2 =>
        ldI .i64 (ad2.add 2) w6 fun x2 =>
        R (.returned (Value.agg #[Value.bool b2, s2.v, Value.int .i64 x2])) w6)
      (ldS (ad1.add 1) w3 fun s3 =>
        Calls Tryd.prog 68 #[s3.v] w3 fun e2 w7 =>
        ∃ x3 : Int, e2 = .returned (Value.int .i64 x3) ∧
        (ldB ad1 w7.drew fun b3 =>
          ldS (ad1.add 1) w7.drew fun s4 =>
          Calls Tryd.prog 69 #[s4.v, Value.int .i64 x3] w7.drew fun e3 w8 =>
          ∃ s5 : Slc, e3 = .returned s5.v ∧
          (Ahead w7.drew w8 ∧
            (stC ad2 (Value.bool b3) w8 fun w9 =>
              stC (ad2.add 1) s5.v w9 fun w10 =>
              stC (ad2.add 2) (Value.int .i64 (IntKind.i64.wrap (a1_e + x3))) w10 fun w11 =>
              ldB ad2 w11 fun b4 =>
              ldS (ad2.add 1) w11 fun s6 =>
              ldI .i64 (ad2.add 2) w11 fun x4 =>
              R (.returned (Value.agg #[Value.bool b4, s6.v, Value.int .i64 x4])) w11)))))) :
    Calls Tryd.prog 22 #[Value.agg #[Value.bool a0_m_0, a0_m_1.v], Value.int .i64 a1_e] w R := by
  refine calls_of_vc (fun _ => none) (by kernel_rfl) Tryd.func22 rfl ?_ ?_
  · refine kcast h ?_; kernel_rfl
  · exact (obl_seq rfl (obl_reg (obl_seq rfl (obl_seq rfl (obl_reg (obl_cond (obl_seq rfl (obl_reg (obl_ret (obl_skip (obl_seq rfl (obl_reg (obl_seq rfl (obl_held (by kernel_rfl) (by kernel_rfl) (by kernel_rfl) (obl_ret trivial)))))))))))))))

set_option maxRecDepth 100000 in
/-- (surd/surdref08.D).Is: function 30. -/
theorem surdref08_D_Is_vc (a0_d_0 : Bool) (a0_d_1 : Slc) (a0_d_2 : Int) (a1_neg : Bool) (a2_limbs : Slc) (a3_e : Int) (w : World) (R : Ending → World → Prop)
    
    (h : newC w #[Value.bool a0_d_0, a0_d_1.v, Value.int .i64 a0_d_2] 47 fun ad1 w1 =>
    ldB ad1 w1 fun b1 =>
    ldS (ad1.add 1) w1 fun s1 =>
    Calls Tryd.prog 43 #[Value.agg #[Value.bool b1, s1.v], Value.bool a1_neg, a2_limbs.v] w1 fun e1 w2 =>
    ∃ b2 : Bool, e1 = .returned (Value.bool b2) ∧
    (br b2
      (ldI .i64 (ad1.add 2) w2 fun x1 =>
        R (.returned (Value.bool (x1 == a3_e))) w2)
      (R (.returned (Value.bool false)) w2))) :
    Calls Tryd.prog 30 #[Value.agg #[Value.bool a0_d_0, a0_d_1.v, Value.int .i64 a0_d_2], Value.bool a1_neg, a2_limbs.v, Value.int .i64 a3_e] w R := by
  refine calls_of_vc (fun _ => none) (by kernel_rfl) Tryd.func30 rfl ?_ ?_
  · refine kcast h ?_; kernel_rfl
  · exact (obl_seq rfl (obl_reg (obl_seq rfl (obl_reg (obl_ret trivial)))))

set_option maxRecDepth 100000 in
/-- surd/surdref06.Int: function 77. -/
theorem surdref06_Int_vc (a0_v : Int) (w : World) (R : Ending → World → Prop)
    
    (h : newC w #[Value.bool false, (⟨none, 0, 0⟩ : Slc).v] 44 fun ad1 w1 =>
    br (decide (a0_v < 0))
    (newC w1 #[Value.int .u64 (IntKind.u64.wrap ((IntKind.u64.wrap (IntKind.i64.wrap (0 - (IntKind.i64.wrap (a0_v + 1))))) + 1))] 94 fun ad2 w2 =>
      Calls Tryd.prog 67 #[(⟨some ad2, 1, 1⟩ : Slc).v] w2 fun e1 w3 =>
      ∃ s1 : Slc, e1 = .returned s1.v ∧
      (Calls Tryd.prog 66 #[Value.bool true, s1.v] w3 fun e2 w4 =>
        ∃ b1 : Bool, ∃ s2 : Slc, e2 = .returned (Value.agg #[Value.bool b1, s2.v]) ∧
        (stC ad1 (Value.bool b1) w4 fun w5 =>
          stC (ad1.add 1) s2.v w5 fun w6 =>
          ldB ad1 w6 fun b2 =>
          ldS (ad1.add 1) w6 fun s3 =>
          R (.returned (Value.agg #[Value.bool b2, s3.v])) w6)))
    (Calls Tryd.prog 52 #[Value.int .i64 a0_v] w1 fun e3 w7 =>
      ∃ s4 : Slc, e3 = .returned s4.v ∧
      (Calls Tryd.prog 66 #[Value.bool false, s4.v] w7 fun e4 w8 =>
        ∃ b3 : Bool, ∃ s5 : Slc, e4 = .returned (Value.agg #[Value.bool b3, s5.v]) ∧
        (stC ad1 (Value.bool b3) w8 fun w9 =>
          stC (ad1.add 1) s5.v w9 fun w10 =>
          ldB ad1 w10 fun b4 =>
          ldS (ad1.add 1) w10 fun s6 =>
          R (.returned (Value.agg #[Value.bool b4, s6.v])) w10)))) :
    Calls Tryd.prog 77 #[Value.int .i64 a0_v] w R := by
  refine calls_of_vc (fun _ => none) (by kernel_rfl) Tryd.func77 rfl ?_ ?_
  · refine kcast h ?_; kernel_rfl
  · exact (obl_seq rfl (obl_reg (obl_seq rfl (obl_seq rfl (obl_reg (obl_cond (obl_seq rfl (obl_reg (obl_ret (obl_skip (obl_seq rfl (obl_reg (obl_ret trivial)))))))))))))

set_option maxRecDepth 100000 in
/-- (surd/surdref06.Z).Sign: function 28. -/
theorem surdref06_Z_Sign_vc (a0_a_0 : Bool) (a0_a_1 : Slc) (w : World) (R : Ending → World → Prop)
    
    (h : newC w #[Value.bool a0_a_0, a0_a_1.v] 44 fun ad1 w1 =>
    ldB ad1 w1 fun b1 =>
    br b1
    (R (.returned (Value.int .i64 (-1))) w1)
    (ldS (ad1.add 1) w1 fun s1 =>
      Calls Tryd.prog 76 #[s1.v] w1 fun e1 w2 =>
      ∃ b2 : Bool, e1 = .returned (Value.bool b2) ∧
      (br b2
        (R (.returned (Value.int .i64 0)) w2)
        (R (.returned (Value.int .i64 1)) w2)))) :
    Calls Tryd.prog 28 #[Value.agg #[Value.bool a0_a_0, a0_a_1.v]] w R := by
  refine calls_of_vc (fun _ => none) (by kernel_rfl) Tryd.func28 rfl ?_ ?_
  · refine kcast h ?_; kernel_rfl
  · exact (obl_seq rfl (obl_reg (obl_seq rfl (obl_seq rfl (obl_reg (obl_cond (obl_seq rfl (obl_reg (obl_ret (obl_skip (obl_seq rfl (obl_seq rfl (obl_reg (obl_cond (obl_seq rfl (obl_reg (obl_ret (obl_skip (obl_seq rfl (obl_reg (obl_ret trivial)))))))))))))))))))))

def surdref01_Num_Tail_cut (J0 : Slc → Int → World → Prop) (m0 : Slc → Int → World → Nat) : Nat → Option ((Act → World → Prop) × (Act → World → Nat))
  | 0 => some (fun a_ w_ => atSz a_ 14 (atS a_ 0 fun t0_a => atI .i64 a_ 3 fun t3_n => J0 t0_a t3_n w_), fun a_ w_ => mS a_ 0 fun t0_a => mI a_ 3 fun t3_n => m0 t0_a t3_n w_)
  | _ => none

set_option maxRecDepth 100000 in
/-- (surd/surdref01.Num).Tail: function 68. -/
theorem surdref01_Num_Tail_vc (a0_a : Slc) (w : World) (R : Ending → World → Prop)
    (J0 : Slc → Int → World → Prop) (m0 : Slc → Int → World → Nat)
    (h : br ((a0_a.n : Int) == 0)
    (R (.returned (Value.int .i64 0)) w)
    (J0 a0_a 0 w))
    (h0 : ∀ (t0_a : Slc) (t3_n : Int) (w_ : World), J0 t0_a t3_n w_ → 
    Calls Tryd.prog 99 #[t0_a.v, Value.int .i64 t3_n] w_ fun e1 w1 =>
    ∃ x1 : Int, e1 = .returned (Value.int .i64 x1) ∧
    (br (x1 == 0)
      (J0 t0_a (IntKind.i64.wrap (t3_n + 1)) w1 ∧
        m0 t0_a (IntKind.i64.wrap (t3_n + 1)) w1 < m0 t0_a t3_n w_)
      (R (.returned (Value.int .i64 t3_n)) w1))) :
    Calls Tryd.prog 68 #[a0_a.v] w R := by
  refine calls_of_vc (surdref01_Num_Tail_cut J0 m0) (by kernel_rfl) Tryd.func68 rfl ?_ ?_
  · refine kcast h ?_; kernel_rfl
  · exact (obl_seq rfl (obl_reg (obl_seq rfl (obl_seq rfl (obl_reg (obl_cond (obl_seq rfl (obl_reg (obl_ret (obl_skip (obl_seq rfl (obl_reg (obl_seq rfl (obl_loop _ rfl (fun a_ w_ hL_ => (by
    obtain ⟨hz_, hd_, hL_⟩ := atSz_out hL_
    obtain ⟨t0_a, h0_, hL_⟩ := atS_out hL_
    obtain ⟨t3_n, h3_, hL_⟩ := atI_out hL_
    obtain ⟨g0, rfl⟩ : ∃ g, a_ = Fr 14 [(0, t0_a.v), (3, Value.int .i64 t3_n)] g := ⟨_, fr_of hz_ hd_ [(0, t0_a.v), (3, Value.int .i64 t3_n)] (sel_cons h0_ (sel_cons h3_ sel_nil))⟩
    clear hz_ hd_ h0_ h3_
    have hJ0_ := hL_
    refine ⟨(fun _ => none), kcast (h0 t0_a t3_n w_ hJ0_) ?_, ?_⟩
    · kernel_rfl
    · exact (obl_seq rfl (obl_seq rfl (obl_reg (obl_cond (obl_skip (obl_exit (obl_blk rfl (obl_reg trivial)))))))))) (obl_seq rfl (obl_reg (obl_ret trivial)))))))))))))))))

set_option maxRecDepth 100000 in
/-- (surd/surdref01.Num).Bit: function 99. -/
theorem surdref01_Num_Bit_vc (a0_a : Slc) (a1_i : Int) (w : World) (R : Ending → World → Prop)
    
    (h : br (decide (a1_i < 0))
    (R (.returned (Value.int .i64 0)) w)
    (br (decide ((IntKind.i64.wrap (Int.tdiv a1_i 32)) ≥ (a0_a.n : Int)))
      (R (.returned (Value.int .i64 0)) w)
      (semA Tryd.prog (Instr.indexAt 42 a0_a.v (Value.int .i64 (IntKind.i64.wrap (Int.tdiv a1_i 32)))) w fun ad1 w1 =>
        ldI .u64 ad1 w1 fun x1 =>
        semI Tryd.prog .u64 (binOp .shr 94 (Value.int .u64 x1) (Value.int .i64 (Int.tmod a1_i 32))) w1 fun x2 w2 =>
        R (.returned (Value.int .i64 (IntKind.i64.wrap (andI .u64 x2 1)))) w2))) :
    Calls Tryd.prog 99 #[a0_a.v, Value.int .i64 a1_i] w R := by
  refine calls_of_vc (fun _ => none) (by kernel_rfl) Tryd.func99 rfl ?_ ?_
  · refine kcast h ?_; kernel_rfl
  · exact (obl_seq rfl (obl_reg (obl_seq rfl (obl_seq rfl (obl_reg (obl_cond (obl_seq rfl (obl_reg (obl_ret (obl_skip (obl_seq rfl (obl_reg (obl_ret trivial)))))))))))))

set_option maxRecDepth 100000 in
/-- surd/surdref08.Told: function 74. -/
theorem surdref08_Told_vc (a0_d_0 : Bool) (a0_d_1 : Slc) (a0_d_2 : Int) (w : World) (R : Ending → World → Prop)
    
    (h : newC w #[Value.bool a0_d_0, a0_d_1.v, Value.int .i64 a0_d_2] 47 fun ad1 w1 =>
    newC w1 #[Value.bool false, (⟨none, 0, 0⟩ : Slc).v, Value.int .i64 0] 47 fun ad2 w2 =>
    ldS (ad1.add 1) w2 fun s1 =>
    Calls Tryd.prog 34 #[s1.v] w2 fun e1 w3 =>
    ∃ x1 : Int, e1 = .returned (Value.int .i64 x1) ∧
    (br (decide (x1 > 67108864))
      (stC ad2 (Value.bool false) w3 fun w4 =>
        stC (ad2.add 1) ((⟨none, 0, 0⟩ : Slc).v) w4 fun w5 =>
        stC (ad2.add 2) (Value.int .i64 0) w5 fun w6 =>
        ldB ad2 w6 fun b1 =>
        ldS (ad2.add 1) w6 fun s2 =>
        ldI .i64 (ad2.add 2) w6 fun x2 =>
        R (.returned (Value.tuple #[Value.agg #[Value.bool b1, s2.v, Value.int .i64 x2], Value.int .i64 3])) w6)
      (ldI .i64 (ad1.add 2) w3 fun x3 =>
        Calls Tryd.prog 78 #[Value.int .i64 x3] w3 fun e2 w7 =>
        ∃ b2 : Bool, e2 = .returned (Value.bool b2) ∧
        (br (!b2)
          (stC ad2 (Value.bool false) w7 fun w8 =>
            stC (ad2.add 1) ((⟨none, 0, 0⟩ : Slc).v) w8 fun w9 =>
            stC (ad2.add 2) (Value.int .i64 0) w9 fun w10 =>
            ldB ad2 w10 fun b3 =>
            ldS (ad2.add 1) w10 fun s3 =>
            ldI .i64 (ad2.add 2) w10 fun x4 =>
            R (.returned (Value.tuple #[Value.agg #[Value.bool b3, s3.v, Value.int .i64 x4], Value.int .i64 80])) w10)
          (ldB ad1 w7 fun b4 =>
            ldS (ad1.add 1) w7 fun s4 =>
            ldI .i64 (ad1.add 2) w7 fun x5 =>
            stC ad2 (Value.bool b4) w7 fun w11 =>
            stC (ad2.add 1) s4.v w11 fun w12 =>
            stC (ad2.add 2) (Value.int .i64 x5) w12 fun w13 =>
            ldB ad2 w13 fun b5 =>
            ldS (ad2.add 1) w13 fun s5 =>
            ldI .i64 (ad2.add 2) w13 fun x6 =>
            R (.returned (Value.tuple #[Value.agg #[Value.bool b5, s5.v, Value.int .i64 x6], Value.int .i64 0])) w13))))) :
    Calls Tryd.prog 74 #[Value.agg #[Value.bool a0_d_0, a0_d_1.v, Value.int .i64 a0_d_2]] w R := by
  refine calls_of_vc (fun _ => none) (by kernel_rfl) Tryd.func74 rfl ?_ ?_
  · refine kcast h ?_; kernel_rfl
  · exact (obl_seq rfl (obl_reg (obl_seq rfl (obl_seq rfl (obl_reg (obl_cond (obl_seq rfl (obl_reg (obl_ret (obl_skip (obl_seq rfl (obl_seq rfl (obl_reg (obl_cond (obl_seq rfl (obl_reg (obl_ret (obl_skip (obl_seq rfl (obl_reg (obl_ret trivial)))))))))))))))))))))

set_option maxRecDepth 100000 in
/-- surd/surdref08.Fits: function 78. -/
theorem surdref08_Fits_vc (a0_e : Int) (w : World) (R : Ending → World → Prop)
    
    (h : br (decide (a0_e ≥ (-1099511627776)))
    (R (.returned (Value.bool (decide (a0_e ≤ 1099511627776)))) w)
    (R (.returned (Value.bool false)) w)) :
    Calls Tryd.prog 78 #[Value.int .i64 a0_e] w R := by
  refine calls_of_vc (fun _ => none) (by kernel_rfl) Tryd.func78 rfl ?_ ?_
  · refine kcast h ?_; kernel_rfl
  · exact (obl_seq rfl (obl_reg (obl_seq rfl (obl_reg (obl_ret trivial)))))

set_option maxRecDepth 100000 in
/-- (surd/surdref08.D).Top: function 33. -/
theorem surdref08_D_Top_vc (a0_d_0 : Bool) (a0_d_1 : Slc) (a0_d_2 : Int) (w : World) (R : Ending → World → Prop)
    
    (h : newC w #[Value.bool a0_d_0, a0_d_1.v, Value.int .i64 a0_d_2] 47 fun ad1 w1 =>
    ldS (ad1.add 1) w1.drew fun s1 =>
    ldI .i64 (ad1.add 2) w1.drew fun x1 =>
    Calls Tryd.prog 34 #[s1.v] w1.drew fun e1 w2 =>
    ∃ x2 : Int, e1 = .returned (Value.int .i64 x2) ∧
    (Ahead w1.drew w2 ∧
      (R (.returned (Value.int .i64 (IntKind.i64.wrap ((IntKind.i64.wrap (x2 - 1)) + x1)))) w2))) :
    Calls Tryd.prog 33 #[Value.agg #[Value.bool a0_d_0, a0_d_1.v, Value.int .i64 a0_d_2]] w R := by
  refine calls_of_vc (fun _ => none) (by kernel_rfl) Tryd.func33 rfl ?_ ?_
  · refine kcast h ?_; kernel_rfl
  · exact (obl_seq rfl (obl_reg (obl_seq rfl (obl_held (by kernel_rfl) (by kernel_rfl) (by kernel_rfl) (obl_ret trivial)))))

set_option maxRecDepth 100000 in
/-- surd/surdref08.Scale: function 50. -/
theorem surdref08_Scale_vc (a0_a_0 : Bool) (a0_a_1 : Slc) (a0_a_2 : Int) (a1_k : Int) (w : World) (R : Ending → World → Prop)
    
    (h : newC w #[Value.bool a0_a_0, a0_a_1.v, Value.int .i64 a0_a_2] 47 fun ad1 w1 =>
    newC w1 #[Value.bool false, (⟨none, 0, 0⟩ : Slc).v, Value.int .i64 0] 47 fun ad2 w2 =>
    ldB ad1 w2 fun b1 =>
    ldS (ad1.add 1) w2 fun s1 =>
    Calls Tryd.prog 28 #[Value.agg #[Value.bool b1, s1.v]] w2 fun e1 w3 =>
    ∃ x1 : Int, e1 = .returned (Value.int .i64 x1) ∧
    (br (x1 == 0)
      (ldB ad1 w3 fun b2 =>
        ldS (ad1.add 1) w3 fun s2 =>
        ldI .i64 (ad1.add 2) w3 fun x2 =>
        stC ad2 (Value.bool b2) w3 fun w4 =>
        stC (ad2.add 1) s2.v w4 fun w5 =>
        stC (ad2.add 2) (Value.int .i64 x2) w5 fun w6 =>
        ldB ad2 w6 fun b3 =>
        ldS (ad2.add 1) w6 fun s3 =>
        ldI .i64 (ad2.add 2) w6 fun x3 =>
        R (.returned (Value.agg #[Value.bool b3, s3.v, Value.int .i64 x3])) w6)
      (ldB ad1 w3 fun b4 =>
        ldS (ad1.add 1) w3 fun s4 =>
        ldI .i64 (ad1.add 2) w3 fun x4 =>
        stC ad2 (Value.bool b4) w3 fun w7 =>
        stC (ad2.add 1) s4.v w7 fun w8 =>
        stC (ad2.add 2) (Value.int .i64 (IntKind.i64.wrap (x4 + a1_k))) w8 fun w9 =>
        ldB ad2 w9 fun b5 =>
        ldS (ad2.add 1) w9 fun s5 =>
        ldI .i64 (ad2.add 2) w9 fun x5 =>
        R (.returned (Value.agg #[Value.bool b5, s5.v, Value.int .i64 x5])) w9))) :
    Calls Tryd.prog 50 #[Value.agg #[Value.bool a0_a_0, a0_a_1.v, Value.int .i64 a0_a_2], Value.int .i64 a1_k] w R := by
  refine calls_of_vc (fun _ => none) (by kernel_rfl) Tryd.func50 rfl ?_ ?_
  · refine kcast h ?_; kernel_rfl
  · exact (obl_seq rfl (obl_reg (obl_seq rfl (obl_seq rfl (obl_reg (obl_cond (obl_seq rfl (obl_reg (obl_ret (obl_skip (obl_seq rfl (obl_reg (obl_ret trivial)))))))))))))

set_option maxRecDepth 100000 in
/-- surd/surdref08.Round: function 38. -/
theorem surdref08_Round_vc (a0_0 : Bool) (a0_1 : Slc) (a0_2 : Int) (a1 : Int) (a2 : Int) (w : World) (R : Ending → World → Prop)
    
    (h : newC w #[Value.bool a0_0, a0_1.v, Value.int .i64 a0_2] 47 fun ad1 w1 =>
    newC w1 #[Value.bool false, (⟨none, 0, 0⟩ : Slc).v, Value.int .i64 0] 47 fun ad2 w2 =>
    ldB ad1 w2 fun b1 =>
    ldS (ad1.add 1) w2 fun s1 =>
    Calls Tryd.prog 28 #[Value.agg #[Value.bool b1, s1.v]] w2 fun e1 w3 =>
    ∃ x1 : Int, e1 = .returned (Value.int .i64 x1) ∧
    (br (x1 == 0)
      (ldB ad1 w3 fun b2 =>
        ldS (ad1.add 1) w3 fun s2 =>
        ldI .i64 (ad1.add 2) w3 fun x2 =>
        stC ad2 (Value.bool b2) w3 fun w4 =>
        stC (ad2.add 1) s2.v w4 fun w5 =>
        stC (ad2.add 2) (Value.int .i64 x2) w5 fun w6 =>
        ldB ad2 w6 fun b3 =>
        ldS (ad2.add 1) w6 fun s3 =>
        ldI .i64 (ad2.add 2) w6 fun x3 =>
        R (.returned (Value.agg #[Value.bool b3, s3.v, Value.int .i64 x3])) w6)
      (ldI .i64 (ad1.add 2) w3 fun x4 =>
        br (decide (a1 ≤ x4))
        (ldB ad1 w3 fun b4 =>
          ldS (ad1.add 1) w3 fun s4 =>
          ldI .i64 (ad1.add 2) w3 fun x5 =>
          stC ad2 (Value.bool b4) w3 fun w7 =>
          stC (ad2.add 1) s4.v w7 fun w8 =>
          stC (ad2.add 2) (Value.int .i64 x5) w8 fun w9 =>
          ldB ad2 w9 fun b5 =>
          ldS (ad2.add 1) w9 fun s5 =>
          ldI .i64 (ad2.add 2) w9 fun x6 =>
          R (.returned (Value.agg #[Value.bool b5, s5.v, Value.int .i64 x6])) w9)
        (ldI .i64 (ad1.add 2) w3 fun x7 =>
          ldS (ad1.add 1) w3 fun s6 =>
          Calls Tryd.prog 34 #[s6.v] w3 fun e2 w10 =>
          ∃ x8 : Int, e2 = .returned (Value.int .i64 x8) ∧
          (br (decide ((IntKind.i64.wrap (a1 - x7)) > (IntKind.i64.wrap (x8 + 2))))
            (br (a2 == 0)
              (ldB ad1 w10 fun b6 =>
                br b6
                (Calls Tryd.prog 29 #[Value.int .i64 (-1), Value.int .i64 a1] w10 fun e3 w11 =>
                  ∃ b7 : Bool, ∃ s7 : Slc, ∃ x9 : Int, e3 = .returned (Value.agg #[Value.bool b7, s7.v, Value.int .i64 x9]) ∧
                  (stC ad2 (Value.bool b7) w11 fun w12 =>
                    stC (ad2.add 1) s7.v w12 fun w13 =>
                    stC (ad2.add 2) (Value.int .i64 x9) w13 fun w14 =>
                    ldB ad2 w14 fun b8 =>
                    ldS (ad2.add 1) w14 fun s8 =>
                    ldI .i64 (ad2.add 2) w14 fun x10 =>
                    R (.returned (Value.agg #[Value.bool b8, s8.v, Value.int .i64 x10])) w14))
                (br (a2 == 1)
                  (ldB ad1 w10 fun b9 =>
                    br (!b9)
                    (Calls Tryd.prog 29 #[Value.int .i64 1, Value.int .i64 a1] w10 fun e4 w15 =>
                      ∃ b10 : Bool, ∃ s9 : Slc, ∃ x11 : Int, e4 = .returned (Value.agg #[Value.bool b10, s9.v, Value.int .i64 x11]) ∧
                      (stC ad2 (Value.bool b10) w15 fun w16 =>
                        stC (ad2.add 1) s9.v w16 fun w17 =>
                        stC (ad2.add 2) (Value.int .i64 x11) w17 fun w18 =>
                        ldB ad2 w18 fun b11 =>
                        ldS (ad2.add 1) w18 fun s10 =>
                        ldI .i64 (ad2.add 2) w18 fun x12 =>
                        R (.returned (Value.agg #[Value.bool b11, s10.v, Value.int .i64 x12])) w18))
                    (stC ad2 (Value.bool false) w10 fun w19 =>
                      stC (ad2.add 1) ((⟨none, 0, 0⟩ : Slc).v) w19 fun w20 =>
                      stC (ad2.add 2) (Value.int .i64 0) w20 fun w21 =>
                      ldB ad2 w21 fun b12 =>
                      ldS (ad2.add 1) w21 fun s11 =>
                      ldI .i64 (ad2.add 2) w21 fun x13 =>
                      R (.returned (Value.agg #[Value.bool b12, s11.v, Value.int .i64 x13])) w21))
                  (stC ad2 (Value.bool false) w10 fun w22 =>
                    stC (ad2.add 1) ((⟨none, 0, 0⟩ : Slc).v) w22 fun w23 =>
                    stC (ad2.add 2) (Value.int .i64 0) w23 fun w24 =>
                    ldB ad2 w24 fun b13 =>
                    ldS (ad2.add 1) w24 fun s12 =>
                    ldI .i64 (ad2.add 2) w24 fun x14 =>
                    R (.returned (Value.agg #[Value.bool b13, s12.v, Value.int .i64 x14])) w24)))
              (br (a2 == 1)
                (ldB ad1 w10 fun b14 =>
                  br (!b14)
                  (Calls Tryd.prog 29 #[Value.int .i64 1, Value.int .i64 a1] w10 fun e5 w25 =>
                    ∃ b15 : Bool, ∃ s13 : Slc, ∃ x15 : Int, e5 = .returned (Value.agg #[Value.bool b15, s13.v, Value.int .i64 x15]) ∧
                    (stC ad2 (Value.bool b15) w25 fun w26 =>
                      stC (ad2.add 1) s13.v w26 fun w27 =>
                      stC (ad2.add 2) (Value.int .i64 x15) w27 fun w28 =>
                      ldB ad2 w28 fun b16 =>
                      ldS (ad2.add 1) w28 fun s14 =>
                      ldI .i64 (ad2.add 2) w28 fun x16 =>
                      R (.returned (Value.agg #[Value.bool b16, s14.v, Value.int .i64 x16])) w28))
                  (stC ad2 (Value.bool false) w10 fun w29 =>
                    stC (ad2.add 1) ((⟨none, 0, 0⟩ : Slc).v) w29 fun w30 =>
                    stC (ad2.add 2) (Value.int .i64 0) w30 fun w31 =>
                    ldB ad2 w31 fun b17 =>
                    ldS (ad2.add 1) w31 fun s15 =>
                    ldI .i64 (ad2.add 2) w31 fun x17 =>
                    R (.returned (Value.agg #[Value.bool b17, s15.v, Value.int .i64 x17])) w31))
                (stC ad2 (Value.bool false) w10 fun w32 =>
                  stC (ad2.add 1) ((⟨none, 0, 0⟩ : Slc).v) w32 fun w33 =>
                  stC (ad2.add 2) (Value.int .i64 0) w33 fun w34 =>
                  ldB ad2 w34 fun b18 =>
                  ldS (ad2.add 1) w34 fun s16 =>
                  ldI .i64 (ad2.add 2) w34 fun x18 =>
                  R (.returned (Value.agg #[Value.bool b18, s16.v, Value.int .i64 x18])) w34)))
            (Calls Tryd.prog 52 #[Value.int .i64 1] w10 fun e6 w35 =>
              ∃ s17 : Slc, e6 = .returned s17.v ∧
              (Calls Tryd.prog 54 #[s17.v, Value.int .i64 (IntKind.i64.wrap (a1 - x7))] w35 fun e7 w36 =>
                ∃ s18 : Slc, e7 = .returned s18.v ∧
                (newC w36 #[Value.bool false, (⟨none, 0, 0⟩ : Slc).v] 44 fun ad3 w37 =>
                  stC ad3 (Value.bool false) w37 fun w38 =>
                  stC (ad3.add 1) s18.v w38 fun w39 =>
                  newC w39 #[Value.bool false, (⟨none, 0, 0⟩ : Slc).v] 44 fun ad4 w40 =>
                  stC ad4 (Value.bool false) w40 fun w41 =>
                  stC (ad4.add 1) ((⟨none, 0, 0⟩ : Slc).v) w41 fun w42 =>
                  br (a2 == 0)
                  (ldB ad1 w42 fun b19 =>
                    ldS (ad1.add 1) w42 fun s19 =>
                    ldB ad3 w42 fun b20 =>
                    ldS (ad3.add 1) w42 fun s20 =>
                    Calls Tryd.prog 81 #[Value.agg #[Value.bool b19, s19.v], Value.agg #[Value.bool b20, s20.v]] w42 fun e8 w43 =>
                    ∃ b21 : Bool, ∃ s21 : Slc, ∃ b22 : Bool, ∃ s22 : Slc, e8 = .returned (Value.tuple #[Value.agg #[Value.bool b21, s21.v], Value.agg #[Value.bool b22, s22.v]]) ∧
                    (stC ad4 (Value.bool b21) w43 fun w44 =>
                      stC (ad4.add 1) s21.v w44 fun w45 =>
                      ldB ad4 w45 fun b23 =>
                      ldS (ad4.add 1) w45 fun s23 =>
                      Calls Tryd.prog 22 #[Value.agg #[Value.bool b23, s23.v], Value.int .i64 a1] w45 fun e9 w46 =>
                      ∃ b24 : Bool, ∃ s24 : Slc, ∃ x19 : Int, e9 = .returned (Value.agg #[Value.bool b24, s24.v, Value.int .i64 x19]) ∧
                      (stC ad2 (Value.bool b24) w46 fun w47 =>
                        stC (ad2.add 1) s24.v w47 fun w48 =>
                        stC (ad2.add 2) (Value.int .i64 x19) w48 fun w49 =>
                        ldB ad2 w49 fun b25 =>
                        ldS (ad2.add 1) w49 fun s25 =>
                        ldI .i64 (ad2.add 2) w49 fun x20 =>
                        R (.returned (Value.agg #[Value.bool b25, s25.v, Value.int .i64 x20])) w49)))
                  (br (a2 == 1)
                    (ldB ad1 w42 fun b26 =>
                      ldS (ad1.add 1) w42 fun s26 =>
                      ldB ad3 w42 fun b27 =>
                      ldS (ad3.add 1) w42 fun s27 =>
                      Calls Tryd.prog 82 #[Value.agg #[Value.bool b26, s26.v], Value.agg #[Value.bool b27, s27.v]] w42 fun e10 w50 =>
                      ∃ b28 : Bool, ∃ s28 : Slc, ∃ b29 : Bool, ∃ s29 : Slc, e10 = .returned (Value.tuple #[Value.agg #[Value.bool b28, s28.v], Value.agg #[Value.bool b29, s29.v]]) ∧
                      (stC ad4 (Value.bool b28) w50 fun w51 =>
                        stC (ad4.add 1) s28.v w51 fun w52 =>
                        ldB ad4 w52 fun b30 =>
                        ldS (ad4.add 1) w52 fun s30 =>
                        Calls Tryd.prog 22 #[Value.agg #[Value.bool b30, s30.v], Value.int .i64 a1] w52 fun e11 w53 =>
                        ∃ b31 : Bool, ∃ s31 : Slc, ∃ x21 : Int, e11 = .returned (Value.agg #[Value.bool b31, s31.v, Value.int .i64 x21]) ∧
                        (stC ad2 (Value.bool b31) w53 fun w54 =>
                          stC (ad2.add 1) s31.v w54 fun w55 =>
                          stC (ad2.add 2) (Value.int .i64 x21) w55 fun w56 =>
                          ldB ad2 w56 fun b32 =>
                          ldS (ad2.add 1) w56 fun s32 =>
                          ldI .i64 (ad2.add 2) w56 fun x22 =>
                          R (.returned (Value.agg #[Value.bool b32, s32.v, Value.int .i64 x22])) w56)))
                    (ldB ad1 w42 fun b33 =>
                      ldS (ad1.add 1) w42 fun s33 =>
                      ldB ad3 w42 fun b34 =>
                      ldS (ad3.add 1) w42 fun s34 =>
                      Calls Tryd.prog 83 #[Value.agg #[Value.bool b33, s33.v], Value.agg #[Value.bool b34, s34.v]] w42 fun e12 w57 =>
                      ∃ b35 : Bool, ∃ s35 : Slc, ∃ b36 : Bool, ∃ s36 : Slc, e12 = .returned (Value.tuple #[Value.agg #[Value.bool b35, s35.v], Value.agg #[Value.bool b36, s36.v]]) ∧
                      (stC ad4 (Value.bool b35) w57 fun w58 =>
                        stC (ad4.add 1) s35.v w58 fun w59 =>
                        ldB ad4 w59 fun b37 =>
                        ldS (ad4.add 1) w59 fun s37 =>
                        Calls Tryd.prog 22 #[Value.agg #[Value.bool b37, s37.v], Value.int .i64 a1] w59 fun e13 w60 =>
                        ∃ b38 : Bool, ∃ s38 : Slc, ∃ x23 : Int, e13 = .returned (Value.agg #[Value.bool b38, s38.v, Value.int .i64 x23]) ∧
                        (stC ad2 (Value.bool b38) w60 fun w61 =>
                          stC (ad2.add 1) s38.v w61 fun w62 =>
                          stC (ad2.add 2) (Value.int .i64 x23) w62 fun w63 =>
                          ldB ad2 w63 fun b39 =>
                          ldS (ad2.add 1) w63 fun s39 =>
                          ldI .i64 (ad2.add 2) w63 fun x24 =>
                          R (.returned (Value.agg #[Value.bool b39, s39.v, Value.int .i64 x24])) w63)))))))))))) :
    Calls Tryd.prog 38 #[Value.agg #[Value.bool a0_0, a0_1.v, Value.int .i64 a0_2], Value.int .i64 a1, Value.int .i64 a2] w R := by
  refine calls_of_vc (fun _ => none) (by kernel_rfl) Tryd.func38 rfl ?_ ?_
  · refine kcast h ?_; kernel_rfl
  · exact (obl_seq rfl (obl_reg (obl_seq rfl (obl_seq rfl (obl_reg (obl_cond (obl_seq rfl (obl_reg (obl_ret (obl_skip (obl_seq rfl (obl_reg (obl_seq rfl (obl_seq rfl (obl_reg (obl_cond (obl_seq rfl (obl_seq rfl (obl_reg (obl_cond (obl_seq rfl (obl_reg (obl_ret (obl_skip (obl_seq rfl (obl_seq rfl (obl_reg (obl_cond (obl_seq rfl (obl_reg (obl_ret (obl_skip (obl_seq rfl (obl_reg (obl_ret (obl_skip (obl_seq rfl (obl_reg (obl_seq rfl (obl_reg (obl_seq rfl (obl_seq rfl (obl_reg (obl_blk rfl (obl_seq rfl (obl_reg (obl_cond (obl_reg (obl_seq rfl (obl_reg (obl_cond (obl_reg (obl_reg (obl_seq rfl (obl_reg (obl_ret trivial))))))))))))))))))))))))))))))))))))))))))))))))))))))))

set_option maxRecDepth 100000 in
/-- surd/surdref08.Cut: function 41. -/
theorem surdref08_Cut_vc (a0_a_0 : Bool) (a0_a_1 : Slc) (a0_a_2 : Int) (a1_bits : Int) (a2_mode : Int) (w : World) (R : Ending → World → Prop)
    
    (h : newC w #[Value.bool a0_a_0, a0_a_1.v, Value.int .i64 a0_a_2] 47 fun ad1 w1 =>
    newC w1 #[Value.bool false, (⟨none, 0, 0⟩ : Slc).v, Value.int .i64 0] 47 fun ad2 w2 =>
    ldS (ad1.add 1) w2 fun s1 =>
    Calls Tryd.prog 34 #[s1.v] w2 fun e1 w3 =>
    ∃ x1 : Int, e1 = .returned (Value.int .i64 x1) ∧
    (br (decide (a1_bits ≥ x1))
      (ldB ad1 w3 fun b1 =>
        ldS (ad1.add 1) w3 fun s2 =>
        ldI .i64 (ad1.add 2) w3 fun x2 =>
        stC ad2 (Value.bool b1) w3 fun w4 =>
        stC (ad2.add 1) s2.v w4 fun w5 =>
        stC (ad2.add 2) (Value.int .i64 x2) w5 fun w6 =>
        ldB ad2 w6 fun b2 =>
        ldS (ad2.add 1) w6 fun s3 =>
        ldI .i64 (ad2.add 2) w6 fun x3 =>
        R (.returned (Value.agg #[Value.bool b2, s3.v, Value.int .i64 x3])) w6)
      (ldB ad1 w3.drew fun b3 =>
        ldS (ad1.add 1) w3.drew fun s4 =>
        ldI .i64 (ad1.add 2) w3.drew fun x4 =>
        ldB ad1 w3.drew fun b4 =>
        ldS (ad1.add 1) w3.drew fun s5 =>
        ldI .i64 (ad1.add 2) w3.drew fun x5 =>
        Calls Tryd.prog 33 #[Value.agg #[Value.bool b4, s5.v, Value.int .i64 x5]] w3.drew fun e2 w7 =>
        ∃ x6 : Int, e2 = .returned (Value.int .i64 x6) ∧
        (Ahead w3.drew w7 ∧
          (Calls Tryd.prog 38 #[Value.agg #[Value.bool b3, s4.v, Value.int .i64 x4], Value.int .i64 (IntKind.i64.wrap ((IntKind.i64.wrap (x6 - a1_bits)) + 1)), Value.int .i64 a2_mode] w7 fun e3 w8 =>
            ∃ b5 : Bool, ∃ s6 : Slc, ∃ x7 : Int, e3 = .returned (Value.agg #[Value.bool b5, s6.v, Value.int .i64 x7]) ∧
            (Ahead w7 w8 ∧
              (stC ad2 (Value.bool b5) w8 fun w9 =>
                stC (ad2.add 1) s6.v w9 fun w10 =>
                stC (ad2.add 2) (Value.int .i64 x7) w10 fun w11 =>
                ldB ad2 w11 fun b6 =>
                ldS (ad2.add 1) w11 fun s7 =>
                ldI .i64 (ad2.add 2) w11 fun x8 =>
                R (.returned (Value.agg #[Value.bool b6, s7.v, Value.int .i64 x8])) w11))))))) :
    Calls Tryd.prog 41 #[Value.agg #[Value.bool a0_a_0, a0_a_1.v, Value.int .i64 a0_a_2], Value.int .i64 a1_bits, Value.int .i64 a2_mode] w R := by
  refine calls_of_vc (fun _ => none) (by kernel_rfl) Tryd.func41 rfl ?_ ?_
  · refine kcast h ?_; kernel_rfl
  · exact (obl_seq rfl (obl_reg (obl_seq rfl (obl_seq rfl (obl_reg (obl_cond (obl_seq rfl (obl_reg (obl_ret (obl_skip (obl_seq rfl (obl_held (by kernel_rfl) (by kernel_rfl) (by kernel_rfl) (obl_ret trivial)))))))))))))

set_option maxRecDepth 100000 in
/-- surd/surdref08.Whole: function 42. -/
theorem surdref08_Whole_vc (a0_a_0 : Bool) (a0_a_1 : Slc) (a0_a_2 : Int) (a1_mode : Int) (w : World) (R : Ending → World → Prop)
    
    (h : newC w #[Value.bool a0_a_0, a0_a_1.v, Value.int .i64 a0_a_2] 47 fun ad1 w1 =>
    newC w1 #[Value.bool false, (⟨none, 0, 0⟩ : Slc).v] 44 fun ad2 w2 =>
    ldB ad1 w2 fun b1 =>
    ldS (ad1.add 1) w2 fun s1 =>
    ldI .i64 (ad1.add 2) w2 fun x1 =>
    Calls Tryd.prog 38 #[Value.agg #[Value.bool b1, s1.v, Value.int .i64 x1], Value.int .i64 0, Value.int .i64 a1_mode] w2 fun e1 w3 =>
    ∃ b2 : Bool, ∃ s2 : Slc, ∃ x2 : Int, e1 = .returned (Value.agg #[Value.bool b2, s2.v, Value.int .i64 x2]) ∧
    (newC w3 #[Value.bool false, (⟨none, 0, 0⟩ : Slc).v, Value.int .i64 0] 47 fun ad3 w4 =>
      stC ad3 (Value.bool b2) w4 fun w5 =>
      stC (ad3.add 1) s2.v w5 fun w6 =>
      stC (ad3.add 2) (Value.int .i64 x2) w6 fun w7 =>
      ldS (ad3.add 1) w7.drew fun s3 =>
      ldI .i64 (ad3.add 2) w7.drew fun x3 =>
      Calls Tryd.prog 34 #[s3.v] w7.drew fun e2 w8 =>
      ∃ x4 : Int, e2 = .returned (Value.int .i64 x4) ∧
      (Ahead w7.drew w8 ∧
        (br (decide ((IntKind.i64.wrap (x4 + x3)) > 67108864))
          (stC ad2 (Value.bool false) w8 fun w9 =>
            stC (ad2.add 1) ((⟨none, 0, 0⟩ : Slc).v) w9 fun w10 =>
            ldB ad2 w10 fun b3 =>
            ldS (ad2.add 1) w10 fun s4 =>
            R (.returned (Value.tuple #[Value.agg #[Value.bool b3, s4.v], Value.bool false])) w10)
          (ldB ad3 w8 fun b4 =>
            ldS (ad3.add 1) w8 fun s5 =>
            ldI .i64 (ad3.add 2) w8 fun x5 =>
            Calls Tryd.prog 53 #[Value.agg #[Value.bool b4, s5.v], Value.int .i64 x5] w8 fun e3 w11 =>
            ∃ b5 : Bool, ∃ s6 : Slc, e3 = .returned (Value.agg #[Value.bool b5, s6.v]) ∧
            (stC ad2 (Value.bool b5) w11 fun w12 =>
              stC (ad2.add 1) s6.v w12 fun w13 =>
              ldB ad2 w13 fun b6 =>
              ldS (ad2.add 1) w13 fun s7 =>
              R (.returned (Value.tuple #[Value.agg #[Value.bool b6, s7.v], Value.bool true])) w13)))))) :
    Calls Tryd.prog 42 #[Value.agg #[Value.bool a0_a_0, a0_a_1.v, Value.int .i64 a0_a_2], Value.int .i64 a1_mode] w R := by
  refine calls_of_vc (fun _ => none) (by kernel_rfl) Tryd.func42 rfl ?_ ?_
  · refine kcast h ?_; kernel_rfl
  · exact (obl_seq rfl (obl_reg (obl_seq rfl (obl_reg (obl_seq rfl (obl_seq rfl (obl_held (by kernel_rfl) (by kernel_rfl) (by kernel_rfl) (obl_cond (obl_seq rfl (obl_reg (obl_ret (obl_skip (obl_seq rfl (obl_reg (obl_ret trivial)))))))))))))))

set_option maxRecDepth 100000 in
/-- surd/surdref08.Cmp: function 48. -/
theorem surdref08_Cmp_vc (a0_a_0 : Bool) (a0_a_1 : Slc) (a0_a_2 : Int) (a1_b_0 : Bool) (a1_b_1 : Slc) (a1_b_2 : Int) (w : World) (R : Ending → World → Prop)
    
    (h : newC w #[Value.bool a0_a_0, a0_a_1.v, Value.int .i64 a0_a_2] 47 fun ad1 w1 =>
    newC w1 #[Value.bool a1_b_0, a1_b_1.v, Value.int .i64 a1_b_2] 47 fun ad2 w2 =>
    ldB ad1 w2.drew fun b1 =>
    ldS (ad1.add 1) w2.drew fun s1 =>
    ldB ad2 w2.drew fun b2 =>
    ldS (ad2.add 1) w2.drew fun s2 =>
    Calls Tryd.prog 28 #[Value.agg #[Value.bool b1, s1.v]] w2.drew fun e1 w3 =>
    ∃ x1 : Int, e1 = .returned (Value.int .i64 x1) ∧
    (Ahead w2.drew w3 ∧
      (Calls Tryd.prog 28 #[Value.agg #[Value.bool b2, s2.v]] w3 fun e2 w4 =>
        ∃ x2 : Int, e2 = .returned (Value.int .i64 x2) ∧
        (Ahead w3 w4 ∧
          (br (x1 != x2)
            (br (decide (x1 < x2))
              (R (.returned (Value.int .i64 (-1))) w4)
              (R (.returned (Value.int .i64 1)) w4))
            (br (x1 == 0)
              (R (.returned (Value.int .i64 0)) w4)
              (ldB ad1 w4.drew fun b3 =>
                ldS (ad1.add 1) w4.drew fun s3 =>
                ldI .i64 (ad1.add 2) w4.drew fun x3 =>
                ldB ad2 w4.drew fun b4 =>
                ldS (ad2.add 1) w4.drew fun s4 =>
                ldI .i64 (ad2.add 2) w4.drew fun x4 =>
                Calls Tryd.prog 33 #[Value.agg #[Value.bool b3, s3.v, Value.int .i64 x3]] w4.drew fun e3 w5 =>
                ∃ x5 : Int, e3 = .returned (Value.int .i64 x5) ∧
                (Ahead w4.drew w5 ∧
                  (Calls Tryd.prog 33 #[Value.agg #[Value.bool b4, s4.v, Value.int .i64 x4]] w5 fun e4 w6 =>
                    ∃ x6 : Int, e4 = .returned (Value.int .i64 x6) ∧
                    (Ahead w5 w6 ∧
                      (br (x5 != x6)
                        (ldB ad1 w6.drew fun b5 =>
                          ldS (ad1.add 1) w6.drew fun s5 =>
                          ldI .i64 (ad1.add 2) w6.drew fun x7 =>
                          ldB ad2 w6.drew fun b6 =>
                          ldS (ad2.add 1) w6.drew fun s6 =>
                          ldI .i64 (ad2.add 2) w6.drew fun x8 =>
                          Calls Tryd.prog 33 #[Value.agg #[Value.bool b5, s5.v, Value.int .i64 x7]] w6.drew fun e5 w7 =>
                          ∃ x9 : Int, e5 = .returned (Value.int .i64 x9) ∧
                          (Ahead w6.drew w7 ∧
                            (Calls Tryd.prog 33 #[Value.agg #[Value.bool b6, s6.v, Value.int .i64 x8]] w7 fun e6 w8 =>
                              ∃ x10 : Int, e6 = .returned (Value.int .i64 x10) ∧
                              (Ahead w7 w8 ∧
                                (br (decide (x9 < x10))
                                  (R (.returned (Value.int .i64 (IntKind.i64.wrap (0 - x1)))) w8)
                                  (R (.returned (Value.int .i64 x1)) w8))))))
                        (ldI .i64 (ad1.add 2) w6 fun x11 =>
                          ldI .i64 (ad2.add 2) w6 fun x12 =>
                          br (decide (x11 ≤ x12))
                          (ldB ad1 w6.drew fun b7 =>
                            ldS (ad1.add 1) w6.drew fun s7 =>
                            ldB ad2 w6.drew fun b8 =>
                            ldS (ad2.add 1) w6.drew fun s8 =>
                            ldI .i64 (ad2.add 2) w6.drew fun x13 =>
                            ldI .i64 (ad1.add 2) w6.drew fun x14 =>
                            Calls Tryd.prog 53 #[Value.agg #[Value.bool b8, s8.v], Value.int .i64 (IntKind.i64.wrap (x13 - x14))] w6.drew fun e7 w9 =>
                            ∃ b9 : Bool, ∃ s9 : Slc, e7 = .returned (Value.agg #[Value.bool b9, s9.v]) ∧
                            (Ahead w6.drew w9 ∧
                              (Calls Tryd.prog 90 #[Value.agg #[Value.bool b7, s7.v], Value.agg #[Value.bool b9, s9.v]] w9 fun e8 w10 =>
                                ∃ x15 : Int, e8 = .returned (Value.int .i64 x15) ∧
                                (Ahead w9 w10 ∧
                                  (R (.returned (Value.int .i64 x15)) w10)))))
                          (ldB ad1 w6.drew fun b10 =>
                            ldS (ad1.add 1) w6.drew fun s10 =>
                            ldI .i64 (ad1.add 2) w6.drew fun x16 =>
                            ldI .i64 (ad2.add 2) w6.drew fun x17 =>
                            ldB ad2 w6.drew fun b11 =>
                            ldS (ad2.add 1) w6.drew fun s11 =>
                            Calls Tryd.prog 53 #[Value.agg #[Value.bool b10, s10.v], Value.int .i64 (IntKind.i64.wrap (x16 - x17))] w6.drew fun e9 w11 =>
                            ∃ b12 : Bool, ∃ s12 : Slc, e9 = .returned (Value.agg #[Value.bool b12, s12.v]) ∧
                            (Ahead w6.drew w11 ∧
                              (Calls Tryd.prog 90 #[Value.agg #[Value.bool b12, s12.v], Value.agg #[Value.bool b11, s11.v]] w11 fun e10 w12 =>
                                ∃ x18 : Int, e10 = .returned (Value.int .i64 x18) ∧
                                (Ahead w11 w12 ∧
                                  (R (.returned (Value.int .i64 x18)) w12))))))))))))))))) :
    Calls Tryd.prog 48 #[Value.agg #[Value.bool a0_a_0, a0_a_1.v, Value.int .i64 a0_a_2], Value.agg #[Value.bool a1_b_0, a1_b_1.v, Value.int .i64 a1_b_2]] w R := by
  refine calls_of_vc (fun _ => none) (by kernel_rfl) Tryd.func48 rfl ?_ ?_
  · refine kcast h ?_; kernel_rfl
  · exact (obl_seq rfl (obl_reg (obl_seq rfl (obl_held (by kernel_rfl) (by kernel_rfl) (by kernel_rfl) (obl_seq rfl (obl_seq rfl (obl_reg (obl_cond (obl_seq rfl (obl_seq rfl (obl_reg (obl_cond (obl_seq rfl (obl_reg (obl_ret (obl_skip (obl_seq rfl (obl_reg (obl_ret (obl_skip (obl_seq rfl (obl_seq rfl (obl_reg (obl_cond (obl_seq rfl (obl_reg (obl_ret (obl_skip (obl_seq rfl (obl_seq rfl (obl_held (by kernel_rfl) (by kernel_rfl) (by kernel_rfl) (obl_cond (obl_seq rfl (obl_seq rfl (obl_held (by kernel_rfl) (by kernel_rfl) (by kernel_rfl) (obl_cond (obl_seq rfl (obl_reg (obl_ret (obl_skip (obl_seq rfl (obl_reg (obl_ret (obl_skip (obl_seq rfl (obl_seq rfl (obl_reg (obl_cond (obl_seq rfl (obl_held (by kernel_rfl) (by kernel_rfl) (by kernel_rfl) (obl_ret (obl_skip (obl_seq rfl (obl_held (by kernel_rfl) (by kernel_rfl) (by kernel_rfl) (obl_ret trivial)))))))))))))))))))))))))))))))))))))))))))))))))))))))

set_option maxRecDepth 100000 in
/-- surd/surdref08.Add: function 49. -/
theorem surdref08_Add_vc (a0_a_0 : Bool) (a0_a_1 : Slc) (a0_a_2 : Int) (a1_b_0 : Bool) (a1_b_1 : Slc) (a1_b_2 : Int) (w : World) (R : Ending → World → Prop)
    
    (h : newC w #[Value.bool a0_a_0, a0_a_1.v, Value.int .i64 a0_a_2] 47 fun ad1 w1 =>
    newC w1 #[Value.bool a1_b_0, a1_b_1.v, Value.int .i64 a1_b_2] 47 fun ad2 w2 =>
    newC w2 #[Value.bool false, (⟨none, 0, 0⟩ : Slc).v, Value.int .i64 0] 47 fun ad3 w3 =>
    ldB ad1 w3 fun b1 =>
    ldS (ad1.add 1) w3 fun s1 =>
    Calls Tryd.prog 28 #[Value.agg #[Value.bool b1, s1.v]] w3 fun e1 w4 =>
    ∃ x1 : Int, e1 = .returned (Value.int .i64 x1) ∧
    (br (x1 == 0)
      (ldB ad2 w4 fun b2 =>
        ldS (ad2.add 1) w4 fun s2 =>
        ldI .i64 (ad2.add 2) w4 fun x2 =>
        stC ad3 (Value.bool b2) w4 fun w5 =>
        stC (ad3.add 1) s2.v w5 fun w6 =>
        stC (ad3.add 2) (Value.int .i64 x2) w6 fun w7 =>
        ldB ad3 w7 fun b3 =>
        ldS (ad3.add 1) w7 fun s3 =>
        ldI .i64 (ad3.add 2) w7 fun x3 =>
        R (.returned (Value.tuple #[Value.agg #[Value.bool b3, s3.v, Value.int .i64 x3], Value.bool true])) w7)
      (ldB ad2 w4 fun b4 =>
        ldS (ad2.add 1) w4 fun s4 =>
        Calls Tryd.prog 28 #[Value.agg #[Value.bool b4, s4.v]] w4 fun e2 w8 =>
        ∃ x4 : Int, e2 = .returned (Value.int .i64 x4) ∧
        (br (x4 == 0)
          (ldB ad1 w8 fun b5 =>
            ldS (ad1.add 1) w8 fun s5 =>
            ldI .i64 (ad1.add 2) w8 fun x5 =>
            stC ad3 (Value.bool b5) w8 fun w9 =>
            stC (ad3.add 1) s5.v w9 fun w10 =>
            stC (ad3.add 2) (Value.int .i64 x5) w10 fun w11 =>
            ldB ad3 w11 fun b6 =>
            ldS (ad3.add 1) w11 fun s6 =>
            ldI .i64 (ad3.add 2) w11 fun x6 =>
            R (.returned (Value.tuple #[Value.agg #[Value.bool b6, s6.v, Value.int .i64 x6], Value.bool true])) w11)
          (ldI .i64 (ad1.add 2) w8 fun x7 =>
            ldI .i64 (ad2.add 2) w8 fun x8 =>
            br (decide (x7 < x8))
            (ldB ad2 w8 fun b7 =>
              ldS (ad2.add 1) w8 fun s7 =>
              ldI .i64 (ad2.add 2) w8 fun x9 =>
              ldB ad1 w8 fun b8 =>
              ldS (ad1.add 1) w8 fun s8 =>
              ldI .i64 (ad1.add 2) w8 fun x10 =>
              stC ad1 (Value.bool b7) w8 fun w12 =>
              stC (ad1.add 1) s7.v w12 fun w13 =>
              stC (ad1.add 2) (Value.int .i64 x9) w13 fun w14 =>
              stC ad2 (Value.bool b8) w14 fun w15 =>
              stC (ad2.add 1) s8.v w15 fun w16 =>
              stC (ad2.add 2) (Value.int .i64 x10) w16 fun w17 =>
              ldI .i64 (ad1.add 2) w17 fun x11 =>
              ldI .i64 (ad2.add 2) w17 fun x12 =>
              ldS (ad2.add 1) w17 fun s9 =>
              Calls Tryd.prog 34 #[s9.v] w17 fun e3 w18 =>
              ∃ x13 : Int, e3 = .returned (Value.int .i64 x13) ∧
              (br (decide ((IntKind.i64.wrap (x11 - x12)) > (IntKind.i64.wrap ((IntKind.i64.wrap (67108864 + x13)) + 2))))
                (stC ad3 (Value.bool false) w18 fun w19 =>
                  stC (ad3.add 1) ((⟨none, 0, 0⟩ : Slc).v) w19 fun w20 =>
                  stC (ad3.add 2) (Value.int .i64 0) w20 fun w21 =>
                  ldB ad3 w21 fun b9 =>
                  ldS (ad3.add 1) w21 fun s10 =>
                  ldI .i64 (ad3.add 2) w21 fun x14 =>
                  R (.returned (Value.tuple #[Value.agg #[Value.bool b9, s10.v, Value.int .i64 x14], Value.bool false])) w21)
                (ldB ad1 w18.drew fun b10 =>
                  ldS (ad1.add 1) w18.drew fun s11 =>
                  ldB ad2 w18.drew fun b11 =>
                  ldS (ad2.add 1) w18.drew fun s12 =>
                  ldI .i64 (ad2.add 2) w18.drew fun x15 =>
                  Calls Tryd.prog 53 #[Value.agg #[Value.bool b10, s11.v], Value.int .i64 (IntKind.i64.wrap (x11 - x12))] w18.drew fun e4 w22 =>
                  ∃ b12 : Bool, ∃ s13 : Slc, e4 = .returned (Value.agg #[Value.bool b12, s13.v]) ∧
                  (Ahead w18.drew w22 ∧
                    (Calls Tryd.prog 91 #[Value.agg #[Value.bool b12, s13.v], Value.agg #[Value.bool b11, s12.v]] w22 fun e5 w23 =>
                      ∃ b13 : Bool, ∃ s14 : Slc, e5 = .returned (Value.agg #[Value.bool b13, s14.v]) ∧
                      (Ahead w22 w23 ∧
                        (Calls Tryd.prog 22 #[Value.agg #[Value.bool b13, s14.v], Value.int .i64 x15] w23 fun e6 w24 =>
                          ∃ b14 : Bool, ∃ s15 : Slc, ∃ x16 : Int, e6 = .returned (Value.agg #[Value.bool b14, s15.v, Value.int .i64 x16]) ∧
                          (Ahead w23 w24 ∧
                            (stC ad3 (Value.bool b14) w24 fun w25 =>
                              stC (ad3.add 1) s15.v w25 fun w26 =>
                              stC (ad3.add 2) (Value.int .i64 x16) w26 fun w27 =>
                              ldB ad3 w27 fun b15 =>
                              ldS (ad3.add 1) w27 fun s16 =>
                              ldI .i64 (ad3.add 2) w27 fun x17 =>
                              R (.returned (Value.tuple #[Value.agg #[Value.bool b15, s16.v, Value.int .i64 x17], Value.bool true])) w27)))))))))
            (ldI .i64 (ad1.add 2) w8 fun x18 =>
              ldI .i64 (ad2.add 2) w8 fun x19 =>
              ldS (ad2.add 1) w8 fun s17 =>
              Calls Tryd.prog 34 #[s17.v] w8 fun e7 w28 =>
              ∃ x20 : Int, e7 = .returned (Value.int .i64 x20) ∧
              (br (decide ((IntKind.i64.wrap (x18 - x19)) > (IntKind.i64.wrap ((IntKind.i64.wrap (67108864 + x20)) + 2))))
                (stC ad3 (Value.bool false) w28 fun w29 =>
                  stC (ad3.add 1) ((⟨none, 0, 0⟩ : Slc).v) w29 fun w30 =>
                  stC (ad3.add 2) (Value.int .i64 0) w30 fun w31 =>
                  ldB ad3 w31 fun b16 =>
                  ldS (ad3.add 1) w31 fun s18 =>
                  ldI .i64 (ad3.add 2) w31 fun x21 =>
                  R (.returned (Value.tuple #[Value.agg #[Value.bool b16, s18.v, Value.int .i64 x21], Value.bool false])) w31)
                (ldB ad1 w28.drew fun b17 =>
                  ldS (ad1.add 1) w28.drew fun s19 =>
                  ldB ad2 w28.drew fun b18 =>
                  ldS (ad2.add 1) w28.drew fun s20 =>
                  ldI .i64 (ad2.add 2) w28.drew fun x22 =>
                  Calls Tryd.prog 53 #[Value.agg #[Value.bool b17, s19.v], Value.int .i64 (IntKind.i64.wrap (x18 - x19))] w28.drew fun e8 w32 =>
                  ∃ b19 : Bool, ∃ s21 : Slc, e8 = .returned (Value.agg #[Value.bool b19, s21.v]) ∧
                  (Ahead w28.drew w32 ∧
                    (Calls Tryd.prog 91 #[Value.agg #[Value.bool b19, s21.v], Value.agg #[Value.bool b18, s20.v]] w32 fun e9 w33 =>
                      ∃ b20 : Bool, ∃ s22 : Slc, e9 = .returned (Value.agg #[Value.bool b20, s22.v]) ∧
                      (Ahead w32 w33 ∧
                        (Calls Tryd.prog 22 #[Value.agg #[Value.bool b20, s22.v], Value.int .i64 x22] w33 fun e10 w34 =>
                          ∃ b21 : Bool, ∃ s23 : Slc, ∃ x23 : Int, e10 = .returned (Value.agg #[Value.bool b21, s23.v, Value.int .i64 x23]) ∧
                          (Ahead w33 w34 ∧
                            (stC ad3 (Value.bool b21) w34 fun w35 =>
                              stC (ad3.add 1) s23.v w35 fun w36 =>
                              stC (ad3.add 2) (Value.int .i64 x23) w36 fun w37 =>
                              ldB ad3 w37 fun b22 =>
                              ldS (ad3.add 1) w37 fun s24 =>
                              ldI .i64 (ad3.add 2) w37 fun x24 =>
                              R (.returned (Value.tuple #[Value.agg #[Value.bool b22, s24.v, Value.int .i64 x24], Value.bool true])) w37)))))))))))))) :
    Calls Tryd.prog 49 #[Value.agg #[Value.bool a0_a_0, a0_a_1.v, Value.int .i64 a0_a_2], Value.agg #[Value.bool a1_b_0, a1_b_1.v, Value.int .i64 a1_b_2]] w R := by
  refine calls_of_vc (fun _ => none) (by kernel_rfl) Tryd.func49 rfl ?_ ?_
  · refine kcast h ?_; kernel_rfl
  · exact (obl_seq rfl (obl_reg (obl_seq rfl (obl_seq rfl (obl_reg (obl_cond (obl_seq rfl (obl_reg (obl_ret (obl_skip (obl_seq rfl (obl_seq rfl (obl_reg (obl_cond (obl_seq rfl (obl_reg (obl_ret (obl_skip (obl_seq rfl (obl_seq rfl (obl_reg (obl_cond (obl_reg (obl_skip (obl_seq rfl (obl_reg (obl_seq rfl (obl_seq rfl (obl_reg (obl_cond (obl_seq rfl (obl_reg (obl_ret (obl_skip (obl_seq rfl (obl_held (by kernel_rfl) (by kernel_rfl) (by kernel_rfl) (obl_ret trivial)))))))))))))))))))))))))))))))))))))

set_option maxRecDepth 100000 in
/-- surd/surdref08.Neg: function 60. -/
theorem surdref08_Neg_vc (a0_a_0 : Bool) (a0_a_1 : Slc) (a0_a_2 : Int) (w : World) (R : Ending → World → Prop)
    
    (h : newC w #[Value.bool a0_a_0, a0_a_1.v, Value.int .i64 a0_a_2] 47 fun ad1 w1 =>
    newC w1 #[Value.bool false, (⟨none, 0, 0⟩ : Slc).v, Value.int .i64 0] 47 fun ad2 w2 =>
    ldB ad1 w2.drew fun b1 =>
    ldS (ad1.add 1) w2.drew fun s1 =>
    ldI .i64 (ad1.add 2) w2.drew fun x1 =>
    Calls Tryd.prog 96 #[Value.agg #[Value.bool b1, s1.v]] w2.drew fun e1 w3 =>
    ∃ b2 : Bool, ∃ s2 : Slc, e1 = .returned (Value.agg #[Value.bool b2, s2.v]) ∧
    (Ahead w2.drew w3 ∧
      (stC ad2 (Value.bool b2) w3 fun w4 =>
        stC (ad2.add 1) s2.v w4 fun w5 =>
        stC (ad2.add 2) (Value.int .i64 x1) w5 fun w6 =>
        ldB ad2 w6 fun b3 =>
        ldS (ad2.add 1) w6 fun s3 =>
        ldI .i64 (ad2.add 2) w6 fun x2 =>
        R (.returned (Value.agg #[Value.bool b3, s3.v, Value.int .i64 x2])) w6))) :
    Calls Tryd.prog 60 #[Value.agg #[Value.bool a0_a_0, a0_a_1.v, Value.int .i64 a0_a_2]] w R := by
  refine calls_of_vc (fun _ => none) (by kernel_rfl) Tryd.func60 rfl ?_ ?_
  · refine kcast h ?_; kernel_rfl
  · exact (obl_seq rfl (obl_reg (obl_seq rfl (obl_held (by kernel_rfl) (by kernel_rfl) (by kernel_rfl) (obl_ret trivial)))))

set_option maxRecDepth 100000 in
/-- surd/surdref08.Abs: function 61. -/
theorem surdref08_Abs_vc (a0_a_0 : Bool) (a0_a_1 : Slc) (a0_a_2 : Int) (w : World) (R : Ending → World → Prop)
    
    (h : newC w #[Value.bool a0_a_0, a0_a_1.v, Value.int .i64 a0_a_2] 47 fun ad1 w1 =>
    newC w1 #[Value.bool false, (⟨none, 0, 0⟩ : Slc).v, Value.int .i64 0] 47 fun ad2 w2 =>
    ldB ad1 w2.drew fun b1 =>
    ldS (ad1.add 1) w2.drew fun s1 =>
    ldI .i64 (ad1.add 2) w2.drew fun x1 =>
    Calls Tryd.prog 97 #[Value.agg #[Value.bool b1, s1.v]] w2.drew fun e1 w3 =>
    ∃ b2 : Bool, ∃ s2 : Slc, e1 = .returned (Value.agg #[Value.bool b2, s2.v]) ∧
    (Ahead w2.drew w3 ∧
      (stC ad2 (Value.bool b2) w3 fun w4 =>
        stC (ad2.add 1) s2.v w4 fun w5 =>
        stC (ad2.add 2) (Value.int .i64 x1) w5 fun w6 =>
        ldB ad2 w6 fun b3 =>
        ldS (ad2.add 1) w6 fun s3 =>
        ldI .i64 (ad2.add 2) w6 fun x2 =>
        R (.returned (Value.agg #[Value.bool b3, s3.v, Value.int .i64 x2])) w6))) :
    Calls Tryd.prog 61 #[Value.agg #[Value.bool a0_a_0, a0_a_1.v, Value.int .i64 a0_a_2]] w R := by
  refine calls_of_vc (fun _ => none) (by kernel_rfl) Tryd.func61 rfl ?_ ?_
  · refine kcast h ?_; kernel_rfl
  · exact (obl_seq rfl (obl_reg (obl_seq rfl (obl_held (by kernel_rfl) (by kernel_rfl) (by kernel_rfl) (obl_ret trivial)))))

set_option maxRecDepth 100000 in
/-- surd/surdref06.Add: function 91. -/
theorem surdref06_Add_vc (a0_a_0 : Bool) (a0_a_1 : Slc) (a1_b_0 : Bool) (a1_b_1 : Slc) (w : World) (R : Ending → World → Prop)
    
    (h : newC w #[Value.bool a0_a_0, a0_a_1.v] 44 fun ad1 w1 =>
    newC w1 #[Value.bool a1_b_0, a1_b_1.v] 44 fun ad2 w2 =>
    newC w2 #[Value.bool false, (⟨none, 0, 0⟩ : Slc).v] 44 fun ad3 w3 =>
    ldB ad1 w3 fun b1 =>
    ldB ad2 w3 fun b2 =>
    br (b1 == b2)
    (ldB ad1 w3.drew fun b3 =>
      ldS (ad1.add 1) w3.drew fun s1 =>
      ldS (ad2.add 1) w3.drew fun s2 =>
      Calls Tryd.prog 116 #[s1.v, s2.v] w3.drew fun e1 w4 =>
      ∃ s3 : Slc, e1 = .returned s3.v ∧
      (Ahead w3.drew w4 ∧
        (Calls Tryd.prog 66 #[Value.bool b3, s3.v] w4 fun e2 w5 =>
          ∃ b4 : Bool, ∃ s4 : Slc, e2 = .returned (Value.agg #[Value.bool b4, s4.v]) ∧
          (Ahead w4 w5 ∧
            (stC ad3 (Value.bool b4) w5 fun w6 =>
              stC (ad3.add 1) s4.v w6 fun w7 =>
              ldB ad3 w7 fun b5 =>
              ldS (ad3.add 1) w7 fun s5 =>
              R (.returned (Value.agg #[Value.bool b5, s5.v])) w7)))))
    (ldS (ad1.add 1) w3 fun s6 =>
      ldS (ad2.add 1) w3 fun s7 =>
      Calls Tryd.prog 106 #[s6.v, s7.v] w3 fun e3 w8 =>
      ∃ x1 : Int, e3 = .returned (Value.int .i64 x1) ∧
      (br (decide (x1 ≥ 0))
        (ldB ad1 w8.drew fun b6 =>
          ldS (ad1.add 1) w8.drew fun s8 =>
          ldS (ad2.add 1) w8.drew fun s9 =>
          Calls Tryd.prog 117 #[s8.v, s9.v] w8.drew fun e4 w9 =>
          ∃ s10 : Slc, e4 = .returned s10.v ∧
          (Ahead w8.drew w9 ∧
            (Calls Tryd.prog 66 #[Value.bool b6, s10.v] w9 fun e5 w10 =>
              ∃ b7 : Bool, ∃ s11 : Slc, e5 = .returned (Value.agg #[Value.bool b7, s11.v]) ∧
              (Ahead w9 w10 ∧
                (stC ad3 (Value.bool b7) w10 fun w11 =>
                  stC (ad3.add 1) s11.v w11 fun w12 =>
                  ldB ad3 w12 fun b8 =>
                  ldS (ad3.add 1) w12 fun s12 =>
                  R (.returned (Value.agg #[Value.bool b8, s12.v])) w12)))))
        (ldB ad2 w8.drew fun b9 =>
          ldS (ad2.add 1) w8.drew fun s13 =>
          ldS (ad1.add 1) w8.drew fun s14 =>
          Calls Tryd.prog 117 #[s13.v, s14.v] w8.drew fun e6 w13 =>
          ∃ s15 : Slc, e6 = .returned s15.v ∧
          (Ahead w8.drew w13 ∧
            (Calls Tryd.prog 66 #[Value.bool b9, s15.v] w13 fun e7 w14 =>
              ∃ b10 : Bool, ∃ s16 : Slc, e7 = .returned (Value.agg #[Value.bool b10, s16.v]) ∧
              (Ahead w13 w14 ∧
                (stC ad3 (Value.bool b10) w14 fun w15 =>
                  stC (ad3.add 1) s16.v w15 fun w16 =>
                  ldB ad3 w16 fun b11 =>
                  ldS (ad3.add 1) w16 fun s17 =>
                  R (.returned (Value.agg #[Value.bool b11, s17.v])) w16)))))))) :
    Calls Tryd.prog 91 #[Value.agg #[Value.bool a0_a_0, a0_a_1.v], Value.agg #[Value.bool a1_b_0, a1_b_1.v]] w R := by
  refine calls_of_vc (fun _ => none) (by kernel_rfl) Tryd.func91 rfl ?_ ?_
  · refine kcast h ?_; kernel_rfl
  · exact (obl_seq rfl (obl_reg (obl_seq rfl (obl_seq rfl (obl_reg (obl_cond (obl_seq rfl (obl_held (by kernel_rfl) (by kernel_rfl) (by kernel_rfl) (obl_ret (obl_skip (obl_seq rfl (obl_seq rfl (obl_reg (obl_cond (obl_seq rfl (obl_held (by kernel_rfl) (by kernel_rfl) (by kernel_rfl) (obl_ret (obl_skip (obl_seq rfl (obl_held (by kernel_rfl) (by kernel_rfl) (by kernel_rfl) (obl_ret trivial)))))))))))))))))))))

set_option maxRecDepth 100000 in
/-- surd/surdref06.Sub: function 104. -/
theorem surdref06_Sub_vc (a0_a_0 : Bool) (a0_a_1 : Slc) (a1_b_0 : Bool) (a1_b_1 : Slc) (w : World) (R : Ending → World → Prop)
    
    (h : newC w #[Value.bool a0_a_0, a0_a_1.v] 44 fun ad1 w1 =>
    newC w1 #[Value.bool a1_b_0, a1_b_1.v] 44 fun ad2 w2 =>
    newC w2 #[Value.bool false, (⟨none, 0, 0⟩ : Slc).v] 44 fun ad3 w3 =>
    ldB ad1 w3.drew fun b1 =>
    ldS (ad1.add 1) w3.drew fun s1 =>
    ldB ad2 w3.drew fun b2 =>
    ldS (ad2.add 1) w3.drew fun s2 =>
    Calls Tryd.prog 96 #[Value.agg #[Value.bool b2, s2.v]] w3.drew fun e1 w4 =>
    ∃ b3 : Bool, ∃ s3 : Slc, e1 = .returned (Value.agg #[Value.bool b3, s3.v]) ∧
    (Ahead w3.drew w4 ∧
      (Calls Tryd.prog 91 #[Value.agg #[Value.bool b1, s1.v], Value.agg #[Value.bool b3, s3.v]] w4 fun e2 w5 =>
        ∃ b4 : Bool, ∃ s4 : Slc, e2 = .returned (Value.agg #[Value.bool b4, s4.v]) ∧
        (Ahead w4 w5 ∧
          (stC ad3 (Value.bool b4) w5 fun w6 =>
            stC (ad3.add 1) s4.v w6 fun w7 =>
            ldB ad3 w7 fun b5 =>
            ldS (ad3.add 1) w7 fun s5 =>
            R (.returned (Value.agg #[Value.bool b5, s5.v])) w7))))) :
    Calls Tryd.prog 104 #[Value.agg #[Value.bool a0_a_0, a0_a_1.v], Value.agg #[Value.bool a1_b_0, a1_b_1.v]] w R := by
  refine calls_of_vc (fun _ => none) (by kernel_rfl) Tryd.func104 rfl ?_ ?_
  · refine kcast h ?_; kernel_rfl
  · exact (obl_seq rfl (obl_reg (obl_seq rfl (obl_held (by kernel_rfl) (by kernel_rfl) (by kernel_rfl) (obl_ret trivial)))))

set_option maxRecDepth 100000 in
/-- surd/surdref06.Mul: function 105. -/
theorem surdref06_Mul_vc (a0_a_0 : Bool) (a0_a_1 : Slc) (a1_b_0 : Bool) (a1_b_1 : Slc) (w : World) (R : Ending → World → Prop)
    
    (h : newC w #[Value.bool a0_a_0, a0_a_1.v] 44 fun ad1 w1 =>
    newC w1 #[Value.bool a1_b_0, a1_b_1.v] 44 fun ad2 w2 =>
    newC w2 #[Value.bool false, (⟨none, 0, 0⟩ : Slc).v] 44 fun ad3 w3 =>
    ldB ad1 w3.drew fun b1 =>
    ldB ad2 w3.drew fun b2 =>
    ldS (ad1.add 1) w3.drew fun s1 =>
    ldS (ad2.add 1) w3.drew fun s2 =>
    Calls Tryd.prog 129 #[s1.v, s2.v] w3.drew fun e1 w4 =>
    ∃ s3 : Slc, e1 = .returned s3.v ∧
    (Ahead w3.drew w4 ∧
      (Calls Tryd.prog 66 #[Value.bool (!(b1 == b2)), s3.v] w4 fun e2 w5 =>
        ∃ b3 : Bool, ∃ s4 : Slc, e2 = .returned (Value.agg #[Value.bool b3, s4.v]) ∧
        (Ahead w4 w5 ∧
          (stC ad3 (Value.bool b3) w5 fun w6 =>
            stC (ad3.add 1) s4.v w6 fun w7 =>
            ldB ad3 w7 fun b4 =>
            ldS (ad3.add 1) w7 fun s5 =>
            R (.returned (Value.agg #[Value.bool b4, s5.v])) w7))))) :
    Calls Tryd.prog 105 #[Value.agg #[Value.bool a0_a_0, a0_a_1.v], Value.agg #[Value.bool a1_b_0, a1_b_1.v]] w R := by
  refine calls_of_vc (fun _ => none) (by kernel_rfl) Tryd.func105 rfl ?_ ?_
  · refine kcast h ?_; kernel_rfl
  · exact (obl_seq rfl (obl_reg (obl_seq rfl (obl_held (by kernel_rfl) (by kernel_rfl) (by kernel_rfl) (obl_ret trivial)))))

def surdref06_Floor_cut (K5 : Addr → Addr → Addr → Addr → Addr → Bool → World → Prop) (K6 : Addr → Addr → Addr → Addr → Addr → World → Prop) : Nat → Option ((Act → World → Prop) × (Act → World → Nat))
  | 3000005 => some (fun a_ w_ => atSz a_ 43 (atA a_ 2 fun t2_a => atA a_ 3 fun t3_b => atA a_ 4 fun t4 => atA a_ 5 fun t5 => atA a_ 8 fun t8_x => atB a_ 33 fun t33 => K5 t2_a t3_b t4 t5 t8_x t33 w_), fun _ _ => 0)
  | 3000006 => some (fun a_ w_ => atSz a_ 43 (atA a_ 2 fun t2_a => atA a_ 3 fun t3_b => atA a_ 4 fun t4 => atA a_ 5 fun t5 => atA a_ 8 fun t8_x => K6 t2_a t3_b t4 t5 t8_x w_), fun _ _ => 0)
  | _ => none

set_option maxRecDepth 100000 in
/-- surd/surdref06.Floor: function 81. -/
theorem surdref06_Floor_vc (a0_a_0 : Bool) (a0_a_1 : Slc) (a1_b_0 : Bool) (a1_b_1 : Slc) (w : World) (R : Ending → World → Prop)
    (K5 : Addr → Addr → Addr → Addr → Addr → Bool → World → Prop) (K6 : Addr → Addr → Addr → Addr → Addr → World → Prop)
    (h : newC w #[Value.bool a0_a_0, a0_a_1.v] 44 fun ad1 w1 =>
    newC w1 #[Value.bool a1_b_0, a1_b_1.v] 44 fun ad2 w2 =>
    newC w2 #[Value.bool false, (⟨none, 0, 0⟩ : Slc).v] 44 fun ad3 w3 =>
    newC w3 #[Value.bool false, (⟨none, 0, 0⟩ : Slc).v] 44 fun ad4 w4 =>
    ldS (ad1.add 1) w4 fun s1 =>
    ldS (ad2.add 1) w4 fun s2 =>
    Calls Tryd.prog 103 #[s1.v, s2.v] w4 fun e1 w5 =>
    ∃ s3 : Slc, ∃ s4 : Slc, e1 = .returned (Value.tuple #[s3.v, s4.v]) ∧
    (ldB ad1 w5 fun b1 =>
      ldB ad2 w5 fun b2 =>
      Calls Tryd.prog 66 #[Value.bool (!(b1 == b2)), s3.v] w5 fun e2 w6 =>
      ∃ b3 : Bool, ∃ s5 : Slc, e2 = .returned (Value.agg #[Value.bool b3, s5.v]) ∧
      (newC w6 #[Value.bool false, (⟨none, 0, 0⟩ : Slc).v] 44 fun ad5 w7 =>
        stC ad5 (Value.bool b3) w7 fun w8 =>
        stC (ad5.add 1) s5.v w8 fun w9 =>
        Calls Tryd.prog 76 #[s4.v] w9 fun e3 w10 =>
        ∃ b4 : Bool, e3 = .returned (Value.bool b4) ∧
        (br (!b4)
          (ldB ad1 w10 fun b5 =>
            ldB ad2 w10 fun b6 =>
            K5 ad1 ad2 ad3 ad4 ad5 (!(b5 == b6)) w10)
          (K5 ad1 ad2 ad3 ad4 ad5 false w10)))))
    (h3000005 : ∀ (t2_a : Addr) (t3_b : Addr) (t4 : Addr) (t5 : Addr) (t8_x : Addr) (t33 : Bool) (w_ : World), K5 t2_a t3_b t4 t5 t8_x t33 w_ → 
    br t33
    (ldB t8_x w_.drew fun b7 =>
      ldS (t8_x.add 1) w_.drew fun s6 =>
      Calls Tryd.prog 77 #[Value.int .i64 1] w_.drew fun e4 w11 =>
      ∃ b8 : Bool, ∃ s7 : Slc, e4 = .returned (Value.agg #[Value.bool b8, s7.v]) ∧
      (Ahead w_.drew w11 ∧
        (Calls Tryd.prog 104 #[Value.agg #[Value.bool b7, s6.v], Value.agg #[Value.bool b8, s7.v]] w11 fun e5 w12 =>
          ∃ b9 : Bool, ∃ s8 : Slc, e5 = .returned (Value.agg #[Value.bool b9, s8.v]) ∧
          (Ahead w11 w12 ∧
            (stC t8_x (Value.bool b9) w12 fun w13 =>
              stC (t8_x.add 1) s8.v w13 fun w14 =>
              K6 t2_a t3_b t4 t5 t8_x w14)))))
    (K6 t2_a t3_b t4 t5 t8_x w_))
    (h3000006 : ∀ (t2_a : Addr) (t3_b : Addr) (t4 : Addr) (t5 : Addr) (t8_x : Addr) (w_ : World), K6 t2_a t3_b t4 t5 t8_x w_ → 
    ∃ V1 : Nat → Nat → Prop, Out (V1 0) t8_x (ldB t8_x w_.drew fun b10 =>
      ldS (t8_x.add 1) w_.drew fun s9 =>
      Out (V1 1) t2_a (ldB t2_a w_.drew fun b11 =>
        ldS (t2_a.add 1) w_.drew fun s10 =>
        Out (V1 2) t8_x (ldB t8_x w_.drew fun b12 =>
          ldS (t8_x.add 1) w_.drew fun s11 =>
          Out (V1 3) t3_b (ldB t3_b w_.drew fun b13 =>
            ldS (t3_b.add 1) w_.drew fun s12 =>
            Calls Tryd.prog 105 #[Value.agg #[Value.bool b12, s11.v], Value.agg #[Value.bool b13, s12.v]] w_.drew fun e6 w15 =>
            ∃ b14 : Bool, ∃ s13 : Slc, e6 = .returned (Value.agg #[Value.bool b14, s13.v]) ∧
            (Bar (V1 0) w_.drew w15 ∧
              (Bar (V1 1) w_.drew w15 ∧
                (Calls Tryd.prog 104 #[Value.agg #[Value.bool b11, s10.v], Value.agg #[Value.bool b14, s13.v]] w15 fun e7 w16 =>
                  ∃ b15 : Bool, ∃ s14 : Slc, e7 = .returned (Value.agg #[Value.bool b15, s14.v]) ∧
                  (Bar (V1 0) w15 w16 ∧
                    (stC t4 (Value.bool b10) w16 fun w17 =>
                      stC (t4.add 1) s9.v w17 fun w18 =>
                      stC t5 (Value.bool b15) w18 fun w19 =>
                      stC (t5.add 1) s14.v w19 fun w20 =>
                      ldB t4 w20 fun b16 =>
                      ldS (t4.add 1) w20 fun s15 =>
                      ldB t5 w20 fun b17 =>
                      ldS (t5.add 1) w20 fun s16 =>
                      R (.returned (Value.tuple #[Value.agg #[Value.bool b16, s15.v], Value.agg #[Value.bool b17, s16.v]])) w20)))))))))) :
    Calls Tryd.prog 81 #[Value.agg #[Value.bool a0_a_0, a0_a_1.v], Value.agg #[Value.bool a1_b_0, a1_b_1.v]] w R := by
  refine calls_of_vc (marks [2000005] (surdref06_Floor_cut K5 K6)) (by kernel_rfl) Tryd.func81 rfl ?_ ?_
  · refine kcast h ?_; kernel_rfl
  · exact (obl_seq rfl (obl_reg (obl_seq rfl (obl_reg (obl_seq rfl (obl_reg (obl_join _ rfl (obl_join _ rfl (obl_reg trivial) (fun a_ w_ hL_ => (by
    obtain ⟨hz_, hd_, hL_⟩ := atSz_out hL_
    obtain ⟨t2_a, h2_, hL_⟩ := atA_out hL_
    obtain ⟨t3_b, h3_, hL_⟩ := atA_out hL_
    obtain ⟨t4, h4_, hL_⟩ := atA_out hL_
    obtain ⟨t5, h5_, hL_⟩ := atA_out hL_
    obtain ⟨t8_x, h8_, hL_⟩ := atA_out hL_
    obtain ⟨t33, h33_, hL_⟩ := atB_out hL_
    obtain ⟨g3000005, rfl⟩ : ∃ g, a_ = Fr 43 [(2, Value.pointer (some t2_a)), (3, Value.pointer (some t3_b)), (4, Value.pointer (some t4)), (5, Value.pointer (some t5)), (8, Value.pointer (some t8_x)), (33, Value.bool t33)] g := ⟨_, fr_of hz_ hd_ [(2, Value.pointer (some t2_a)), (3, Value.pointer (some t3_b)), (4, Value.pointer (some t4)), (5, Value.pointer (some t5)), (8, Value.pointer (some t8_x)), (33, Value.bool t33)] (sel_cons h2_ (sel_cons h3_ (sel_cons h4_ (sel_cons h5_ (sel_cons h8_ (sel_cons h33_ sel_nil))))))⟩
    clear hz_ hd_ h2_ h3_ h4_ h5_ h8_ h33_
    have hJ3000005_ := hL_
    refine ⟨(marks [2000005] (surdref06_Floor_cut K5 K6)), kcast (h3000005 t2_a t3_b t4 t5 t8_x t33 w_ hJ3000005_) ?_, ?_⟩
    · kernel_rfl
    · exact (obl_cond (obl_held (by kernel_rfl) (by kernel_rfl) (by kernel_rfl) (obl_skip trivial)))))) (fun a_ w_ hL_ => (by
    obtain ⟨hz_, hd_, hL_⟩ := atSz_out hL_
    obtain ⟨t2_a, h2_, hL_⟩ := atA_out hL_
    obtain ⟨t3_b, h3_, hL_⟩ := atA_out hL_
    obtain ⟨t4, h4_, hL_⟩ := atA_out hL_
    obtain ⟨t5, h5_, hL_⟩ := atA_out hL_
    obtain ⟨t8_x, h8_, hL_⟩ := atA_out hL_
    obtain ⟨g3000006, rfl⟩ : ∃ g, a_ = Fr 43 [(2, Value.pointer (some t2_a)), (3, Value.pointer (some t3_b)), (4, Value.pointer (some t4)), (5, Value.pointer (some t5)), (8, Value.pointer (some t8_x))] g := ⟨_, fr_of hz_ hd_ [(2, Value.pointer (some t2_a)), (3, Value.pointer (some t3_b)), (4, Value.pointer (some t4)), (5, Value.pointer (some t5)), (8, Value.pointer (some t8_x))] (sel_cons h2_ (sel_cons h3_ (sel_cons h4_ (sel_cons h5_ (sel_cons h8_ sel_nil)))))⟩
    clear hz_ hd_ h2_ h3_ h4_ h5_ h8_
    have hJ3000006_ := hL_
    refine ⟨(marks [2000005] (surdref06_Floor_cut K5 K6)), kcast (h3000006 t2_a t3_b t4 t5 t8_x w_ hJ3000006_) ?_, ?_⟩
    · kernel_rfl
    · exact (obl_seq rfl (obl_store _ rfl (by kernel_rfl) (obl_ret trivial))))))))))))

def surdref06_Near_cut (K5 : Addr → Addr → Addr → Addr → Addr → Bool → World → Prop) (K6 : Addr → Addr → Addr → Addr → Addr → World → Prop) : Nat → Option ((Act → World → Prop) × (Act → World → Nat))
  | 3000005 => some (fun a_ w_ => atSz a_ 42 (atA a_ 2 fun t2_a => atA a_ 3 fun t3_b => atA a_ 4 fun t4 => atA a_ 5 fun t5 => atA a_ 6 fun t6_q => atB a_ 32 fun t32 => K5 t2_a t3_b t4 t5 t6_q t32 w_), fun _ _ => 0)
  | 3000006 => some (fun a_ w_ => atSz a_ 42 (atA a_ 2 fun t2_a => atA a_ 3 fun t3_b => atA a_ 4 fun t4 => atA a_ 5 fun t5 => atA a_ 6 fun t6_q => K6 t2_a t3_b t4 t5 t6_q w_), fun _ _ => 0)
  | _ => none

set_option maxRecDepth 100000 in
/-- surd/surdref06.Near: function 83. -/
theorem surdref06_Near_vc (a0_a_0 : Bool) (a0_a_1 : Slc) (a1_b_0 : Bool) (a1_b_1 : Slc) (w : World) (R : Ending → World → Prop)
    (K5 : Addr → Addr → Addr → Addr → Addr → Bool → World → Prop) (K6 : Addr → Addr → Addr → Addr → Addr → World → Prop)
    (h : newC w #[Value.bool a0_a_0, a0_a_1.v] 44 fun ad1 w1 =>
    newC w1 #[Value.bool a1_b_0, a1_b_1.v] 44 fun ad2 w2 =>
    newC w2 #[Value.bool false, (⟨none, 0, 0⟩ : Slc).v] 44 fun ad3 w3 =>
    newC w3 #[Value.bool false, (⟨none, 0, 0⟩ : Slc).v] 44 fun ad4 w4 =>
    ldB ad1 w4 fun b1 =>
    ldS (ad1.add 1) w4 fun s1 =>
    ldB ad2 w4 fun b2 =>
    ldS (ad2.add 1) w4 fun s2 =>
    Calls Tryd.prog 81 #[Value.agg #[Value.bool b1, s1.v], Value.agg #[Value.bool b2, s2.v]] w4 fun e1 w5 =>
    ∃ b3 : Bool, ∃ s3 : Slc, ∃ b4 : Bool, ∃ s4 : Slc, e1 = .returned (Value.tuple #[Value.agg #[Value.bool b3, s3.v], Value.agg #[Value.bool b4, s4.v]]) ∧
    (newC w5 #[Value.bool false, (⟨none, 0, 0⟩ : Slc).v] 44 fun ad5 w6 =>
      newC w6 #[Value.bool false, (⟨none, 0, 0⟩ : Slc).v] 44 fun ad6 w7 =>
      stC ad5 (Value.bool b3) w7 fun w8 =>
      stC (ad5.add 1) s3.v w8 fun w9 =>
      stC ad6 (Value.bool b4) w9 fun w10 =>
      stC (ad6.add 1) s4.v w10 fun w11 =>
      ldS (ad6.add 1) w11.drew fun s5 =>
      ldS (ad2.add 1) w11.drew fun s6 =>
      Calls Tryd.prog 54 #[s5.v, Value.int .i64 1] w11.drew fun e2 w12 =>
      ∃ s7 : Slc, e2 = .returned s7.v ∧
      (Ahead w11.drew w12 ∧
        (Calls Tryd.prog 106 #[s7.v, s6.v] w12 fun e3 w13 =>
          ∃ x1 : Int, e3 = .returned (Value.int .i64 x1) ∧
          (Ahead w12 w13 ∧
            (br (decide (x1 > 0))
              (K5 ad1 ad2 ad3 ad4 ad5 true w13)
              (br (x1 == 0)
                (ldS (ad5.add 1) w13 fun s19 =>
                  Calls Tryd.prog 99 #[s19.v, Value.int .i64 0] w13 fun e8 w24 =>
                  ∃ x2 : Int, e8 = .returned (Value.int .i64 x2) ∧
                  (K5 ad1 ad2 ad3 ad4 ad5 (x2 == 1) w24))
                (K5 ad1 ad2 ad3 ad4 ad5 false w13))))))))
    (h3000005 : ∀ (t2_a : Addr) (t3_b : Addr) (t4 : Addr) (t5 : Addr) (t6_q : Addr) (t32 : Bool) (w_ : World), K5 t2_a t3_b t4 t5 t6_q t32 w_ → 
    br t32
    (ldB t6_q w_.drew fun b5 =>
      ldS (t6_q.add 1) w_.drew fun s8 =>
      Calls Tryd.prog 77 #[Value.int .i64 1] w_.drew fun e4 w14 =>
      ∃ b6 : Bool, ∃ s9 : Slc, e4 = .returned (Value.agg #[Value.bool b6, s9.v]) ∧
      (Ahead w_.drew w14 ∧
        (Calls Tryd.prog 91 #[Value.agg #[Value.bool b5, s8.v], Value.agg #[Value.bool b6, s9.v]] w14 fun e5 w15 =>
          ∃ b7 : Bool, ∃ s10 : Slc, e5 = .returned (Value.agg #[Value.bool b7, s10.v]) ∧
          (Ahead w14 w15 ∧
            (stC t6_q (Value.bool b7) w15 fun w16 =>
              stC (t6_q.add 1) s10.v w16 fun w17 =>
              K6 t2_a t3_b t4 t5 t6_q w17)))))
    (K6 t2_a t3_b t4 t5 t6_q w_))
    (h3000006 : ∀ (t2_a : Addr) (t3_b : Addr) (t4 : Addr) (t5 : Addr) (t6_q : Addr) (w_ : World), K6 t2_a t3_b t4 t5 t6_q w_ → 
    ∃ V1 : Nat → Nat → Prop, Out (V1 0) t6_q (ldB t6_q w_.drew fun b8 =>
      ldS (t6_q.add 1) w_.drew fun s11 =>
      Out (V1 1) t2_a (ldB t2_a w_.drew fun b9 =>
        ldS (t2_a.add 1) w_.drew fun s12 =>
        Out (V1 2) t6_q (ldB t6_q w_.drew fun b10 =>
          ldS (t6_q.add 1) w_.drew fun s13 =>
          Out (V1 3) t3_b (ldB t3_b w_.drew fun b11 =>
            ldS (t3_b.add 1) w_.drew fun s14 =>
            Calls Tryd.prog 105 #[Value.agg #[Value.bool b10, s13.v], Value.agg #[Value.bool b11, s14.v]] w_.drew fun e6 w18 =>
            ∃ b12 : Bool, ∃ s15 : Slc, e6 = .returned (Value.agg #[Value.bool b12, s15.v]) ∧
            (Bar (V1 0) w_.drew w18 ∧
              (Bar (V1 1) w_.drew w18 ∧
                (Calls Tryd.prog 104 #[Value.agg #[Value.bool b9, s12.v], Value.agg #[Value.bool b12, s15.v]] w18 fun e7 w19 =>
                  ∃ b13 : Bool, ∃ s16 : Slc, e7 = .returned (Value.agg #[Value.bool b13, s16.v]) ∧
                  (Bar (V1 0) w18 w19 ∧
                    (stC t4 (Value.bool b8) w19 fun w20 =>
                      stC (t4.add 1) s11.v w20 fun w21 =>
                      stC t5 (Value.bool b13) w21 fun w22 =>
                      stC (t5.add 1) s16.v w22 fun w23 =>
                      ldB t4 w23 fun b14 =>
                      ldS (t4.add 1) w23 fun s17 =>
                      ldB t5 w23 fun b15 =>
                      ldS (t5.add 1) w23 fun s18 =>
                      R (.returned (Value.tuple #[Value.agg #[Value.bool b14, s17.v], Value.agg #[Value.bool b15, s18.v]])) w23)))))))))) :
    Calls Tryd.prog 83 #[Value.agg #[Value.bool a0_a_0, a0_a_1.v], Value.agg #[Value.bool a1_b_0, a1_b_1.v]] w R := by
  refine calls_of_vc (marks [2000005] (surdref06_Near_cut K5 K6)) (by kernel_rfl) Tryd.func83 rfl ?_ ?_
  · refine kcast h ?_; kernel_rfl
  · exact (obl_seq rfl (obl_reg (obl_seq rfl (obl_reg (obl_seq rfl (obl_held (by kernel_rfl) (by kernel_rfl) (by kernel_rfl) (obl_join _ rfl (obl_join _ rfl (obl_reg trivial) (fun a_ w_ hL_ => (by
    obtain ⟨hz_, hd_, hL_⟩ := atSz_out hL_
    obtain ⟨t2_a, h2_, hL_⟩ := atA_out hL_
    obtain ⟨t3_b, h3_, hL_⟩ := atA_out hL_
    obtain ⟨t4, h4_, hL_⟩ := atA_out hL_
    obtain ⟨t5, h5_, hL_⟩ := atA_out hL_
    obtain ⟨t6_q, h6_, hL_⟩ := atA_out hL_
    obtain ⟨t32, h32_, hL_⟩ := atB_out hL_
    obtain ⟨g3000005, rfl⟩ : ∃ g, a_ = Fr 42 [(2, Value.pointer (some t2_a)), (3, Value.pointer (some t3_b)), (4, Value.pointer (some t4)), (5, Value.pointer (some t5)), (6, Value.pointer (some t6_q)), (32, Value.bool t32)] g := ⟨_, fr_of hz_ hd_ [(2, Value.pointer (some t2_a)), (3, Value.pointer (some t3_b)), (4, Value.pointer (some t4)), (5, Value.pointer (some t5)), (6, Value.pointer (some t6_q)), (32, Value.bool t32)] (sel_cons h2_ (sel_cons h3_ (sel_cons h4_ (sel_cons h5_ (sel_cons h6_ (sel_cons h32_ sel_nil))))))⟩
    clear hz_ hd_ h2_ h3_ h4_ h5_ h6_ h32_
    have hJ3000005_ := hL_
    refine ⟨(marks [2000005] (surdref06_Near_cut K5 K6)), kcast (h3000005 t2_a t3_b t4 t5 t6_q t32 w_ hJ3000005_) ?_, ?_⟩
    · kernel_rfl
    · exact (obl_cond (obl_held (by kernel_rfl) (by kernel_rfl) (by kernel_rfl) (obl_skip trivial)))))) (fun a_ w_ hL_ => (by
    obtain ⟨hz_, hd_, hL_⟩ := atSz_out hL_
    obtain ⟨t2_a, h2_, hL_⟩ := atA_out hL_
    obtain ⟨t3_b, h3_, hL_⟩ := atA_out hL_
    obtain ⟨t4, h4_, hL_⟩ := atA_out hL_
    obtain ⟨t5, h5_, hL_⟩ := atA_out hL_
    obtain ⟨t6_q, h6_, hL_⟩ := atA_out hL_
    obtain ⟨g3000006, rfl⟩ : ∃ g, a_ = Fr 42 [(2, Value.pointer (some t2_a)), (3, Value.pointer (some t3_b)), (4, Value.pointer (some t4)), (5, Value.pointer (some t5)), (6, Value.pointer (some t6_q))] g := ⟨_, fr_of hz_ hd_ [(2, Value.pointer (some t2_a)), (3, Value.pointer (some t3_b)), (4, Value.pointer (some t4)), (5, Value.pointer (some t5)), (6, Value.pointer (some t6_q))] (sel_cons h2_ (sel_cons h3_ (sel_cons h4_ (sel_cons h5_ (sel_cons h6_ sel_nil)))))⟩
    clear hz_ hd_ h2_ h3_ h4_ h5_ h6_
    have hJ3000006_ := hL_
    refine ⟨(marks [2000005] (surdref06_Near_cut K5 K6)), kcast (h3000006 t2_a t3_b t4 t5 t6_q w_ hJ3000006_) ?_, ?_⟩
    · kernel_rfl
    · exact (obl_seq rfl (obl_store _ rfl (by kernel_rfl) (obl_ret trivial))))))))))))

set_option maxRecDepth 100000 in
/-- surd/surdref06.Cmp: function 90. -/
theorem surdref06_Cmp_vc (a0_a_0 : Bool) (a0_a_1 : Slc) (a1_b_0 : Bool) (a1_b_1 : Slc) (w : World) (R : Ending → World → Prop)
    
    (h : newC w #[Value.bool a0_a_0, a0_a_1.v] 44 fun ad1 w1 =>
    newC w1 #[Value.bool a1_b_0, a1_b_1.v] 44 fun ad2 w2 =>
    ldB ad1 w2 fun b1 =>
    ldB ad2 w2 fun b2 =>
    br (!(b1 == b2))
    (ldB ad1 w2 fun b3 =>
      br b3
      (R (.returned (Value.int .i64 (-1))) w2)
      (R (.returned (Value.int .i64 1)) w2))
    (ldS (ad1.add 1) w2 fun s1 =>
      ldS (ad2.add 1) w2 fun s2 =>
      Calls Tryd.prog 106 #[s1.v, s2.v] w2 fun e1 w3 =>
      ∃ x1 : Int, e1 = .returned (Value.int .i64 x1) ∧
      (ldB ad1 w3 fun b4 =>
        br b4
        (R (.returned (Value.int .i64 (IntKind.i64.wrap (0 - x1)))) w3)
        (R (.returned (Value.int .i64 x1)) w3)))) :
    Calls Tryd.prog 90 #[Value.agg #[Value.bool a0_a_0, a0_a_1.v], Value.agg #[Value.bool a1_b_0, a1_b_1.v]] w R := by
  refine calls_of_vc (fun _ => none) (by kernel_rfl) Tryd.func90 rfl ?_ ?_
  · refine kcast h ?_; kernel_rfl
  · exact (obl_seq rfl (obl_reg (obl_seq rfl (obl_seq rfl (obl_reg (obl_cond (obl_seq rfl (obl_seq rfl (obl_reg (obl_cond (obl_seq rfl (obl_reg (obl_ret (obl_skip (obl_seq rfl (obl_reg (obl_ret (obl_skip (obl_seq rfl (obl_reg (obl_seq rfl (obl_seq rfl (obl_reg (obl_cond (obl_seq rfl (obl_reg (obl_ret (obl_skip (obl_seq rfl (obl_reg (obl_ret trivial)))))))))))))))))))))))))))))))

set_option maxRecDepth 100000 in
/-- surd/surdref06.Neg: function 96. -/
theorem surdref06_Neg_vc (a0_a_0 : Bool) (a0_a_1 : Slc) (w : World) (R : Ending → World → Prop)
    
    (h : newC w #[Value.bool a0_a_0, a0_a_1.v] 44 fun ad1 w1 =>
    newC w1 #[Value.bool false, (⟨none, 0, 0⟩ : Slc).v] 44 fun ad2 w2 =>
    ldB ad1 w2 fun b1 =>
    ldS (ad1.add 1) w2 fun s1 =>
    Calls Tryd.prog 66 #[Value.bool (!b1), s1.v] w2 fun e1 w3 =>
    ∃ b2 : Bool, ∃ s2 : Slc, e1 = .returned (Value.agg #[Value.bool b2, s2.v]) ∧
    (stC ad2 (Value.bool b2) w3 fun w4 =>
      stC (ad2.add 1) s2.v w4 fun w5 =>
      ldB ad2 w5 fun b3 =>
      ldS (ad2.add 1) w5 fun s3 =>
      R (.returned (Value.agg #[Value.bool b3, s3.v])) w5)) :
    Calls Tryd.prog 96 #[Value.agg #[Value.bool a0_a_0, a0_a_1.v]] w R := by
  refine calls_of_vc (fun _ => none) (by kernel_rfl) Tryd.func96 rfl ?_ ?_
  · refine kcast h ?_; kernel_rfl
  · exact (obl_seq rfl (obl_reg (obl_seq rfl (obl_reg (obl_ret trivial)))))

set_option maxRecDepth 100000 in
/-- surd/surdref06.Abs: function 97. -/
theorem surdref06_Abs_vc (a0_a_0 : Bool) (a0_a_1 : Slc) (w : World) (R : Ending → World → Prop)
    
    (h : newC w #[Value.bool a0_a_0, a0_a_1.v] 44 fun ad1 w1 =>
    newC w1 #[Value.bool false, (⟨none, 0, 0⟩ : Slc).v] 44 fun ad2 w2 =>
    ldS (ad1.add 1) w2 fun s1 =>
    stC ad2 (Value.bool false) w2 fun w3 =>
    stC (ad2.add 1) s1.v w3 fun w4 =>
    ldB ad2 w4 fun b1 =>
    ldS (ad2.add 1) w4 fun s2 =>
    R (.returned (Value.agg #[Value.bool b1, s2.v])) w4) :
    Calls Tryd.prog 97 #[Value.agg #[Value.bool a0_a_0, a0_a_1.v]] w R := by
  refine calls_of_vc (fun _ => none) (by kernel_rfl) Tryd.func97 rfl ?_ ?_
  · refine kcast h ?_; kernel_rfl
  · exact (obl_seq rfl (obl_reg (obl_seq rfl (obl_reg (obl_ret trivial)))))

end Go.Proofs.YthhbjhdnaopcnaaDoor
