/- What the law leans on, part 2. No condition. -/
import Derived.Test.YtlkjgafnjmfgiaaDoorZDyadicNear1
namespace Go.Proofs.YtlkjgafnjmfgiaaDoor
open Go Go.RowKit Eng
set_option linter.unusedVariables false

def nat_Tail_cut (J0 : Slc → Int → Int → World → Prop) (m0 : Slc → Int → Int → World → Nat) : Nat → Option ((Act → World → Prop) × (Act → World → Nat))
  | 0 => some (fun a_ w_ => atSz a_ 20 (atS a_ 5 fun t5 => atI .i64 a_ 6 fun t6 => atI .i64 a_ 7 fun t7 => J0 t5 t6 t7 w_), fun a_ w_ => mS a_ 5 fun t5 => mI a_ 6 fun t6 => mI a_ 7 fun t7 => m0 t5 t6 t7 w_)
  | _ => none

set_option maxRecDepth 100000 in
/-- surd/nat.Tail: function 59. -/
theorem nat_Tail_vc (a0_a : Slc) (w : World) (R : Ending → World → Prop)
    (J0 : Slc → Int → Int → World → Prop) (m0 : Slc → Int → Int → World → Nat)
    (h : J0 a0_a (a0_a.n : Int) 0 w)
    (h0 : ∀ (t5 : Slc) (t6 : Int) (t7 : Int) (w_ : World), J0 t5 t6 t7 w_ → 
    br (decide (t7 < t6))
    (semA Tryd.prog (Instr.indexAt 25 t5.v (Value.int .i64 t7)) w_ fun ad1 w1 =>
     ldI .u64 ad1 w1 fun x1 =>
     br (x1 != 0)
     (Calls Tryd.prog 71 #[Value.int .u64 x1] w1 fun e1 w2 =>
      ∃ x2 : Int, e1 = .returned (Value.int .i64 x2) ∧
      (R (.returned (Value.int .i64 (IntKind.i64.wrap ((IntKind.i64.wrap (64 * t7)) + x2)))) w2))
     (J0 t5 t6 (IntKind.i64.wrap (t7 + 1)) w1 ∧
      m0 t5 t6 (IntKind.i64.wrap (t7 + 1)) w1 < m0 t5 t6 t7 w_))
    (R (.returned (Value.int .i64 0)) w_)) :
    Calls Tryd.prog 59 #[a0_a.v] w R := by
  refine calls_of_vc (nat_Tail_cut J0 m0) (by kernel_rfl) Tryd.func59 rfl ?_ ?_
  · refine kcast h ?_; kernel_rfl
  · exact (obl_seq rfl (obl_reg (obl_seq rfl (obl_seq rfl (obl_reg (obl_loop _ rfl (fun a_ w_ hL_ => (by
    obtain ⟨hz_, hd_, hL_⟩ := atSz_out hL_
    obtain ⟨t5, h5_, hL_⟩ := atS_out hL_
    obtain ⟨t6, h6_, hL_⟩ := atI_out hL_
    obtain ⟨t7, h7_, hL_⟩ := atI_out hL_
    obtain ⟨g0, rfl⟩ : ∃ g, a_ = Fr 20 [(5, t5.v), (6, Value.int .i64 t6), (7, Value.int .i64 t7)] g := ⟨_, fr_of hz_ hd_ [(5, t5.v), (6, Value.int .i64 t6), (7, Value.int .i64 t7)] (sel_cons h5_ (sel_cons h6_ (sel_cons h7_ sel_nil)))⟩
    clear hz_ hd_ h5_ h6_ h7_
    have hJ0_ := hL_
    refine ⟨(fun _ => none), kcast (h0 t5 t6 t7 w_ hJ0_) ?_, ?_⟩
    · kernel_rfl
    · exact (obl_seq rfl (obl_reg (obl_seq rfl (obl_cond (obl_skip (obl_exit (obl_seq rfl (obl_blk rfl (obl_seq rfl (obl_reg (obl_seq rfl (obl_reg (obl_cond (obl_seq rfl (obl_reg (obl_ret (obl_skip (obl_reg trivial)))))))))))))))))))) (obl_seq rfl (obl_reg (obl_ret trivial)))))))))

set_option maxRecDepth 100000 in
/-- surd/nat.Bit: function 62. -/
theorem nat_Bit_vc (a0_a : Slc) (a1_i : Int) (w : World) (R : Ending → World → Prop)
    
    (h : br (decide (a1_i < 0))
    (R (.returned (Value.int .i64 0)) w)
    (br (decide ((IntKind.i64.wrap (Int.tdiv a1_i 64)) ≥ (a0_a.n : Int)))
     (R (.returned (Value.int .i64 0)) w)
     (semA Tryd.prog (Instr.indexAt 25 a0_a.v (Value.int .i64 (IntKind.i64.wrap (Int.tdiv a1_i 64)))) w fun ad1 w1 =>
      ldI .u64 ad1 w1 fun x1 =>
      semI Tryd.prog .u64 (binOp .shr 57 (Value.int .u64 x1) (Value.int .u64 (IntKind.u64.wrap (Int.tmod a1_i 64)))) w1 fun x2 w2 =>
      R (.returned (Value.int .i64 (IntKind.i64.wrap (andI .u64 x2 1)))) w2))) :
    Calls Tryd.prog 62 #[a0_a.v, Value.int .i64 a1_i] w R := by
  refine calls_of_vc (fun _ => none) (by kernel_rfl) Tryd.func62 rfl ?_ ?_
  · refine kcast h ?_; kernel_rfl
  · exact (obl_seq rfl (obl_reg (obl_seq rfl (obl_seq rfl (obl_reg (obl_cond (obl_seq rfl (obl_reg (obl_ret (obl_skip (obl_seq rfl (obl_reg (obl_ret trivial)))))))))))))

set_option maxRecDepth 100000 in
/-- surd/dyadic.odd: function 42. -/
theorem dyadic_odd_vc (a0_m_0 : Bool) (a0_m_1 : Slc) (a1_e : Int) (w : World) (R : Ending → World → Prop)
    
    (h : newC w #[Value.bool a0_m_0, a0_m_1.v] 27 fun ad1 w1 =>
    newC w1 #[Value.bool false, (⟨none, 0, 0⟩ : Slc).v, Value.int .i64 0] 63 fun ad2 w2 =>
    ldB ad1 w2 fun b1 =>
    ldS (ad1.add 1) w2 fun s1 =>
    Calls Tryd.prog 57 #[Value.agg #[Value.bool b1, s1.v]] w2 fun e1 w3 =>
    ∃ x1 : Int, e1 = .returned (Value.int .i64 x1) ∧
    (br (x1 == 0)
     (stC ad2 (Value.bool false) w3 fun w4 =>
      stC (ad2.add 1) ((⟨none, 0, 0⟩ : Slc).v) w4 fun w5 =>
      stC (ad2.add 2) (Value.int .i64 0) w5 fun w6 =>
      ldB ad2 w6 fun b2 =>
      ldS (ad2.add 1) w6 fun s2 =>
      ldI .i64 (ad2.add 2) w6 fun x2 =>
      R (.returned (Value.agg #[Value.bool b2, s2.v, Value.int .i64 x2])) w6)
     (ldS (ad1.add 1) w3 fun s3 =>
      Calls Tryd.prog 58 #[s3.v] w3 fun e2 w7 =>
      ∃ s4 : Slc, e2 = .returned s4.v ∧
      (stC (ad1.add 1) s4.v w7 fun w8 =>
       ldS (ad1.add 1) w8 fun s5 =>
       Calls Tryd.prog 59 #[s5.v] w8 fun e3 w9 =>
       ∃ x3 : Int, e3 = .returned (Value.int .i64 x3) ∧
       (br (decide (x3 > 0))
        (ldS (ad1.add 1) w9 fun s6 =>
         Calls Tryd.prog 60 #[s6.v, Value.int .i64 x3] w9 fun e4 w10 =>
         ∃ s7 : Slc, e4 = .returned s7.v ∧
         (stC (ad1.add 1) s7.v w10 fun w11 =>
          ldB ad1 w11 fun b3 =>
          ldS (ad1.add 1) w11 fun s8 =>
          stC ad2 (Value.bool b3) w11 fun w12 =>
          stC (ad2.add 1) s8.v w12 fun w13 =>
          stC (ad2.add 2) (Value.int .i64 (IntKind.i64.wrap (a1_e + x3))) w13 fun w14 =>
          ldB ad2 w14 fun b4 =>
          ldS (ad2.add 1) w14 fun s9 =>
          ldI .i64 (ad2.add 2) w14 fun x4 =>
          R (.returned (Value.agg #[Value.bool b4, s9.v, Value.int .i64 x4])) w14))
        (ldB ad1 w9 fun b5 =>
         ldS (ad1.add 1) w9 fun s10 =>
         stC ad2 (Value.bool b5) w9 fun w15 =>
         stC (ad2.add 1) s10.v w15 fun w16 =>
         stC (ad2.add 2) (Value.int .i64 (IntKind.i64.wrap (a1_e + x3))) w16 fun w17 =>
         ldB ad2 w17 fun b6 =>
         ldS (ad2.add 1) w17 fun s11 =>
         ldI .i64 (ad2.add 2) w17 fun x5 =>
         R (.returned (Value.agg #[Value.bool b6, s11.v, Value.int .i64 x5])) w17)))))) :
    Calls Tryd.prog 42 #[Value.agg #[Value.bool a0_m_0, a0_m_1.v], Value.int .i64 a1_e] w R := by
  refine calls_of_vc (fun _ => none) (by kernel_rfl) Tryd.func42 rfl ?_ ?_
  · refine kcast h ?_; kernel_rfl
  · exact (obl_seq rfl (obl_reg (obl_seq rfl (obl_seq rfl (obl_reg (obl_cond (obl_seq rfl (obl_reg (obl_ret (obl_skip (obl_seq rfl (obl_reg (obl_seq rfl (obl_reg (obl_seq rfl (obl_seq rfl (obl_reg (obl_cond (obl_reg (obl_skip (obl_seq rfl (obl_reg (obl_ret trivial)))))))))))))))))))))))

def dyadic_shifted_cut (J0 : Slc → Int → Int → Slc → Int → Int → World → Prop) (m0 : Slc → Int → Int → Slc → Int → Int → World → Nat) : Nat → Option ((Act → World → Prop) × (Act → World → Nat))
  | 0 => some (fun a_ w_ => atSz a_ 76 (atS a_ 0 fun t0 => atI .i64 a_ 7 fun t7 => atI .u64 a_ 8 fun t8 => atS a_ 9 fun t9 => atI .i64 a_ 31 fun t31 => atI .i64 a_ 32 fun t32 => J0 t0 t7 t8 t9 t31 t32 w_), fun a_ w_ => mS a_ 0 fun t0 => mI a_ 7 fun t7 => mI a_ 8 fun t8 => mS a_ 9 fun t9 => mI a_ 31 fun t31 => mI a_ 32 fun t32 => m0 t0 t7 t8 t9 t31 t32 w_)
  | _ => none

set_option maxRecDepth 100000 in
/-- surd/dyadic.shifted: function 60. -/
theorem dyadic_shifted_vc (a0 : Slc) (a1 : Int) (w : World) (R : Ending → World → Prop)
    (J0 : Slc → Int → Int → Slc → Int → Int → World → Prop) (m0 : Slc → Int → Int → Slc → Int → Int → World → Nat)
    (h : Calls Tryd.prog 72 #[a0.v, Value.int .i64 a1] w fun e1 w1 =>
    ∃ s1 : Slc, ∃ x1 : Int, e1 = .returned (Value.tuple #[s1.v, Value.int .i64 x1]) ∧
    (br (x1 == 0)
     (R (.returned s1.v) w1)
     (semS Tryd.prog (Instr.makeSlice 25 (Value.int .i64 (IntKind.i64.wrap ((a0.n : Int) - (IntKind.i64.wrap (Int.tdiv a1 64))))) (Value.int .i64 (IntKind.i64.wrap ((a0.n : Int) - (IntKind.i64.wrap (Int.tdiv a1 64)))))) w1 fun s2 w2 =>
      J0 a0 (IntKind.i64.wrap (Int.tdiv a1 64)) (IntKind.u64.wrap (Int.tmod a1 64)) s2 (s2.n : Int) 0 w2)))
    (h0 : ∀ (t0 : Slc) (t7 : Int) (t8 : Int) (t9 : Slc) (t31 : Int) (t32 : Int) (w_ : World), J0 t0 t7 t8 t9 t31 t32 w_ → 
    br (decide (t32 < t31))
    (semA Tryd.prog (Instr.indexAt 25 t0.v (Value.int .i64 (IntKind.i64.wrap (t32 + t7)))) w_ fun ad1 w3 =>
     ldI .u64 ad1 w3 fun x2 =>
     semI Tryd.prog .u64 (binOp .shr 57 (Value.int .u64 x2) (Value.int .u64 t8)) w3 fun x3 w4 =>
     semA Tryd.prog (Instr.indexAt 25 t9.v (Value.int .i64 t32)) w4 fun ad2 w5 =>
     stC ad2 (Value.int .u64 x3) w5 fun w6 =>
     br (decide (t8 > 0))
     (br (decide ((IntKind.i64.wrap ((IntKind.i64.wrap (t32 + t7)) + 1)) < (t0.n : Int)))
      (fixA Tryd.prog (Instr.indexAt 25 t9.v (Value.int .i64 t32)) w6 fun ad3 =>
       ldI .u64 ad3 w6 fun x4 =>
       fixA Tryd.prog (Instr.indexAt 25 t0.v (Value.int .i64 (IntKind.i64.wrap ((IntKind.i64.wrap (t32 + t7)) + 1)))) w6 fun ad4 =>
       ldI .u64 ad4 w6 fun x5 =>
       fixI Tryd.prog .u64 (binOp .shl 57 (Value.int .u64 x5) (Value.int .u64 (IntKind.u64.wrap (64 - t8)))) w6 fun x6 =>
       fixA Tryd.prog (Instr.indexAt 25 t9.v (Value.int .i64 t32)) w6 fun ad5 =>
       stC ad5 (Value.int .u64 (orI .u64 x4 x6)) w6.drew fun w7 =>
       J0 t0 t7 t8 t9 t31 (IntKind.i64.wrap (t32 + 1)) w7 ∧
       m0 t0 t7 t8 t9 t31 (IntKind.i64.wrap (t32 + 1)) w7 < m0 t0 t7 t8 t9 t31 t32 w_)
      (J0 t0 t7 t8 t9 t31 (IntKind.i64.wrap (t32 + 1)) w6 ∧
       m0 t0 t7 t8 t9 t31 (IntKind.i64.wrap (t32 + 1)) w6 < m0 t0 t7 t8 t9 t31 t32 w_))
     (J0 t0 t7 t8 t9 t31 (IntKind.i64.wrap (t32 + 1)) w6 ∧
      m0 t0 t7 t8 t9 t31 (IntKind.i64.wrap (t32 + 1)) w6 < m0 t0 t7 t8 t9 t31 t32 w_))
    (Calls Tryd.prog 58 #[t9.v] w_ fun e2 w8 =>
     ∃ s3 : Slc, e2 = .returned s3.v ∧
     (R (.returned s3.v) w8))) :
    Calls Tryd.prog 60 #[a0.v, Value.int .i64 a1] w R := by
  refine calls_of_vc (dyadic_shifted_cut J0 m0) (by kernel_rfl) Tryd.func60 rfl ?_ ?_
  · refine kcast h ?_; kernel_rfl
  · exact (obl_seq rfl (obl_reg (obl_seq rfl (obl_reg (obl_seq rfl (obl_seq rfl (obl_reg (obl_cond (obl_seq rfl (obl_reg (obl_ret (obl_skip (obl_seq rfl (obl_reg (obl_seq rfl (obl_reg (obl_seq rfl (obl_seq rfl (obl_reg (obl_loop _ rfl (fun a_ w_ hL_ => (by
    obtain ⟨hz_, hd_, hL_⟩ := atSz_out hL_
    obtain ⟨t0, h0_, hL_⟩ := atS_out hL_
    obtain ⟨t7, h7_, hL_⟩ := atI_out hL_
    obtain ⟨t8, h8_, hL_⟩ := atI_out hL_
    obtain ⟨t9, h9_, hL_⟩ := atS_out hL_
    obtain ⟨t31, h31_, hL_⟩ := atI_out hL_
    obtain ⟨t32, h32_, hL_⟩ := atI_out hL_
    obtain ⟨g0, rfl⟩ : ∃ g, a_ = Fr 76 [(0, t0.v), (7, Value.int .i64 t7), (8, Value.int .u64 t8), (9, t9.v), (31, Value.int .i64 t31), (32, Value.int .i64 t32)] g := ⟨_, fr_of hz_ hd_ [(0, t0.v), (7, Value.int .i64 t7), (8, Value.int .u64 t8), (9, t9.v), (31, Value.int .i64 t31), (32, Value.int .i64 t32)] (sel_cons h0_ (sel_cons h7_ (sel_cons h8_ (sel_cons h9_ (sel_cons h31_ (sel_cons h32_ sel_nil))))))⟩
    clear hz_ hd_ h0_ h7_ h8_ h9_ h31_ h32_
    have hJ0_ := hL_
    refine ⟨(fun _ => none), kcast (h0 t0 t7 t8 t9 t31 t32 w_ hJ0_) ?_, ?_⟩
    · kernel_rfl
    · exact (obl_seq rfl (obl_reg (obl_seq rfl (obl_cond (obl_skip (obl_exit (obl_seq rfl (obl_blk rfl (obl_seq rfl (obl_reg (obl_seq rfl (obl_reg (obl_seq rfl (obl_reg (obl_cond (obl_tail 16 (by kernel_rfl) (by kernel_rfl) (by kernel_rfl) (by kernel_rfl) (by kernel_rfl) (obl_skip (obl_reg trivial)))))))))))))))))))) (obl_seq rfl (obl_reg (obl_ret trivial)))))))))))))))))))))))

set_option maxRecDepth 100000 in
/-- surd/dyadic.told: function 28. -/
theorem dyadic_told_vc (a0_m_0 : Bool) (a0_m_1 : Slc) (a1_e : Int) (w : World) (R : Ending → World → Prop)
    
    (h : newC w #[Value.bool a0_m_0, a0_m_1.v] 27 fun ad1 w1 =>
    newC w1 #[Value.bool false, (⟨none, 0, 0⟩ : Slc).v, Value.int .i64 0] 29 fun ad2 w2 =>
    ldB ad1 w2 fun b1 =>
    ldS (ad1.add 1) w2 fun s1 =>
    Calls Tryd.prog 42 #[Value.agg #[Value.bool b1, s1.v], Value.int .i64 a1_e] w2 fun e1 w3 =>
    ∃ b2 : Bool, ∃ s2 : Slc, ∃ x1 : Int, e1 = .returned (Value.agg #[Value.bool b2, s2.v, Value.int .i64 x1]) ∧
    (newC w3 #[Value.bool false, (⟨none, 0, 0⟩ : Slc).v, Value.int .i64 0] 63 fun ad3 w4 =>
     stC ad3 (Value.bool b2) w4 fun w5 =>
     stC (ad3.add 1) s2.v w5 fun w6 =>
     stC (ad3.add 2) (Value.int .i64 x1) w6 fun w7 =>
     ldB ad3 w7 fun b3 =>
     ldS (ad3.add 1) w7 fun s3 =>
     Calls Tryd.prog 43 #[Value.agg #[Value.bool b3, s3.v]] w7 fun e2 w8 =>
     ∃ x2 : Int, e2 = .returned (Value.int .i64 x2) ∧
     (br (x2 == 0)
      (stC ad2 (Value.bool false) w8 fun w9 =>
       stC (ad2.add 1) ((⟨none, 0, 0⟩ : Slc).v) w9 fun w10 =>
       stC (ad2.add 2) (Value.int .i64 0) w10 fun w11 =>
       ldB ad2 w11 fun b4 =>
       ldS (ad2.add 1) w11 fun s4 =>
       ldI .i64 (ad2.add 2) w11 fun x3 =>
       R (.returned (Value.tuple #[Value.agg #[Value.bool b4, s4.v, Value.int .i64 x3], Value.int .i64 0])) w11)
      (ldB ad3 w8 fun b5 =>
       ldS (ad3.add 1) w8 fun s5 =>
       Calls Tryd.prog 45 #[Value.agg #[Value.bool b5, s5.v]] w8 fun e3 w12 =>
       ∃ x4 : Int, e3 = .returned (Value.int .i64 x4) ∧
       (br (decide (x4 > 67108864))
        (stC ad2 (Value.bool false) w12 fun w13 =>
         stC (ad2.add 1) ((⟨none, 0, 0⟩ : Slc).v) w13 fun w14 =>
         stC (ad2.add 2) (Value.int .i64 0) w14 fun w15 =>
         ldB ad2 w15 fun b6 =>
         ldS (ad2.add 1) w15 fun s6 =>
         ldI .i64 (ad2.add 2) w15 fun x5 =>
         R (.returned (Value.tuple #[Value.agg #[Value.bool b6, s6.v, Value.int .i64 x5], Value.int .i64 3])) w15)
        (ldI .i64 (ad3.add 2) w12 fun x6 =>
         Calls Tryd.prog 25 #[Value.int .i64 x6] w12 fun e4 w16 =>
         ∃ b7 : Bool, e4 = .returned (Value.bool b7) ∧
         (br (!b7)
          (stC ad2 (Value.bool false) w16 fun w17 =>
           stC (ad2.add 1) ((⟨none, 0, 0⟩ : Slc).v) w17 fun w18 =>
           stC (ad2.add 2) (Value.int .i64 0) w18 fun w19 =>
           ldB ad2 w19 fun b8 =>
           ldS (ad2.add 1) w19 fun s7 =>
           ldI .i64 (ad2.add 2) w19 fun x7 =>
           R (.returned (Value.tuple #[Value.agg #[Value.bool b8, s7.v, Value.int .i64 x7], Value.int .i64 80])) w19)
          (ldB ad3 w16 fun b9 =>
           ldS (ad3.add 1) w16 fun s8 =>
           ldI .i64 (ad3.add 2) w16 fun x8 =>
           stC ad2 (Value.bool b9) w16 fun w20 =>
           stC (ad2.add 1) s8.v w20 fun w21 =>
           stC (ad2.add 2) (Value.int .i64 x8) w21 fun w22 =>
           ldB ad2 w22 fun b10 =>
           ldS (ad2.add 1) w22 fun s9 =>
           ldI .i64 (ad2.add 2) w22 fun x9 =>
           R (.returned (Value.tuple #[Value.agg #[Value.bool b10, s9.v, Value.int .i64 x9], Value.int .i64 0])) w22)))))))) :
    Calls Tryd.prog 28 #[Value.agg #[Value.bool a0_m_0, a0_m_1.v], Value.int .i64 a1_e] w R := by
  refine calls_of_vc (fun _ => none) (by kernel_rfl) Tryd.func28 rfl ?_ ?_
  · refine kcast h ?_; kernel_rfl
  · exact (obl_seq rfl (obl_reg (obl_seq rfl (obl_reg (obl_seq rfl (obl_blk rfl (obl_seq rfl (obl_reg (obl_cond (obl_seq rfl (obl_reg (obl_ret (obl_seq rfl (obl_reg (obl_cond (obl_seq rfl (obl_reg (obl_ret (obl_seq rfl (obl_reg (obl_cond (obl_seq rfl (obl_reg (obl_ret (obl_skip (obl_seq rfl (obl_reg (obl_ret trivial))))))))))))))))))))))))))))

set_option maxRecDepth 100000 in
/-- surd/dyadic.read: function 24. -/
theorem dyadic_read_vc (a0_a_0 : Bool) (a0_a_1 : Slc) (a0_a_2 : Int) (w : World) (R : Ending → World → Prop)
    
    (h : newC w #[Value.bool a0_a_0, a0_a_1.v, Value.int .i64 a0_a_2] 29 fun ad1 w1 =>
    newC w1 #[Value.bool false, (⟨none, 0, 0⟩ : Slc).v, Value.int .i64 0] 63 fun ad2 w2 =>
    ldI .i64 (ad1.add 2) w2 fun x1 =>
    Calls Tryd.prog 25 #[Value.int .i64 x1] w2 fun e1 w3 =>
    ∃ b1 : Bool, e1 = .returned (Value.bool b1) ∧
    (br (!b1)
     (stC ad2 (Value.bool false) w3 fun w4 =>
      stC (ad2.add 1) ((⟨none, 0, 0⟩ : Slc).v) w4 fun w5 =>
      stC (ad2.add 2) (Value.int .i64 0) w5 fun w6 =>
      ldB ad2 w6 fun b2 =>
      ldS (ad2.add 1) w6 fun s1 =>
      ldI .i64 (ad2.add 2) w6 fun x2 =>
      R (.returned (Value.tuple #[Value.agg #[Value.bool b2, s1.v, Value.int .i64 x2], Value.int .i64 80])) w6)
     (ldB ad1 w3 fun b3 =>
      ldS (ad1.add 1) w3 fun s2 =>
      ldI .i64 (ad1.add 2) w3 fun x3 =>
      Calls Tryd.prog 42 #[Value.agg #[Value.bool b3, s2.v], Value.int .i64 x3] w3 fun e2 w7 =>
      ∃ b4 : Bool, ∃ s3 : Slc, ∃ x4 : Int, e2 = .returned (Value.agg #[Value.bool b4, s3.v, Value.int .i64 x4]) ∧
      (stC ad2 (Value.bool b4) w7 fun w8 =>
       stC (ad2.add 1) s3.v w8 fun w9 =>
       stC (ad2.add 2) (Value.int .i64 x4) w9 fun w10 =>
       ldB ad2 w10 fun b5 =>
       ldS (ad2.add 1) w10 fun s4 =>
       ldI .i64 (ad2.add 2) w10 fun x5 =>
       R (.returned (Value.tuple #[Value.agg #[Value.bool b5, s4.v, Value.int .i64 x5], Value.int .i64 0])) w10)))) :
    Calls Tryd.prog 24 #[Value.agg #[Value.bool a0_a_0, a0_a_1.v, Value.int .i64 a0_a_2]] w R := by
  refine calls_of_vc (fun _ => none) (by kernel_rfl) Tryd.func24 rfl ?_ ?_
  · refine kcast h ?_; kernel_rfl
  · exact (obl_seq rfl (obl_reg (obl_seq rfl (obl_seq rfl (obl_reg (obl_cond (obl_seq rfl (obl_reg (obl_ret (obl_skip (obl_seq rfl (obl_reg (obl_ret trivial)))))))))))))

set_option maxRecDepth 100000 in
/-- surd/dyadic.Make: function 21. -/
theorem dyadic_Make_vc (a0_m_0 : Bool) (a0_m_1 : Slc) (a1_e : Int) (w : World) (R : Ending → World → Prop)
    
    (h : newC w #[Value.bool a0_m_0, a0_m_1.v] 27 fun ad1 w1 =>
    newC w1 #[Value.bool false, (⟨none, 0, 0⟩ : Slc).v, Value.int .i64 0] 29 fun ad2 w2 =>
    Calls Tryd.prog 25 #[Value.int .i64 a1_e] w2 fun e1 w3 =>
    ∃ b1 : Bool, e1 = .returned (Value.bool b1) ∧
    (br (!b1)
     (stC ad2 (Value.bool false) w3 fun w4 =>
      stC (ad2.add 1) ((⟨none, 0, 0⟩ : Slc).v) w4 fun w5 =>
      stC (ad2.add 2) (Value.int .i64 0) w5 fun w6 =>
      ldB ad2 w6 fun b2 =>
      ldS (ad2.add 1) w6 fun s1 =>
      ldI .i64 (ad2.add 2) w6 fun x1 =>
      R (.returned (Value.tuple #[Value.agg #[Value.bool b2, s1.v, Value.int .i64 x1], Value.int .i64 1])) w6)
     (ldB ad1 w3 fun b3 =>
      ldS (ad1.add 1) w3 fun s2 =>
      Calls Tryd.prog 28 #[Value.agg #[Value.bool b3, s2.v], Value.int .i64 a1_e] w3 fun e2 w7 =>
      ∃ b4 : Bool, ∃ s3 : Slc, ∃ x2 : Int, ∃ x3 : Int, e2 = .returned (Value.tuple #[Value.agg #[Value.bool b4, s3.v, Value.int .i64 x2], Value.int .i64 x3]) ∧
      (stC ad2 (Value.bool b4) w7 fun w8 =>
       stC (ad2.add 1) s3.v w8 fun w9 =>
       stC (ad2.add 2) (Value.int .i64 x2) w9 fun w10 =>
       ldB ad2 w10 fun b5 =>
       ldS (ad2.add 1) w10 fun s4 =>
       ldI .i64 (ad2.add 2) w10 fun x4 =>
       R (.returned (Value.tuple #[Value.agg #[Value.bool b5, s4.v, Value.int .i64 x4], Value.int .i64 x3])) w10)))) :
    Calls Tryd.prog 21 #[Value.agg #[Value.bool a0_m_0, a0_m_1.v], Value.int .i64 a1_e] w R := by
  refine calls_of_vc (fun _ => none) (by kernel_rfl) Tryd.func21 rfl ?_ ?_
  · refine kcast h ?_; kernel_rfl
  · exact (obl_seq rfl (obl_reg (obl_seq rfl (obl_seq rfl (obl_reg (obl_cond (obl_seq rfl (obl_reg (obl_ret (obl_skip (obl_seq rfl (obl_reg (obl_ret trivial)))))))))))))

set_option maxRecDepth 100000 in
/-- surd/dyadic.within: function 25. -/
theorem dyadic_within_vc (a0_n : Int) (w : World) (R : Ending → World → Prop)
    
    (h : br (decide (a0_n ≥ (-1099511627776)))
    (R (.returned (Value.bool (decide (a0_n ≤ 1099511627776)))) w)
    (R (.returned (Value.bool false)) w)) :
    Calls Tryd.prog 25 #[Value.int .i64 a0_n] w R := by
  refine calls_of_vc (fun _ => none) (by kernel_rfl) Tryd.func25 rfl ?_ ?_
  · refine kcast h ?_; kernel_rfl
  · exact (obl_seq rfl (obl_reg (obl_seq rfl (obl_reg (obl_ret trivial)))))

set_option maxRecDepth 100000 in
/-- surd/whole.Sign: function 57. -/
theorem whole_Sign_vc (a0_a_0 : Bool) (a0_a_1 : Slc) (w : World) (R : Ending → World → Prop)
    
    (h : newC w #[Value.bool a0_a_0, a0_a_1.v] 27 fun ad1 w1 =>
    ldS (ad1.add 1) w1 fun s1 =>
    Calls Tryd.prog 65 #[s1.v] w1 fun e1 w2 =>
    ∃ x1 : Int, e1 = .returned (Value.int .i64 x1) ∧
    (br (x1 == 0)
     (R (.returned (Value.int .i64 0)) w2)
     (ldB ad1 w2 fun b1 =>
      br b1
      (R (.returned (Value.int .i64 (-1))) w2)
      (R (.returned (Value.int .i64 1)) w2)))) :
    Calls Tryd.prog 57 #[Value.agg #[Value.bool a0_a_0, a0_a_1.v]] w R := by
  refine calls_of_vc (fun _ => none) (by kernel_rfl) Tryd.func57 rfl ?_ ?_
  · refine kcast h ?_; kernel_rfl
  · exact (obl_seq rfl (obl_reg (obl_seq rfl (obl_blk rfl (obl_seq rfl (obl_reg (obl_cond (obl_seq rfl (obl_reg (obl_ret (obl_seq rfl (obl_reg (obl_cond (obl_seq rfl (obl_reg (obl_ret (obl_skip (obl_seq rfl (obl_reg (obl_ret trivial))))))))))))))))))))

set_option maxRecDepth 100000 in
/-- (surd/dyadic.part).sign: function 43. -/
theorem dyadic_part_sign_vc (a0_p_0 : Bool) (a0_p_1 : Slc) (w : World) (R : Ending → World → Prop)
    
    (h : newC w #[Value.bool a0_p_0, a0_p_1.v] 61 fun ad1 w1 =>
    ldB ad1 w1 fun b1 =>
    ldS (ad1.add 1) w1 fun s1 =>
    Calls Tryd.prog 57 #[Value.agg #[Value.bool b1, s1.v]] w1 fun e1 w2 =>
    ∃ x1 : Int, e1 = .returned (Value.int .i64 x1) ∧
    (R (.returned (Value.int .i64 x1)) w2)) :
    Calls Tryd.prog 43 #[Value.agg #[Value.bool a0_p_0, a0_p_1.v]] w R := by
  refine calls_of_vc (fun _ => none) (by kernel_rfl) Tryd.func43 rfl ?_ ?_
  · refine kcast h ?_; kernel_rfl
  · exact (obl_seq rfl (obl_reg (obl_seq rfl (obl_reg (obl_ret trivial)))))

set_option maxRecDepth 100000 in
/-- (surd/dyadic.part).length: function 45. -/
theorem dyadic_part_length_vc (a0_p_0 : Bool) (a0_p_1 : Slc) (w : World) (R : Ending → World → Prop)
    
    (h : newC w #[Value.bool a0_p_0, a0_p_1.v] 61 fun ad1 w1 =>
    ldS (ad1.add 1) w1 fun s1 =>
    Calls Tryd.prog 65 #[s1.v] w1 fun e1 w2 =>
    ∃ x1 : Int, e1 = .returned (Value.int .i64 x1) ∧
    (R (.returned (Value.int .i64 x1)) w2)) :
    Calls Tryd.prog 45 #[Value.agg #[Value.bool a0_p_0, a0_p_1.v]] w R := by
  refine calls_of_vc (fun _ => none) (by kernel_rfl) Tryd.func45 rfl ?_ ?_
  · refine kcast h ?_; kernel_rfl
  · exact (obl_seq rfl (obl_reg (obl_seq rfl (obl_reg (obl_ret trivial)))))

def dyadic_left_cut (J0 : Int → Int → Slc → Slc → Int → Int → World → Prop) (m0 : Int → Int → Slc → Slc → Int → Int → World → Nat) : Nat → Option ((Act → World → Prop) × (Act → World → Nat))
  | 0 => some (fun a_ w_ => atSz a_ 65 (atI .i64 a_ 7 fun t7 => atI .u64 a_ 8 fun t8 => atS a_ 9 fun t9 => atS a_ 32 fun t32 => atI .i64 a_ 33 fun t33 => atI .i64 a_ 34 fun t34 => J0 t7 t8 t9 t32 t33 t34 w_), fun a_ w_ => mI a_ 7 fun t7 => mI a_ 8 fun t8 => mS a_ 9 fun t9 => mS a_ 32 fun t32 => mI a_ 33 fun t33 => mI a_ 34 fun t34 => m0 t7 t8 t9 t32 t33 t34 w_)
  | _ => none

set_option maxRecDepth 100000 in
/-- surd/dyadic.left: function 61. -/
theorem dyadic_left_vc (a0 : Slc) (a1 : Int) (w : World) (R : Ending → World → Prop)
    (J0 : Int → Int → Slc → Slc → Int → Int → World → Prop) (m0 : Int → Int → Slc → Slc → Int → Int → World → Nat)
    (h : Calls Tryd.prog 73 #[a0.v, Value.int .i64 a1] w fun e1 w1 =>
    ∃ s1 : Slc, ∃ x1 : Int, e1 = .returned (Value.tuple #[s1.v, Value.int .i64 x1]) ∧
    (br (x1 == 0)
     (R (.returned s1.v) w1)
     (semS Tryd.prog (Instr.makeSlice 25 (Value.int .i64 (IntKind.i64.wrap ((IntKind.i64.wrap ((a0.n : Int) + (IntKind.i64.wrap (Int.tdiv a1 64)))) + 1))) (Value.int .i64 (IntKind.i64.wrap ((IntKind.i64.wrap ((a0.n : Int) + (IntKind.i64.wrap (Int.tdiv a1 64)))) + 1)))) w1 fun s2 w2 =>
      J0 (IntKind.i64.wrap (Int.tdiv a1 64)) (IntKind.u64.wrap (Int.tmod a1 64)) s2 a0 (a0.n : Int) 0 w2)))
    (h0 : ∀ (t7 : Int) (t8 : Int) (t9 : Slc) (t32 : Slc) (t33 : Int) (t34 : Int) (w_ : World), J0 t7 t8 t9 t32 t33 t34 w_ → 
    br (decide (t34 < t33))
    (semA Tryd.prog (Instr.indexAt 25 t32.v (Value.int .i64 t34)) w_ fun ad1 w3 =>
     ldI .u64 ad1 w3 fun x2 =>
     semA Tryd.prog (Instr.indexAt 25 t9.v (Value.int .i64 (IntKind.i64.wrap (t34 + t7)))) w3 fun ad2 w4 =>
     ldI .u64 ad2 w4 fun x3 =>
     semI Tryd.prog .u64 (binOp .shl 57 (Value.int .u64 x2) (Value.int .u64 t8)) w4 fun x4 w5 =>
     semA Tryd.prog (Instr.indexAt 25 t9.v (Value.int .i64 (IntKind.i64.wrap (t34 + t7)))) w5 fun ad3 w6 =>
     stC ad3 (Value.int .u64 (orI .u64 x3 x4)) w6 fun w7 =>
     br (decide (t8 > 0))
     (semI Tryd.prog .u64 (binOp .shr 57 (Value.int .u64 x2) (Value.int .u64 (IntKind.u64.wrap (64 - t8)))) w7 fun x5 w8 =>
      semA Tryd.prog (Instr.indexAt 25 t9.v (Value.int .i64 (IntKind.i64.wrap ((IntKind.i64.wrap (t34 + t7)) + 1)))) w8 fun ad4 w9 =>
      stC ad4 (Value.int .u64 x5) w9 fun w10 =>
      J0 t7 t8 t9 t32 t33 (IntKind.i64.wrap (t34 + 1)) w10 ∧
      m0 t7 t8 t9 t32 t33 (IntKind.i64.wrap (t34 + 1)) w10 < m0 t7 t8 t9 t32 t33 t34 w_)
     (J0 t7 t8 t9 t32 t33 (IntKind.i64.wrap (t34 + 1)) w7 ∧
      m0 t7 t8 t9 t32 t33 (IntKind.i64.wrap (t34 + 1)) w7 < m0 t7 t8 t9 t32 t33 t34 w_))
    (Calls Tryd.prog 58 #[t9.v] w_ fun e2 w11 =>
     ∃ s3 : Slc, e2 = .returned s3.v ∧
     (R (.returned s3.v) w11))) :
    Calls Tryd.prog 61 #[a0.v, Value.int .i64 a1] w R := by
  refine calls_of_vc (dyadic_left_cut J0 m0) (by kernel_rfl) Tryd.func61 rfl ?_ ?_
  · refine kcast h ?_; kernel_rfl
  · exact (obl_seq rfl (obl_reg (obl_seq rfl (obl_reg (obl_seq rfl (obl_seq rfl (obl_reg (obl_cond (obl_seq rfl (obl_reg (obl_ret (obl_skip (obl_seq rfl (obl_reg (obl_seq rfl (obl_reg (obl_seq rfl (obl_seq rfl (obl_reg (obl_loop _ rfl (fun a_ w_ hL_ => (by
    obtain ⟨hz_, hd_, hL_⟩ := atSz_out hL_
    obtain ⟨t7, h7_, hL_⟩ := atI_out hL_
    obtain ⟨t8, h8_, hL_⟩ := atI_out hL_
    obtain ⟨t9, h9_, hL_⟩ := atS_out hL_
    obtain ⟨t32, h32_, hL_⟩ := atS_out hL_
    obtain ⟨t33, h33_, hL_⟩ := atI_out hL_
    obtain ⟨t34, h34_, hL_⟩ := atI_out hL_
    obtain ⟨g0, rfl⟩ : ∃ g, a_ = Fr 65 [(7, Value.int .i64 t7), (8, Value.int .u64 t8), (9, t9.v), (32, t32.v), (33, Value.int .i64 t33), (34, Value.int .i64 t34)] g := ⟨_, fr_of hz_ hd_ [(7, Value.int .i64 t7), (8, Value.int .u64 t8), (9, t9.v), (32, t32.v), (33, Value.int .i64 t33), (34, Value.int .i64 t34)] (sel_cons h7_ (sel_cons h8_ (sel_cons h9_ (sel_cons h32_ (sel_cons h33_ (sel_cons h34_ sel_nil))))))⟩
    clear hz_ hd_ h7_ h8_ h9_ h32_ h33_ h34_
    have hJ0_ := hL_
    refine ⟨(fun _ => none), kcast (h0 t7 t8 t9 t32 t33 t34 w_ hJ0_) ?_, ?_⟩
    · kernel_rfl
    · exact (obl_seq rfl (obl_reg (obl_seq rfl (obl_cond (obl_skip (obl_exit (obl_seq rfl (obl_blk rfl (obl_seq rfl (obl_reg (obl_seq rfl (obl_reg (obl_seq rfl (obl_reg (obl_cond (obl_reg (obl_skip (obl_reg trivial)))))))))))))))))))) (obl_seq rfl (obl_reg (obl_ret trivial)))))))))))))))))))))))

set_option maxRecDepth 100000 in
/-- surd/dyadic.Neg: function 9. -/
theorem dyadic_Neg_vc (a0_a_0 : Bool) (a0_a_1 : Slc) (a0_a_2 : Int) (w : World) (R : Ending → World → Prop)
    
    (h : newC w #[Value.bool a0_a_0, a0_a_1.v, Value.int .i64 a0_a_2] 29 fun ad1 w1 =>
    newC w1 #[Value.bool false, (⟨none, 0, 0⟩ : Slc).v, Value.int .i64 0] 29 fun ad2 w2 =>
    ldB ad1 w2 fun b1 =>
    ldS (ad1.add 1) w2 fun s1 =>
    ldI .i64 (ad1.add 2) w2 fun x1 =>
    Calls Tryd.prog 24 #[Value.agg #[Value.bool b1, s1.v, Value.int .i64 x1]] w2 fun e1 w3 =>
    ∃ b2 : Bool, ∃ s2 : Slc, ∃ x2 : Int, ∃ x3 : Int, e1 = .returned (Value.tuple #[Value.agg #[Value.bool b2, s2.v, Value.int .i64 x2], Value.int .i64 x3]) ∧
    (newC w3 #[Value.bool false, (⟨none, 0, 0⟩ : Slc).v, Value.int .i64 0] 63 fun ad3 w4 =>
     stC ad3 (Value.bool b2) w4 fun w5 =>
     stC (ad3.add 1) s2.v w5 fun w6 =>
     stC (ad3.add 2) (Value.int .i64 x2) w6 fun w7 =>
     br (x3 != 0)
     (stC ad2 (Value.bool false) w7 fun w8 =>
      stC (ad2.add 1) ((⟨none, 0, 0⟩ : Slc).v) w8 fun w9 =>
      stC (ad2.add 2) (Value.int .i64 0) w9 fun w10 =>
      ldB ad2 w10 fun b3 =>
      ldS (ad2.add 1) w10 fun s3 =>
      ldI .i64 (ad2.add 2) w10 fun x4 =>
      R (.returned (Value.tuple #[Value.agg #[Value.bool b3, s3.v, Value.int .i64 x4], Value.int .i64 x3])) w10)
     (ldB ad3 w7 fun b4 =>
      stC ad3 (Value.bool (!b4)) w7 fun w11 =>
      ldB ad3 w11 fun b5 =>
      ldS (ad3.add 1) w11 fun s4 =>
      ldI .i64 (ad3.add 2) w11 fun x5 =>
      Calls Tryd.prog 28 #[Value.agg #[Value.bool b5, s4.v], Value.int .i64 x5] w11 fun e2 w12 =>
      ∃ b6 : Bool, ∃ s5 : Slc, ∃ x6 : Int, ∃ x7 : Int, e2 = .returned (Value.tuple #[Value.agg #[Value.bool b6, s5.v, Value.int .i64 x6], Value.int .i64 x7]) ∧
      (stC ad2 (Value.bool b6) w12 fun w13 =>
       stC (ad2.add 1) s5.v w13 fun w14 =>
       stC (ad2.add 2) (Value.int .i64 x6) w14 fun w15 =>
       ldB ad2 w15 fun b7 =>
       ldS (ad2.add 1) w15 fun s6 =>
       ldI .i64 (ad2.add 2) w15 fun x8 =>
       R (.returned (Value.tuple #[Value.agg #[Value.bool b7, s6.v, Value.int .i64 x8], Value.int .i64 x7])) w15)))) :
    Calls Tryd.prog 9 #[Value.agg #[Value.bool a0_a_0, a0_a_1.v, Value.int .i64 a0_a_2]] w R := by
  refine calls_of_vc (fun _ => none) (by kernel_rfl) Tryd.func9 rfl ?_ ?_
  · refine kcast h ?_; kernel_rfl
  · exact (obl_seq rfl (obl_reg (obl_seq rfl (obl_reg (obl_seq rfl (obl_seq rfl (obl_reg (obl_cond (obl_seq rfl (obl_reg (obl_ret (obl_skip (obl_seq rfl (obl_reg (obl_seq rfl (obl_reg (obl_ret trivial)))))))))))))))))

set_option maxRecDepth 100000 in
/-- surd/dyadic.Round: function 8. -/
theorem dyadic_Round_vc (a0_a_0 : Bool) (a0_a_1 : Slc) (a0_a_2 : Int) (a1_pos : Int) (a2_m : Int) (w : World) (R : Ending → World → Prop)
    
    (h : newC w #[Value.bool a0_a_0, a0_a_1.v, Value.int .i64 a0_a_2] 29 fun ad1 w1 =>
    newC w1 #[Value.bool false, (⟨none, 0, 0⟩ : Slc).v, Value.int .i64 0] 29 fun ad2 w2 =>
    ldB ad1 w2 fun b1 =>
    ldS (ad1.add 1) w2 fun s1 =>
    ldI .i64 (ad1.add 2) w2 fun x1 =>
    Calls Tryd.prog 24 #[Value.agg #[Value.bool b1, s1.v, Value.int .i64 x1]] w2 fun e1 w3 =>
    ∃ b2 : Bool, ∃ s2 : Slc, ∃ x2 : Int, ∃ x3 : Int, e1 = .returned (Value.tuple #[Value.agg #[Value.bool b2, s2.v, Value.int .i64 x2], Value.int .i64 x3]) ∧
    (newC w3 #[Value.bool false, (⟨none, 0, 0⟩ : Slc).v, Value.int .i64 0] 63 fun ad3 w4 =>
     stC ad3 (Value.bool b2) w4 fun w5 =>
     stC (ad3.add 1) s2.v w5 fun w6 =>
     stC (ad3.add 2) (Value.int .i64 x2) w6 fun w7 =>
     br (x3 != 0)
     (stC ad2 (Value.bool false) w7 fun w8 =>
      stC (ad2.add 1) ((⟨none, 0, 0⟩ : Slc).v) w8 fun w9 =>
      stC (ad2.add 2) (Value.int .i64 0) w9 fun w10 =>
      ldB ad2 w10 fun b3 =>
      ldS (ad2.add 1) w10 fun s3 =>
      ldI .i64 (ad2.add 2) w10 fun x4 =>
      R (.returned (Value.tuple #[Value.agg #[Value.bool b3, s3.v, Value.int .i64 x4], Value.int .i64 x3])) w10)
     (Calls Tryd.prog 25 #[Value.int .i64 a1_pos] w7 fun e2 w11 =>
      ∃ b4 : Bool, e2 = .returned (Value.bool b4) ∧
      (br (!b4)
       (stC ad2 (Value.bool false) w11 fun w12 =>
        stC (ad2.add 1) ((⟨none, 0, 0⟩ : Slc).v) w12 fun w13 =>
        stC (ad2.add 2) (Value.int .i64 0) w13 fun w14 =>
        ldB ad2 w14 fun b5 =>
        ldS (ad2.add 1) w14 fun s4 =>
        ldI .i64 (ad2.add 2) w14 fun x5 =>
        R (.returned (Value.tuple #[Value.agg #[Value.bool b5, s4.v, Value.int .i64 x5], Value.int .i64 1])) w14)
       (Calls Tryd.prog 26 #[Value.int .i64 a2_m] w11 fun e3 w15 =>
        ∃ b6 : Bool, e3 = .returned (Value.bool b6) ∧
        (br (!b6)
         (stC ad2 (Value.bool false) w15 fun w16 =>
          stC (ad2.add 1) ((⟨none, 0, 0⟩ : Slc).v) w16 fun w17 =>
          stC (ad2.add 2) (Value.int .i64 0) w17 fun w18 =>
          ldB ad2 w18 fun b7 =>
          ldS (ad2.add 1) w18 fun s5 =>
          ldI .i64 (ad2.add 2) w18 fun x6 =>
          R (.returned (Value.tuple #[Value.agg #[Value.bool b7, s5.v, Value.int .i64 x6], Value.int .i64 81])) w18)
         (ldB ad3 w15 fun b8 =>
          ldS (ad3.add 1) w15 fun s6 =>
          ldI .i64 (ad3.add 2) w15 fun x7 =>
          Calls Tryd.prog 27 #[Value.agg #[Value.bool b8, s6.v, Value.int .i64 x7], Value.int .i64 a1_pos, Value.int .i64 a2_m] w15 fun e4 w19 =>
          ∃ b9 : Bool, ∃ s7 : Slc, ∃ x8 : Int, ∃ x9 : Int, e4 = .returned (Value.tuple #[Value.agg #[Value.bool b9, s7.v, Value.int .i64 x8], Value.int .i64 x9]) ∧
          (stC ad2 (Value.bool b9) w19 fun w20 =>
           stC (ad2.add 1) s7.v w20 fun w21 =>
           stC (ad2.add 2) (Value.int .i64 x8) w21 fun w22 =>
           ldB ad2 w22 fun b10 =>
           ldS (ad2.add 1) w22 fun s8 =>
           ldI .i64 (ad2.add 2) w22 fun x10 =>
           R (.returned (Value.tuple #[Value.agg #[Value.bool b10, s8.v, Value.int .i64 x10], Value.int .i64 x9])) w22)))))))) :
    Calls Tryd.prog 8 #[Value.agg #[Value.bool a0_a_0, a0_a_1.v, Value.int .i64 a0_a_2], Value.int .i64 a1_pos, Value.int .i64 a2_m] w R := by
  refine calls_of_vc (fun _ => none) (by kernel_rfl) Tryd.func8 rfl ?_ ?_
  · refine kcast h ?_; kernel_rfl
  · exact (obl_seq rfl (obl_reg (obl_seq rfl (obl_reg (obl_seq rfl (obl_blk rfl (obl_seq rfl (obl_reg (obl_cond (obl_seq rfl (obl_reg (obl_ret (obl_seq rfl (obl_reg (obl_cond (obl_seq rfl (obl_reg (obl_ret (obl_seq rfl (obl_reg (obl_cond (obl_seq rfl (obl_reg (obl_ret (obl_skip (obl_seq rfl (obl_reg (obl_ret trivial))))))))))))))))))))))))))))

set_option maxRecDepth 100000 in
/-- surd/dyadic.rounded: function 27. -/
theorem dyadic_rounded_vc (a0_x_0 : Bool) (a0_x_1 : Slc) (a0_x_2 : Int) (a1_pos : Int) (a2_m : Int) (w : World) (R : Ending → World → Prop)
    
    (h : newC w #[Value.bool a0_x_0, a0_x_1.v, Value.int .i64 a0_x_2] 63 fun ad1 w1 =>
    newC w1 #[Value.bool false, (⟨none, 0, 0⟩ : Slc).v, Value.int .i64 0] 29 fun ad2 w2 =>
    ldB ad1 w2 fun b1 =>
    ldS (ad1.add 1) w2 fun s1 =>
    Calls Tryd.prog 43 #[Value.agg #[Value.bool b1, s1.v]] w2 fun e1 w3 =>
    ∃ x1 : Int, e1 = .returned (Value.int .i64 x1) ∧
    (br (x1 == 0)
     (ldB ad1 w3 fun b2 =>
      ldS (ad1.add 1) w3 fun s2 =>
      ldI .i64 (ad1.add 2) w3 fun x2 =>
      Calls Tryd.prog 28 #[Value.agg #[Value.bool b2, s2.v], Value.int .i64 x2] w3 fun e2 w4 =>
      ∃ b3 : Bool, ∃ s3 : Slc, ∃ x3 : Int, ∃ x4 : Int, e2 = .returned (Value.tuple #[Value.agg #[Value.bool b3, s3.v, Value.int .i64 x3], Value.int .i64 x4]) ∧
      (stC ad2 (Value.bool b3) w4 fun w5 =>
       stC (ad2.add 1) s3.v w5 fun w6 =>
       stC (ad2.add 2) (Value.int .i64 x3) w6 fun w7 =>
       ldB ad2 w7 fun b4 =>
       ldS (ad2.add 1) w7 fun s4 =>
       ldI .i64 (ad2.add 2) w7 fun x5 =>
       R (.returned (Value.tuple #[Value.agg #[Value.bool b4, s4.v, Value.int .i64 x5], Value.int .i64 x4])) w7))
     (ldI .i64 (ad1.add 2) w3 fun x6 =>
      br (decide (x6 ≥ a1_pos))
      (ldB ad1 w3 fun b5 =>
       ldS (ad1.add 1) w3 fun s5 =>
       ldI .i64 (ad1.add 2) w3 fun x7 =>
       Calls Tryd.prog 28 #[Value.agg #[Value.bool b5, s5.v], Value.int .i64 x7] w3 fun e3 w8 =>
       ∃ b6 : Bool, ∃ s6 : Slc, ∃ x8 : Int, ∃ x9 : Int, e3 = .returned (Value.tuple #[Value.agg #[Value.bool b6, s6.v, Value.int .i64 x8], Value.int .i64 x9]) ∧
       (stC ad2 (Value.bool b6) w8 fun w9 =>
        stC (ad2.add 1) s6.v w9 fun w10 =>
        stC (ad2.add 2) (Value.int .i64 x8) w10 fun w11 =>
        ldB ad2 w11 fun b7 =>
        ldS (ad2.add 1) w11 fun s7 =>
        ldI .i64 (ad2.add 2) w11 fun x10 =>
        R (.returned (Value.tuple #[Value.agg #[Value.bool b7, s7.v, Value.int .i64 x10], Value.int .i64 x9])) w11))
      (ldB ad1 w3 fun b8 =>
       ldS (ad1.add 1) w3 fun s8 =>
       ldI .i64 (ad1.add 2) w3 fun x11 =>
       Calls Tryd.prog 44 #[Value.agg #[Value.bool b8, s8.v, Value.int .i64 x11], Value.int .i64 a1_pos, Value.int .i64 a2_m] w3 fun e4 w12 =>
       ∃ b9 : Bool, ∃ s9 : Slc, e4 = .returned (Value.agg #[Value.bool b9, s9.v]) ∧
       (Calls Tryd.prog 28 #[Value.agg #[Value.bool b9, s9.v], Value.int .i64 a1_pos] w12 fun e5 w13 =>
        ∃ b10 : Bool, ∃ s10 : Slc, ∃ x12 : Int, ∃ x13 : Int, e5 = .returned (Value.tuple #[Value.agg #[Value.bool b10, s10.v, Value.int .i64 x12], Value.int .i64 x13]) ∧
        (stC ad2 (Value.bool b10) w13 fun w14 =>
         stC (ad2.add 1) s10.v w14 fun w15 =>
         stC (ad2.add 2) (Value.int .i64 x12) w15 fun w16 =>
         ldB ad2 w16 fun b11 =>
         ldS (ad2.add 1) w16 fun s11 =>
         ldI .i64 (ad2.add 2) w16 fun x14 =>
         R (.returned (Value.tuple #[Value.agg #[Value.bool b11, s11.v, Value.int .i64 x14], Value.int .i64 x13])) w16)))))) :
    Calls Tryd.prog 27 #[Value.agg #[Value.bool a0_x_0, a0_x_1.v, Value.int .i64 a0_x_2], Value.int .i64 a1_pos, Value.int .i64 a2_m] w R := by
  refine calls_of_vc (fun _ => none) (by kernel_rfl) Tryd.func27 rfl ?_ ?_
  · refine kcast h ?_; kernel_rfl
  · exact (obl_seq rfl (obl_reg (obl_seq rfl (obl_seq rfl (obl_reg (obl_cond (obl_seq rfl (obl_reg (obl_ret (obl_skip (obl_seq rfl (obl_reg (obl_ret trivial)))))))))))))

def dyadic_steps_cut (K3 : Int → Int → Addr → Addr → Bool → World → Prop) (K8 : Int → Addr → Addr → Int → Slc → World → Prop) (K16 : Addr → Addr → Slc → Bool → World → Prop) : Nat → Option ((Act → World → Prop) × (Act → World → Nat))
  | 3000003 => some (fun a_ w_ => atSz a_ 98 (atI .i64 a_ 1 fun t1 => atI .i64 a_ 2 fun t2 => atA a_ 3 fun t3 => atA a_ 6 fun t6 => atB a_ 19 fun t19 => K3 t1 t2 t3 t6 t19 w_), fun _ _ => 0)
  | 3000008 => some (fun a_ w_ => atSz a_ 98 (atI .i64 a_ 2 fun t2 => atA a_ 3 fun t3 => atA a_ 6 fun t6 => atI .i64 a_ 7 fun t7 => atS a_ 8 fun t8 => K8 t2 t3 t6 t7 t8 w_), fun _ _ => 0)
  | 3000016 => some (fun a_ w_ => atSz a_ 98 (atA a_ 3 fun t3 => atA a_ 6 fun t6 => atS a_ 8 fun t8 => atB a_ 9 fun t9 => K16 t3 t6 t8 t9 w_), fun _ _ => 0)
  | _ => none

set_option maxRecDepth 100000 in
/-- surd/dyadic.steps: function 44. -/
theorem dyadic_steps_vc (a0_0 : Bool) (a0_1 : Slc) (a0_2 : Int) (a1 : Int) (a2 : Int) (w : World) (R : Ending → World → Prop)
    (K3 : Int → Int → Addr → Addr → Bool → World → Prop) (K8 : Int → Addr → Addr → Int → Slc → World → Prop) (K16 : Addr → Addr → Slc → Bool → World → Prop)
    (h : newC w #[Value.bool a0_0, a0_1.v, Value.int .i64 a0_2] 63 fun ad1 w1 =>
    newC w1 #[Value.bool false, (⟨none, 0, 0⟩ : Slc).v] 27 fun ad2 w2 =>
    ldB ad1 w2 fun b1 =>
    ldS (ad1.add 1) w2 fun s1 =>
    Calls Tryd.prog 43 #[Value.agg #[Value.bool b1, s1.v]] w2 fun e1 w3 =>
    ∃ x1 : Int, e1 = .returned (Value.int .i64 x1) ∧
    (br (x1 == 0)
     (K3 a1 a2 ad1 ad2 true w3)
     (ldI .i64 (ad1.add 2) w3 fun x8 =>
      K3 a1 a2 ad1 ad2 (decide (x8 ≥ a1)) w3)))
    (h3000003 : ∀ (t1 : Int) (t2 : Int) (t3 : Addr) (t6 : Addr) (t19 : Bool) (w_ : World), K3 t1 t2 t3 t6 t19 w_ → 
    br t19
    (ldB t3 w_.drew fun b2 =>
     ldS (t3.add 1) w_.drew fun s2 =>
     ldI .i64 (t3.add 2) w_.drew fun x2 =>
     Calls Tryd.prog 61 #[s2.v, Value.int .i64 (maxI (IntKind.i64.wrap (x2 - t1)) 0)] w_.drew fun e2 w4 =>
     ∃ s3 : Slc, e2 = .returned s3.v ∧
     (Ahead w_.drew w4 ∧
      (stC t6 (Value.bool b2) w4 fun w5 =>
       stC (t6.add 1) s3.v w5 fun w6 =>
       ldB t6 w6 fun b3 =>
       ldS (t6.add 1) w6 fun s4 =>
       R (.returned (Value.agg #[Value.bool b3, s4.v])) w6)))
    (ldI .i64 (t3.add 2) w_ fun x3 =>
     ldB t3 w_ fun b4 =>
     ldS (t3.add 1) w_ fun s5 =>
     Calls Tryd.prog 45 #[Value.agg #[Value.bool b4, s5.v]] w_ fun e3 w7 =>
     ∃ x4 : Int, e3 = .returned (Value.int .i64 x4) ∧
     (br (decide ((IntKind.i64.wrap (t1 - x3)) < x4))
      (ldS (t3.add 1) w7 fun s6 =>
       Calls Tryd.prog 60 #[s6.v, Value.int .i64 (IntKind.i64.wrap (t1 - x3))] w7 fun e4 w8 =>
       ∃ s7 : Slc, e4 = .returned s7.v ∧
       (K8 t2 t3 t6 (IntKind.i64.wrap (t1 - x3)) s7 w8))
      (K8 t2 t3 t6 (IntKind.i64.wrap (t1 - x3)) (⟨none, 0, 0⟩ : Slc) w7))))
    (h3000008 : ∀ (t2 : Int) (t3 : Addr) (t6 : Addr) (t7 : Int) (t8 : Slc) (w_ : World), K8 t2 t3 t6 t7 t8 w_ → 
    br (t2 == 2)
    (ldS (t3.add 1) w_ fun s8 =>
     Calls Tryd.prog 62 #[s8.v, Value.int .i64 (IntKind.i64.wrap (t7 - 1))] w_ fun e5 w9 =>
     ∃ x5 : Int, e5 = .returned (Value.int .i64 x5) ∧
     (br (x5 == 1)
      (ldS (t3.add 1) w9 fun s9 =>
       Calls Tryd.prog 59 #[s9.v] w9 fun e6 w10 =>
       ∃ x6 : Int, e6 = .returned (Value.int .i64 x6) ∧
       (br (decide (x6 < (IntKind.i64.wrap (t7 - 1))))
        (K16 t3 t6 t8 true w10)
        (Calls Tryd.prog 62 #[t8.v, Value.int .i64 0] w10 fun e9 w17 =>
         ∃ x7 : Int, e9 = .returned (Value.int .i64 x7) ∧
         (br (!(x7 == 1))
          (K16 t3 t6 t8 false w17)
          (K16 t3 t6 t8 true w17)))))
      (K16 t3 t6 t8 false w9)))
    (br (t2 == 0)
     (ldB t3 w_ fun b9 =>
      K16 t3 t6 t8 b9 w_)
     (ldB t3 w_ fun b10 =>
      K16 t3 t6 t8 (!b10) w_)))
    (h3000016 : ∀ (t3 : Addr) (t6 : Addr) (t8 : Slc) (t9 : Bool) (w_ : World), K16 t3 t6 t8 t9 w_ → 
    br t9
    (Calls Tryd.prog 64 #[Value.int .u64 1] w_ fun e7 w11 =>
     ∃ s10 : Slc, e7 = .returned s10.v ∧
     (Calls Tryd.prog 63 #[t8.v, s10.v] w11 fun e8 w12 =>
      ∃ s11 : Slc, e8 = .returned s11.v ∧
      (ldB t3 w12 fun b5 =>
       stC t6 (Value.bool b5) w12 fun w13 =>
       stC (t6.add 1) s11.v w13 fun w14 =>
       ldB t6 w14 fun b6 =>
       ldS (t6.add 1) w14 fun s12 =>
       R (.returned (Value.agg #[Value.bool b6, s12.v])) w14)))
    (ldB t3 w_ fun b7 =>
     stC t6 (Value.bool b7) w_ fun w15 =>
     stC (t6.add 1) t8.v w15 fun w16 =>
     ldB t6 w16 fun b8 =>
     ldS (t6.add 1) w16 fun s13 =>
     R (.returned (Value.agg #[Value.bool b8, s13.v])) w16)) :
    Calls Tryd.prog 44 #[Value.agg #[Value.bool a0_0, a0_1.v, Value.int .i64 a0_2], Value.int .i64 a1, Value.int .i64 a2] w R := by
  refine calls_of_vc (dyadic_steps_cut K3 K8 K16) (by kernel_rfl) Tryd.func44 rfl ?_ ?_
  · refine kcast h ?_; kernel_rfl
  · exact (obl_seq rfl (obl_reg (obl_seq rfl (obl_join _ rfl (obl_reg (obl_seq rfl (obl_reg (obl_seq rfl (obl_reg (obl_join _ rfl (obl_seq rfl (obl_reg (obl_cond (obl_reg (obl_skip trivial))))) (fun a_ w_ hL_ => (by
    obtain ⟨hz_, hd_, hL_⟩ := atSz_out hL_
    obtain ⟨t2, h2_, hL_⟩ := atI_out hL_
    obtain ⟨t3, h3_, hL_⟩ := atA_out hL_
    obtain ⟨t6, h6_, hL_⟩ := atA_out hL_
    obtain ⟨t7, h7_, hL_⟩ := atI_out hL_
    obtain ⟨t8, h8_, hL_⟩ := atS_out hL_
    obtain ⟨g3000008, rfl⟩ : ∃ g, a_ = Fr 98 [(2, Value.int .i64 t2), (3, Value.pointer (some t3)), (6, Value.pointer (some t6)), (7, Value.int .i64 t7), (8, t8.v)] g := ⟨_, fr_of hz_ hd_ [(2, Value.int .i64 t2), (3, Value.pointer (some t3)), (6, Value.pointer (some t6)), (7, Value.int .i64 t7), (8, t8.v)] (sel_cons h2_ (sel_cons h3_ (sel_cons h6_ (sel_cons h7_ (sel_cons h8_ sel_nil)))))⟩
    clear hz_ hd_ h2_ h3_ h6_ h7_ h8_
    have hJ3000008_ := hL_
    refine ⟨(dyadic_steps_cut K3 K8 K16), kcast (h3000008 t2 t3 t6 t7 t8 w_ hJ3000008_) ?_, ?_⟩
    · kernel_rfl
    · exact (obl_seq rfl (obl_reg (obl_join _ rfl (obl_seq rfl (obl_reg (obl_blk rfl (obl_seq rfl (obl_reg (obl_cond (obl_seq rfl (obl_seq rfl (obl_reg (obl_cond (obl_exit (obl_skip (obl_reg (obl_seq rfl (obl_reg (obl_cond (obl_reg (obl_reg trivial)))))))))))))))))) (fun a_ w_ hL_ => (by
      obtain ⟨hz_, hd_, hL_⟩ := atSz_out hL_
      obtain ⟨t3, h3_, hL_⟩ := atA_out hL_
      obtain ⟨t6, h6_, hL_⟩ := atA_out hL_
      obtain ⟨t8, h8_, hL_⟩ := atS_out hL_
      obtain ⟨t9, h9_, hL_⟩ := atB_out hL_
      obtain ⟨g3000016, rfl⟩ : ∃ g, a_ = Fr 98 [(3, Value.pointer (some t3)), (6, Value.pointer (some t6)), (8, t8.v), (9, Value.bool t9)] g := ⟨_, fr_of hz_ hd_ [(3, Value.pointer (some t3)), (6, Value.pointer (some t6)), (8, t8.v), (9, Value.bool t9)] (sel_cons h3_ (sel_cons h6_ (sel_cons h8_ (sel_cons h9_ sel_nil))))⟩
      clear hz_ hd_ h3_ h6_ h8_ h9_
      have hJ3000016_ := hL_
      refine ⟨(dyadic_steps_cut K3 K8 K16), kcast (h3000016 t3 t6 t8 t9 w_ hJ3000016_) ?_, ?_⟩
      · kernel_rfl
      · exact (obl_seq rfl (obl_seq rfl (obl_reg (obl_cond (obl_reg (obl_skip (obl_seq rfl (obl_reg (obl_ret trivial)))))))))))))))))))))) (fun a_ w_ hL_ => (by
    obtain ⟨hz_, hd_, hL_⟩ := atSz_out hL_
    obtain ⟨t1, h1_, hL_⟩ := atI_out hL_
    obtain ⟨t2, h2_, hL_⟩ := atI_out hL_
    obtain ⟨t3, h3_, hL_⟩ := atA_out hL_
    obtain ⟨t6, h6_, hL_⟩ := atA_out hL_
    obtain ⟨t19, h19_, hL_⟩ := atB_out hL_
    obtain ⟨g3000003, rfl⟩ : ∃ g, a_ = Fr 98 [(1, Value.int .i64 t1), (2, Value.int .i64 t2), (3, Value.pointer (some t3)), (6, Value.pointer (some t6)), (19, Value.bool t19)] g := ⟨_, fr_of hz_ hd_ [(1, Value.int .i64 t1), (2, Value.int .i64 t2), (3, Value.pointer (some t3)), (6, Value.pointer (some t6)), (19, Value.bool t19)] (sel_cons h1_ (sel_cons h2_ (sel_cons h3_ (sel_cons h6_ (sel_cons h19_ sel_nil)))))⟩
    clear hz_ hd_ h1_ h2_ h3_ h6_ h19_
    have hJ3000003_ := hL_
    refine ⟨(dyadic_steps_cut K3 K8 K16), kcast (h3000003 t1 t2 t3 t6 t19 w_ hJ3000003_) ?_, ?_⟩
    · kernel_rfl
    · exact (obl_cond (obl_seq rfl (obl_held (by kernel_rfl) (by kernel_rfl) (by kernel_rfl) (obl_ret (obl_skip trivial)))))))))))

set_option maxRecDepth 100000 in
/-- surd/dyadic.direction: function 26. -/
theorem dyadic_direction_vc (a0_m : Int) (w : World) (R : Ending → World → Prop)
    
    (h : br (a0_m == 0)
    (R (.returned (Value.bool true)) w)
    (br (a0_m == 1)
     (R (.returned (Value.bool true)) w)
     (R (.returned (Value.bool (a0_m == 2))) w))) :
    Calls Tryd.prog 26 #[Value.int .i64 a0_m] w R := by
  refine calls_of_vc (fun _ => none) (by kernel_rfl) Tryd.func26 rfl ?_ ?_
  · refine kcast h ?_; kernel_rfl
  · exact (obl_seq rfl (obl_reg (obl_seq rfl (obl_reg (obl_ret trivial)))))

def dyadic_plus_cut (J0 : Slc → Slc → Slc → Int → Int → Int → World → Prop) (m0 : Slc → Slc → Slc → Int → Int → Int → World → Nat) : Nat → Option ((Act → World → Prop) × (Act → World → Nat))
  | 0 => some (fun a_ w_ => atSz a_ 51 (atS a_ 0 fun t0_a => atS a_ 1 fun t1_b => atS a_ 5 fun t5_out => atI .u64 a_ 6 fun t6_carry => atI .i64 a_ 20 fun t20 => atI .i64 a_ 21 fun t21 => J0 t0_a t1_b t5_out t6_carry t20 t21 w_), fun a_ w_ => mS a_ 0 fun t0_a => mS a_ 1 fun t1_b => mS a_ 5 fun t5_out => mI a_ 6 fun t6_carry => mI a_ 20 fun t20 => mI a_ 21 fun t21 => m0 t0_a t1_b t5_out t6_carry t20 t21 w_)
  | _ => none

set_option maxRecDepth 100000 in
/-- surd/dyadic.plus: function 63. -/
theorem dyadic_plus_vc (a0_a : Slc) (a1_b : Slc) (w : World) (R : Ending → World → Prop)
    (J0 : Slc → Slc → Slc → Int → Int → Int → World → Prop) (m0 : Slc → Slc → Slc → Int → Int → Int → World → Nat)
    (h : semS Tryd.prog (Instr.makeSlice 25 (Value.int .i64 (IntKind.i64.wrap ((maxI (a0_a.n : Int) (a1_b.n : Int)) + 1))) (Value.int .i64 (IntKind.i64.wrap ((maxI (a0_a.n : Int) (a1_b.n : Int)) + 1)))) w fun s1 w1 =>
    J0 a0_a a1_b s1 0 (s1.n : Int) 0 w1)
    (h0 : ∀ (t0_a : Slc) (t1_b : Slc) (t5_out : Slc) (t6_carry : Int) (t20 : Int) (t21 : Int) (w_ : World), J0 t0_a t1_b t5_out t6_carry t20 t21 w_ → 
    br (decide (t21 < t20))
    (Calls Tryd.prog 74 #[t0_a.v, Value.int .i64 t21] w_ fun e1 w2 =>
     ∃ x1 : Int, e1 = .returned (Value.int .u64 x1) ∧
     (Calls Tryd.prog 74 #[t1_b.v, Value.int .i64 t21] w2 fun e2 w3 =>
      ∃ x2 : Int, e2 = .returned (Value.int .u64 x2) ∧
      (br (decide ((IntKind.u64.wrap (x1 + x2)) < x1))
       (semA Tryd.prog (Instr.indexAt 25 t5_out.v (Value.int .i64 t21)) w3 fun ad1 w4 =>
        stC ad1 (Value.int .u64 (IntKind.u64.wrap ((IntKind.u64.wrap (x1 + x2)) + t6_carry))) w4 fun w5 =>
        J0 t0_a t1_b t5_out 1 t20 (IntKind.i64.wrap (t21 + 1)) w5 ∧
        m0 t0_a t1_b t5_out 1 t20 (IntKind.i64.wrap (t21 + 1)) w5 < m0 t0_a t1_b t5_out t6_carry t20 t21 w_)
       (br (decide ((IntKind.u64.wrap ((IntKind.u64.wrap (x1 + x2)) + t6_carry)) < (IntKind.u64.wrap (x1 + x2))))
        (semA Tryd.prog (Instr.indexAt 25 t5_out.v (Value.int .i64 t21)) w3 fun ad2 w6 =>
         stC ad2 (Value.int .u64 (IntKind.u64.wrap ((IntKind.u64.wrap (x1 + x2)) + t6_carry))) w6 fun w7 =>
         J0 t0_a t1_b t5_out 1 t20 (IntKind.i64.wrap (t21 + 1)) w7 ∧
         m0 t0_a t1_b t5_out 1 t20 (IntKind.i64.wrap (t21 + 1)) w7 < m0 t0_a t1_b t5_out t6_carry t20 t21 w_)
        (semA Tryd.prog (Instr.indexAt 25 t5_out.v (Value.int .i64 t21)) w3 fun ad3 w8 =>
         stC ad3 (Value.int .u64 (IntKind.u64.wrap ((IntKind.u64.wrap (x1 + x2)) + t6_carry))) w8 fun w9 =>
         J0 t0_a t1_b t5_out 0 t20 (IntKind.i64.wrap (t21 + 1)) w9 ∧
         m0 t0_a t1_b t5_out 0 t20 (IntKind.i64.wrap (t21 + 1)) w9 < m0 t0_a t1_b t5_out t6_carry t20 t21 w_)))))
    (Calls Tryd.prog 58 #[t5_out.v] w_ fun e3 w10 =>
     ∃ s2 : Slc, e3 = .returned s2.v ∧
     (R (.returned s2.v) w10))) :
    Calls Tryd.prog 63 #[a0_a.v, a1_b.v] w R := by
  refine calls_of_vc (dyadic_plus_cut J0 m0) (by kernel_rfl) Tryd.func63 rfl ?_ ?_
  · refine kcast h ?_; kernel_rfl
  · exact (obl_seq rfl (obl_reg (obl_seq rfl (obl_reg (obl_seq rfl (obl_reg (obl_seq rfl (obl_seq rfl (obl_reg (obl_loop _ rfl (fun a_ w_ hL_ => (by
    obtain ⟨hz_, hd_, hL_⟩ := atSz_out hL_
    obtain ⟨t0_a, h0_, hL_⟩ := atS_out hL_
    obtain ⟨t1_b, h1_, hL_⟩ := atS_out hL_
    obtain ⟨t5_out, h5_, hL_⟩ := atS_out hL_
    obtain ⟨t6_carry, h6_, hL_⟩ := atI_out hL_
    obtain ⟨t20, h20_, hL_⟩ := atI_out hL_
    obtain ⟨t21, h21_, hL_⟩ := atI_out hL_
    obtain ⟨g0, rfl⟩ : ∃ g, a_ = Fr 51 [(0, t0_a.v), (1, t1_b.v), (5, t5_out.v), (6, Value.int .u64 t6_carry), (20, Value.int .i64 t20), (21, Value.int .i64 t21)] g := ⟨_, fr_of hz_ hd_ [(0, t0_a.v), (1, t1_b.v), (5, t5_out.v), (6, Value.int .u64 t6_carry), (20, Value.int .i64 t20), (21, Value.int .i64 t21)] (sel_cons h0_ (sel_cons h1_ (sel_cons h5_ (sel_cons h6_ (sel_cons h20_ (sel_cons h21_ sel_nil))))))⟩
    clear hz_ hd_ h0_ h1_ h5_ h6_ h20_ h21_
    have hJ0_ := hL_
    refine ⟨(fun _ => none), kcast (h0 t0_a t1_b t5_out t6_carry t20 t21 w_ hJ0_) ?_, ?_⟩
    · kernel_rfl
    · exact (obl_seq rfl (obl_reg (obl_seq rfl (obl_cond (obl_skip (obl_exit (obl_seq rfl (obl_blk rfl (obl_seq rfl (obl_reg (obl_seq rfl (obl_reg (obl_seq rfl (obl_reg (obl_seq rfl (obl_reg (obl_seq rfl (obl_reg (obl_seq rfl (obl_seq rfl (obl_reg (obl_cond (obl_reg (obl_skip (obl_reg (obl_reg trivial)))))))))))))))))))))))))))) (obl_seq rfl (obl_reg (obl_ret trivial)))))))))))))

set_option maxRecDepth 100000 in
/-- surd/dyadic.limb: function 74. -/
theorem dyadic_limb_vc (a0_a : Slc) (a1_i : Int) (w : World) (R : Ending → World → Prop)
    
    (h : br (decide (a1_i < (a0_a.n : Int)))
    (semA Tryd.prog (Instr.indexAt 25 a0_a.v (Value.int .i64 a1_i)) w fun ad1 w1 =>
     ldI .u64 ad1 w1 fun x1 =>
     R (.returned (Value.int .u64 x1)) w1)
    (R (.returned (Value.int .u64 0)) w)) :
    Calls Tryd.prog 74 #[a0_a.v, Value.int .i64 a1_i] w R := by
  refine calls_of_vc (fun _ => none) (by kernel_rfl) Tryd.func74 rfl ?_ ?_
  · refine kcast h ?_; kernel_rfl
  · exact (obl_seq rfl (obl_reg (obl_seq rfl (obl_seq rfl (obl_reg (obl_cond (obl_seq rfl (obl_reg (obl_ret (obl_skip (obl_seq rfl (obl_reg (obl_ret trivial)))))))))))))

end Go.Proofs.YtlkjgafnjmfgiaaDoor
namespace Go.Proofs.YtlkjgafnjmfgiaaDoor
open Go Go.RowKit Eng Sp Dg
set_option linter.unusedVariables false
set_option linter.unusedSimpArgs false
set_option maxRecDepth 100000
namespace Dg
/-- How often 2 divides x; 0 for x = 0. -/
def tz (x : Nat) : Nat := if x = 0 then 0 else Lib.ctzFrom (bl x) x
theorem tz_spec {x : Nat} (h : x ≠ 0) : ∃ m, x = 2 ^ tz x * (2 * m + 1) := by
  obtain ⟨m, hm, _⟩ := Lib.ctzFrom_spec (bl x) x (by omega) (lt_bl x)
  exact ⟨m, by rw [tz, if_neg h]; exact hm⟩
theorem pow_odd_inj : ∀ {a b m n : Nat}, 2 ^ a * (2 * m + 1) = 2 ^ b * (2 * n + 1) → a = b
  | 0, 0, _, _, _ => rfl
  | 0, b + 1, m, n, h => by rw [Nat.pow_succ] at h; simp at h; have : 2 ^ b * 2 * (2 * n + 1) = 2 * (2 ^ b * (2 * n + 1)) := by ac_rfl
                            omega
  | a + 1, 0, m, n, h => by rw [Nat.pow_succ] at h; simp at h; have : 2 ^ a * 2 * (2 * m + 1) = 2 * (2 ^ a * (2 * m + 1)) := by ac_rfl
                            omega
  | a + 1, b + 1, m, n, h => by
    rw [Nat.pow_succ, Nat.pow_succ] at h
    have h1 : 2 ^ a * 2 * (2 * m + 1) = 2 * (2 ^ a * (2 * m + 1)) := by ac_rfl
    have h2 : 2 ^ b * 2 * (2 * n + 1) = 2 * (2 ^ b * (2 * n + 1)) := by ac_rfl
    have := pow_odd_inj (a := a) (b := b) (m := m) (n := n) (by omega)
    omega
theorem tz_eq {x k m : Nat} (h : x = 2 ^ k * (2 * m + 1)) : tz x = k := by
  have hx : x ≠ 0 := by
    have : 0 < 2 ^ k := Nat.pow_pos (by omega)
    rw [h]; exact Nat.mul_ne_zero (by omega) (by omega)
  obtain ⟨n, hn⟩ := tz_spec hx
  exact pow_odd_inj (hn.symm.trans h)
theorem tz_zero : tz 0 = 0 := if_pos rfl
theorem tz_lt {x : Nat} (h : x ≠ 0) : tz x < bl x := by
  rw [tz, if_neg h]
  exact (Lib.ctzFrom_spec (bl x) x (by omega) (lt_bl x)).choose_spec.2
theorem tz_le (x : Nat) : tz x ≤ bl x := by
  by_cases h : x = 0
  · rw [h, tz_zero]; omega
  · exact Nat.le_of_lt (tz_lt h)
/-- The odd part. -/
def od (x : Nat) : Nat := x / 2 ^ tz x
theorem od_mul (x : Nat) : 2 ^ tz x * od x = x := by
  by_cases h : x = 0
  · subst h; simp [od]
  · obtain ⟨m, hm⟩ := tz_spec h
    exact Nat.mul_div_cancel' ⟨_, hm⟩
theorem od_odd {x : Nat} (h : x ≠ 0) : od x % 2 = 1 := by
  obtain ⟨m, hm⟩ := tz_spec h
  have : od x = 2 * m + 1 := by
    have h1 := od_mul x
    have hp : 0 < 2 ^ tz x := Nat.pow_pos (by omega)
    exact Nat.eq_of_mul_eq_mul_left hp (h1.trans hm)
  omega
theorem od_zero : od 0 = 0 := by simp [od]
theorem od_ne {x : Nat} (h : x ≠ 0) : od x ≠ 0 := fun e => by have := od_odd h; omega
theorem od_zero_iff {x : Nat} : od x = 0 ↔ x = 0 := ⟨fun h => by rcases Nat.eq_zero_or_pos x with h1 | h1; exact h1; exact absurd h (od_ne (by omega)), fun h => by rw [h, od_zero]⟩
theorem od_le (x : Nat) : od x ≤ x := Nat.div_le_self _ _
theorem tz_odd {x : Nat} (h : x % 2 = 1) : tz x = 0 := tz_eq (k := 0) (m := x / 2) (by simp; omega)
theorem od_of_odd {x : Nat} (h : x % 2 = 1) : od x = x := by rw [od, tz_odd h]; simp
theorem od_od (x : Nat) : od (od x) = od x := by
  by_cases h : x = 0
  · rw [h, od_zero, od_zero]
  · exact od_of_odd (od_odd h)
theorem tz_shl {x k : Nat} (h : x ≠ 0) : tz (x * 2 ^ k) = tz x + k := by
  obtain ⟨m, hm⟩ := tz_spec h
  refine tz_eq (m := m) ?_
  rw [Nat.pow_add]
  calc x * 2 ^ k = (2 ^ tz x * (2 * m + 1)) * 2 ^ k := by rw [← hm]
    _ = 2 ^ tz x * 2 ^ k * (2 * m + 1) := by ac_rfl
theorem od_shl {x k : Nat} : od (x * 2 ^ k) = od x := by
  by_cases h : x = 0
  · subst h; simp
  · rw [od, tz_shl h, Nat.pow_add, Nat.mul_comm (2 ^ tz x), ← Nat.div_div_eq_div_mul, Nat.mul_div_cancel _ (Nat.pow_pos (by omega))]; rfl
theorem ctz64 {x : Nat} (h0 : x ≠ 0) (h : x < 2 ^ 64) : Lib.ctz 64 x = tz x ∧ tz x < 64 := by
  obtain ⟨m, hm, hk⟩ := Lib.ctzFrom_spec 64 x (by omega) h
  have e : Lib.ctz 64 x = Lib.ctzFrom 64 x := by simp [Lib.ctz, h0]
  have e2 := tz_eq hm
  rw [e, e2]
  exact ⟨rfl, hk⟩
theorem tz_append {l : List Nat} {j : Nat} (h0 : l.take j = List.replicate j 0) (hj : j < l.length) (ol : ok B64 l) (hx : l.getD j 0 ≠ 0) : tz (val B64 l) = 64 * j + tz (l.getD j 0) ∧ val B64 l ≠ 0 := by
  have h64 : B64 = 2 ^ 64 := rfl
  have hlt := ok_getD ol (by rw [B64v]; omega) j
  rw [h64] at hlt
  obtain ⟨_, h1⟩ := ctz64 hx hlt
  obtain ⟨m, hm⟩ := tz_spec hx
  have hv := val_split3 (B := B64) l j hj
  rw [h0, val_replicate, Nat.zero_add] at hv
  have e : val B64 l = 2 ^ (64 * j + tz (l.getD j 0)) * (2 * (m + 2 ^ (63 - tz (l.getD j 0)) * val B64 (l.drop (j + 1))) + 1) := by
    rw [hv, b64_pow, Nat.pow_add, Nat.mul_assoc]
    congr 1
    generalize val B64 (l.drop (j + 1)) = r
    have h2 : B64 = 2 ^ tz (l.getD j 0) * (2 * 2 ^ (63 - tz (l.getD j 0))) := by
      rw [h64, ← Nat.pow_succ', ← Nat.pow_add]; congr 1; omega
    generalize tz (l.getD j 0) = t at *
    rw [h2, Nat.mul_assoc]
    conv => lhs; lhs; rw [hm]
    rw [← Nat.mul_add]
    congr 1
    rw [Nat.mul_add, Nat.mul_assoc]
    omega
  refine ⟨tz_eq e, ?_⟩
  rw [e]
  exact Nat.mul_ne_zero (Nat.ne_of_gt (Nat.pow_pos (by omega))) (by omega)
end Dg
namespace Dy
open _root_.Go.Proofs.YtlkjgafnjmfgiaaDoor.Nat (ldN OwnNil andI_nat)

/-- The library's table stands as its initialiser lays it. -/
def Tab (w : World) : Prop := ∀ j, j < 64 → w.cell? ⟨0, j, none⟩ = some (.int .u8 ((Lib.deBruijn64tab.getD j 0 : Nat) : Int))
theorem Tab.ahead {w w' : World} (h : Tab w) (ha : Ahead w w') : Tab w' := fun j hj => ha.cell (h j hj)

theorem TrailingZeros64_spec {w : World} {x : Nat} (hT : Tab w) (h0 : x ≠ 0) (h : x < B64) :
    Calls pr bits_TrailingZeros64_id #[.int .u64 (x : Int)] w fun e w' => w' = w ∧ e = .returned (.int .i64 (tz x)) := by
  refine Calls.mono (tz64_laid x h w fun _ j hj => hT j (by simpa [Lib.deBruijn64tab] using hj)) ?_
  rintro e w' ⟨rfl, rfl⟩
  rw [(ctz64 h0 h).1]
  exact ⟨rfl, rfl⟩

theorem ne_of_bne {x : Nat} (h : ((x : Int) != 0) = true) : x ≠ 0 := by simpa using h
theorem eq_of_bne {x : Nat} (h : ((x : Int) != 0) = false) : x = 0 := by simpa using h

theorem Tail_spec {w : World} {s : Slc} {l : List Nat} (hT : Tab w) (h : Rd .u64 w s (nn l)) (hl : l.length ≤ 2 ^ 46) (ol : ok B64 l) :
    Calls pr nat_Tail_id #[s.v] w fun e w' => w' = w ∧ e = .returned (.int .i64 (tz (val B64 l))) := by
  have hn : s.n = l.length := by rw [h.n, nn_length]
  refine nat_Tail_vc s w _ (fun t n i w' => t = s ∧ n = (l.length : Int) ∧ w' = w ∧ ∃ j : Nat, i = (j : Int) ∧ j ≤ l.length ∧ l.take j = List.replicate j 0) (fun _ n i _ => (n - i).toNat)
    ⟨rfl, by rw [hn], rfl, 0, rfl, Nat.zero_le _, by simp⟩ ?_
  rintro t n i w1 ⟨rfl, rfl, rfl, j, rfl, hj, hz⟩
  refine br_intro (fun hlt => ?_) (fun hge => ?_)
  · have hj' : j < l.length := by simp at hlt; omega
    refine ldN h (by omega) (by omega) ?_
    rw [Int.toNat_natCast]
    have e8 : IntKind.i64.wrap ((j : Int) + 1) = ((j + 1 : Nat) : Int) := by rw [wrap_i64 (by omega) (by omega)]; omega
    refine br_intro (fun hx => ?_) (fun hx => ?_)
    · have hx0 : l.getD j 0 ≠ 0 := ne_of_bne hx
      have hlt := ok_getD ol (by rw [B64v]; omega) j
      obtain ⟨h1, _⟩ := tz_append hz hj' ol hx0
      obtain ⟨_, h2⟩ := ctz64 hx0 hlt
      refine Calls.mono (TrailingZeros64_spec hT hx0 hlt) ?_
      rintro e w2 ⟨rfl, rfl⟩
      refine ⟨_, rfl, rfl, ?_⟩
      rw [h1, wrap_i64 (x := 64 * (j : Int)) (by omega) (by omega), wrap_i64 (by omega) (by omega)]
      congr 2
    · have hx0 : l.getD j 0 = 0 := eq_of_bne hx
      refine ⟨⟨rfl, rfl, rfl, j + 1, e8, hj', ?_⟩, by rw [e8]; omega⟩
      rw [List.take_succ_eq_append_getElem hj', hz, List.replicate_succ']
      congr 2
      rw [← getD_lt l 0 hj', hx0]
  · have hj' : j = l.length := by simp at hge; omega
    subst hj'
    rw [List.take_length] at hz
    refine ⟨rfl, ?_⟩
    rw [hz, val_replicate, tz_zero]; rfl

end Dy
end Go.Proofs.YtlkjgafnjmfgiaaDoor
namespace Go.Proofs.YtlkjgafnjmfgiaaDoor
open Go Go.RowKit Eng
set_option linter.unusedVariables false

def surdref01_norm_cut (J0 : Slc → Int → World → Prop) (m0 : Slc → Int → World → Nat) : Nat → Option ((Act → World → Prop) × (Act → World → Nat))
  | 0 => some (fun a_ w_ => atSz a_ 22 (atS a_ 0 fun t0_a => atI .i64 a_ 3 fun t3_n => J0 t0_a t3_n w_), fun a_ w_ => mS a_ 0 fun t0_a => mI a_ 3 fun t3_n => m0 t0_a t3_n w_)
  | _ => none

set_option maxRecDepth 100000 in
/-- surd/surdref01.norm: function 56. -/
theorem surdref01_norm_vc (a0_a : Slc) (w : World) (R : Ending → World → Prop)
    (J0 : Slc → Int → World → Prop) (m0 : Slc → Int → World → Nat)
    (h : J0 a0_a (a0_a.n : Int) w)
    (h0 : ∀ (t0_a : Slc) (t3_n : Int) (w_ : World), J0 t0_a t3_n w_ → 
    br (decide (t3_n > 0))
    (semA Tryd.prog (Instr.indexAt 31 t0_a.v (Value.int .i64 (IntKind.i64.wrap (t3_n - 1)))) w_ fun ad1 w1 =>
     ldI .u64 ad1 w1 fun x1 =>
     br (x1 == 0)
     (J0 t0_a (IntKind.i64.wrap (t3_n - 1)) w1 ∧
      m0 t0_a (IntKind.i64.wrap (t3_n - 1)) w1 < m0 t0_a t3_n w_)
     (semS Tryd.prog (Instr.sliceAt 31 t0_a.v none (some (Value.int .i64 t3_n)) (some (Value.int .i64 t3_n))) w1 fun s1 w2 =>
      R (.returned s1.v) w2))
    (semS Tryd.prog (Instr.sliceAt 31 t0_a.v none (some (Value.int .i64 t3_n)) (some (Value.int .i64 t3_n))) w_ fun s2 w3 =>
     R (.returned s2.v) w3)) :
    Calls Tryd.prog 56 #[a0_a.v] w R := by
  refine calls_of_vc (surdref01_norm_cut J0 m0) (by kernel_rfl) Tryd.func56 rfl ?_ ?_
  · refine kcast h ?_; kernel_rfl
  · exact (obl_seq rfl (obl_reg (obl_seq rfl (obl_reg (obl_seq rfl (obl_loop _ rfl (fun a_ w_ hL_ => (by
    obtain ⟨hz_, hd_, hL_⟩ := atSz_out hL_
    obtain ⟨t0_a, h0_, hL_⟩ := atS_out hL_
    obtain ⟨t3_n, h3_, hL_⟩ := atI_out hL_
    obtain ⟨g0, rfl⟩ : ∃ g, a_ = Fr 22 [(0, t0_a.v), (3, Value.int .i64 t3_n)] g := ⟨_, fr_of hz_ hd_ [(0, t0_a.v), (3, Value.int .i64 t3_n)] (sel_cons h0_ (sel_cons h3_ sel_nil))⟩
    clear hz_ hd_ h0_ h3_
    have hJ0_ := hL_
    refine ⟨(fun _ => none), kcast (h0 t0_a t3_n w_ hJ0_) ?_, ?_⟩
    · kernel_rfl
    · exact (obl_seq rfl (obl_seq rfl (obl_reg (obl_cond (obl_skip (obl_exit (obl_blk rfl (obl_reg trivial)))))))))) (obl_seq rfl (obl_reg (obl_ret trivial)))))))))

def surdref01_Of_cut (J0 : Slc → Slc → Int → Int → World → Prop) (m0 : Slc → Slc → Int → Int → World → Nat) : Nat → Option ((Act → World → Prop) × (Act → World → Nat))
  | 0 => some (fun a_ w_ => atSz a_ 26 (atS a_ 3 fun t3_out => atS a_ 10 fun t10 => atI .i64 a_ 11 fun t11 => atI .i64 a_ 12 fun t12 => J0 t3_out t10 t11 t12 w_), fun a_ w_ => mS a_ 3 fun t3_out => mS a_ 10 fun t10 => mI a_ 11 fun t11 => mI a_ 12 fun t12 => m0 t3_out t10 t11 t12 w_)
  | _ => none

set_option maxRecDepth 100000 in
/-- surd/surdref01.Of: function 41. -/
theorem surdref01_Of_vc (a0_limbs : Slc) (w : World) (R : Ending → World → Prop)
    (J0 : Slc → Slc → Int → Int → World → Prop) (m0 : Slc → Slc → Int → Int → World → Nat)
    (h : semS Tryd.prog (Instr.makeSlice 31 (Value.int .i64 0) (Value.int .i64 (IntKind.i64.wrap (2 * (a0_limbs.n : Int))))) w fun s1 w1 =>
    J0 s1 a0_limbs (a0_limbs.n : Int) 0 w1)
    (h0 : ∀ (t3_out : Slc) (t10 : Slc) (t11 : Int) (t12 : Int) (w_ : World), J0 t3_out t10 t11 t12 w_ → 
    br (decide (t12 < t11))
    (semA Tryd.prog (Instr.indexAt 22 t10.v (Value.int .i64 t12)) w_ fun ad1 w2 =>
     ldI .u64 ad1 w2 fun x1 =>
     newC w2 #[Value.int .u64 (Int.tmod x1 4294967296), Value.int .u64 (IntKind.u64.wrap (Int.tdiv x1 4294967296))] 57 fun ad2 w3 =>
     semS Tryd.prog (Builtin.append_ #[31, 31] 31 #[t3_out.v, (⟨some ad2, 2, 2⟩ : Slc).v]) w3 fun s2 w4 =>
     J0 s2 t10 t11 (IntKind.i64.wrap (t12 + 1)) w4 ∧
     m0 s2 t10 t11 (IntKind.i64.wrap (t12 + 1)) w4 < m0 t3_out t10 t11 t12 w_)
    (Calls Tryd.prog 56 #[t3_out.v] w_ fun e1 w5 =>
     ∃ s3 : Slc, e1 = .returned s3.v ∧
     (R (.returned s3.v) w5))) :
    Calls Tryd.prog 41 #[a0_limbs.v] w R := by
  refine calls_of_vc (surdref01_Of_cut J0 m0) (by kernel_rfl) Tryd.func41 rfl ?_ ?_
  · refine kcast h ?_; kernel_rfl
  · exact (obl_seq rfl (obl_reg (obl_seq rfl (obl_reg (obl_seq rfl (obl_seq rfl (obl_reg (obl_loop _ rfl (fun a_ w_ hL_ => (by
    obtain ⟨hz_, hd_, hL_⟩ := atSz_out hL_
    obtain ⟨t3_out, h3_, hL_⟩ := atS_out hL_
    obtain ⟨t10, h10_, hL_⟩ := atS_out hL_
    obtain ⟨t11, h11_, hL_⟩ := atI_out hL_
    obtain ⟨t12, h12_, hL_⟩ := atI_out hL_
    obtain ⟨g0, rfl⟩ : ∃ g, a_ = Fr 26 [(3, t3_out.v), (10, t10.v), (11, Value.int .i64 t11), (12, Value.int .i64 t12)] g := ⟨_, fr_of hz_ hd_ [(3, t3_out.v), (10, t10.v), (11, Value.int .i64 t11), (12, Value.int .i64 t12)] (sel_cons h3_ (sel_cons h10_ (sel_cons h11_ (sel_cons h12_ sel_nil))))⟩
    clear hz_ hd_ h3_ h10_ h11_ h12_
    have hJ0_ := hL_
    refine ⟨(fun _ => none), kcast (h0 t3_out t10 t11 t12 w_ hJ0_) ?_, ?_⟩
    · kernel_rfl
    · exact (obl_seq rfl (obl_reg (obl_seq rfl (obl_cond (obl_skip (obl_exit (obl_seq rfl (obl_blk rfl (obl_seq rfl (obl_reg (obl_reg (obl_reg trivial)))))))))))))) (obl_seq rfl (obl_reg (obl_ret trivial)))))))))))

set_option maxRecDepth 100000 in
/-- surd/surdref01.Int: function 50. -/
theorem surdref01_Int_vc (a0_v : Int) (w : World) (R : Ending → World → Prop)
    
    (h : newC w #[Value.int .u64 (IntKind.u64.wrap a0_v)] 57 fun ad1 w1 =>
    Calls Tryd.prog 41 #[(⟨some ad1, 1, 1⟩ : Slc).v] w1 fun e1 w2 =>
    ∃ s1 : Slc, e1 = .returned s1.v ∧
    (R (.returned s1.v) w2)) :
    Calls Tryd.prog 50 #[Value.int .i64 a0_v] w R := by
  refine calls_of_vc (fun _ => none) (by kernel_rfl) Tryd.func50 rfl ?_ ?_
  · refine kcast h ?_; kernel_rfl
  · exact (obl_seq rfl (obl_reg (obl_seq rfl (obl_reg (obl_ret trivial)))))

def surdref01_Num_Limbs_cut (J0 : Slc → Slc → Int → World → Prop) (m0 : Slc → Slc → Int → World → Nat) : Nat → Option ((Act → World → Prop) × (Act → World → Nat))
  | 0 => some (fun a_ w_ => atSz a_ 34 (atS a_ 0 fun t0_a => atS a_ 3 fun t3_out => atI .i64 a_ 4 fun t4_i => J0 t0_a t3_out t4_i w_), fun a_ w_ => mS a_ 0 fun t0_a => mS a_ 3 fun t3_out => mI a_ 4 fun t4_i => m0 t0_a t3_out t4_i w_)
  | _ => none

set_option maxRecDepth 100000 in
/-- (surd/surdref01.Num).Limbs: function 69. -/
theorem surdref01_Num_Limbs_vc (a0_a : Slc) (w : World) (R : Ending → World → Prop)
    (J0 : Slc → Slc → Int → World → Prop) (m0 : Slc → Slc → Int → World → Nat)
    (h : J0 a0_a (⟨none, 0, 0⟩ : Slc) 0 w)
    (h0 : ∀ (t0_a : Slc) (t3_out : Slc) (t4_i : Int) (w_ : World), J0 t0_a t3_out t4_i w_ → 
    br (decide (t4_i < (t0_a.n : Int)))
    (semA Tryd.prog (Instr.indexAt 31 t0_a.v (Value.int .i64 t4_i)) w_ fun ad1 w1 =>
     ldI .u64 ad1 w1 fun x1 =>
     br (decide ((IntKind.i64.wrap (t4_i + 1)) < (t0_a.n : Int)))
     (semA Tryd.prog (Instr.indexAt 31 t0_a.v (Value.int .i64 (IntKind.i64.wrap (t4_i + 1)))) w1 fun ad2 w2 =>
      ldI .u64 ad2 w2 fun x2 =>
      newC w2 #[Value.int .u64 (IntKind.u64.wrap (x1 + (IntKind.u64.wrap (x2 * 4294967296))))] 57 fun ad3 w3 =>
      semS Tryd.prog (Builtin.append_ #[22, 22] 22 #[t3_out.v, (⟨some ad3, 1, 1⟩ : Slc).v]) w3 fun s1 w4 =>
      J0 t0_a s1 (IntKind.i64.wrap (t4_i + 2)) w4 ∧
      m0 t0_a s1 (IntKind.i64.wrap (t4_i + 2)) w4 < m0 t0_a t3_out t4_i w_)
     (newC w1 #[Value.int .u64 x1] 57 fun ad4 w5 =>
      semS Tryd.prog (Builtin.append_ #[22, 22] 22 #[t3_out.v, (⟨some ad4, 1, 1⟩ : Slc).v]) w5 fun s2 w6 =>
      J0 t0_a s2 (IntKind.i64.wrap (t4_i + 2)) w6 ∧
      m0 t0_a s2 (IntKind.i64.wrap (t4_i + 2)) w6 < m0 t0_a t3_out t4_i w_))
    (R (.returned t3_out.v) w_)) :
    Calls Tryd.prog 69 #[a0_a.v] w R := by
  refine calls_of_vc (surdref01_Num_Limbs_cut J0 m0) (by kernel_rfl) Tryd.func69 rfl ?_ ?_
  · refine kcast h ?_; kernel_rfl
  · exact (obl_seq rfl (obl_reg (obl_seq rfl (obl_reg (obl_seq rfl (obl_seq rfl (obl_reg (obl_loop _ rfl (fun a_ w_ hL_ => (by
    obtain ⟨hz_, hd_, hL_⟩ := atSz_out hL_
    obtain ⟨t0_a, h0_, hL_⟩ := atS_out hL_
    obtain ⟨t3_out, h3_, hL_⟩ := atS_out hL_
    obtain ⟨t4_i, h4_, hL_⟩ := atI_out hL_
    obtain ⟨g0, rfl⟩ : ∃ g, a_ = Fr 34 [(0, t0_a.v), (3, t3_out.v), (4, Value.int .i64 t4_i)] g := ⟨_, fr_of hz_ hd_ [(0, t0_a.v), (3, t3_out.v), (4, Value.int .i64 t4_i)] (sel_cons h0_ (sel_cons h3_ (sel_cons h4_ sel_nil)))⟩
    clear hz_ hd_ h0_ h3_ h4_
    have hJ0_ := hL_
    refine ⟨(fun _ => none), kcast (h0 t0_a t3_out t4_i w_ hJ0_) ?_, ?_⟩
    · kernel_rfl
    · exact (obl_seq rfl (obl_seq rfl (obl_reg (obl_cond (obl_skip (obl_exit (obl_seq rfl (obl_blk rfl (obl_seq rfl (obl_reg (obl_seq rfl (obl_seq rfl (obl_reg (obl_cond (obl_reg (obl_skip (obl_reg (obl_reg trivial)))))))))))))))))))) (obl_seq rfl (obl_reg (obl_ret trivial)))))))))))

def surdref01_Num_Is_cut (J0 : Slc → Slc → Int → Int → World → Prop) (m0 : Slc → Slc → Int → Int → World → Nat) : Nat → Option ((Act → World → Prop) × (Act → World → Nat))
  | 0 => some (fun a_ w_ => atSz a_ 29 (atS a_ 1 fun t1_limbs => atS a_ 5 fun t5_want => atI .i64 a_ 15 fun t15 => atI .i64 a_ 16 fun t16 => J0 t1_limbs t5_want t15 t16 w_), fun a_ w_ => mS a_ 1 fun t1_limbs => mS a_ 5 fun t5_want => mI a_ 15 fun t15 => mI a_ 16 fun t16 => m0 t1_limbs t5_want t15 t16 w_)
  | _ => none

set_option maxRecDepth 100000 in
/-- (surd/surdref01.Num).Is: function 51. -/
theorem surdref01_Num_Is_vc (a0_a : Slc) (a1_limbs : Slc) (w : World) (R : Ending → World → Prop)
    (J0 : Slc → Slc → Int → Int → World → Prop) (m0 : Slc → Slc → Int → Int → World → Nat)
    (h : Calls Tryd.prog 69 #[a0_a.v] w fun e1 w1 =>
    ∃ s1 : Slc, e1 = .returned s1.v ∧
    (br ((s1.n : Int) != (a1_limbs.n : Int))
     (R (.returned (Value.bool false)) w1)
     (J0 a1_limbs s1 (s1.n : Int) 0 w1)))
    (h0 : ∀ (t1_limbs : Slc) (t5_want : Slc) (t15 : Int) (t16 : Int) (w_ : World), J0 t1_limbs t5_want t15 t16 w_ → 
    br (decide (t16 < t15))
    (fixA Tryd.prog (Instr.indexAt 22 t5_want.v (Value.int .i64 t16)) w_ fun ad1 =>
     ldI .u64 ad1 w_ fun x1 =>
     fixA Tryd.prog (Instr.indexAt 22 t1_limbs.v (Value.int .i64 t16)) w_ fun ad2 =>
     ldI .u64 ad2 w_ fun x2 =>
     ∀ w2, Ahead w_ w2 →
     (br (x1 != x2)
      (R (.returned (Value.bool false)) w2)
      (J0 t1_limbs t5_want t15 (IntKind.i64.wrap (t16 + 1)) w2 ∧
       m0 t1_limbs t5_want t15 (IntKind.i64.wrap (t16 + 1)) w2 < m0 t1_limbs t5_want t15 t16 w_)))
    (R (.returned (Value.bool true)) w_)) :
    Calls Tryd.prog 51 #[a0_a.v, a1_limbs.v] w R := by
  refine calls_of_vc (surdref01_Num_Is_cut J0 m0) (by kernel_rfl) Tryd.func51 rfl ?_ ?_
  · refine kcast h ?_; kernel_rfl
  · exact (obl_seq rfl (obl_reg (obl_seq rfl (obl_reg (obl_seq rfl (obl_seq rfl (obl_reg (obl_cond (obl_seq rfl (obl_reg (obl_ret (obl_skip (obl_seq rfl (obl_seq rfl (obl_reg (obl_loop _ rfl (fun a_ w_ hL_ => (by
    obtain ⟨hz_, hd_, hL_⟩ := atSz_out hL_
    obtain ⟨t1_limbs, h1_, hL_⟩ := atS_out hL_
    obtain ⟨t5_want, h5_, hL_⟩ := atS_out hL_
    obtain ⟨t15, h15_, hL_⟩ := atI_out hL_
    obtain ⟨t16, h16_, hL_⟩ := atI_out hL_
    obtain ⟨g0, rfl⟩ : ∃ g, a_ = Fr 29 [(1, t1_limbs.v), (5, t5_want.v), (15, Value.int .i64 t15), (16, Value.int .i64 t16)] g := ⟨_, fr_of hz_ hd_ [(1, t1_limbs.v), (5, t5_want.v), (15, Value.int .i64 t15), (16, Value.int .i64 t16)] (sel_cons h1_ (sel_cons h5_ (sel_cons h15_ (sel_cons h16_ sel_nil))))⟩
    clear hz_ hd_ h1_ h5_ h15_ h16_
    have hJ0_ := hL_
    refine ⟨(fun _ => none), kcast (h0 t1_limbs t5_want t15 t16 w_ hJ0_) ?_, ?_⟩
    · kernel_rfl
    · exact (obl_seq rfl (obl_reg (obl_seq rfl (obl_cond (obl_skip (obl_exit (obl_seq rfl (obl_blk rfl (obl_seq rfl (obl_reg (obl_seq rfl (obl_quiet (by kernel_rfl) (by kernel_rfl) (by kernel_rfl) (by kernel_rfl) (obl_cond (obl_seq rfl (obl_reg (obl_ret (obl_skip (obl_reg trivial)))))))))))))))))))) (obl_seq rfl (obl_reg (obl_ret trivial)))))))))))))))))))

set_option maxRecDepth 100000 in
/-- (surd/surdref01.Num).Zero: function 46. -/
theorem surdref01_Num_Zero_vc (a0_a : Slc) (w : World) (R : Ending → World → Prop)
    
    (h : R (.returned (Value.bool ((a0_a.n : Int) == 0))) w) :
    Calls Tryd.prog 46 #[a0_a.v] w R := by
  refine calls_of_vc (fun _ => none) (by kernel_rfl) Tryd.func46 rfl ?_ ?_
  · refine kcast h ?_; kernel_rfl
  · exact (obl_seq rfl (obl_reg (obl_seq rfl (obl_reg (obl_ret trivial)))))

def surdref01_Num_Len_cut (J0 : Int → Int → World → Prop) (m0 : Int → Int → World → Nat) : Nat → Option ((Act → World → Prop) × (Act → World → Nat))
  | 0 => some (fun a_ w_ => atSz a_ 25 (atI .i64 a_ 3 fun t3_n => atI .u64 a_ 4 fun t4_v => J0 t3_n t4_v w_), fun a_ w_ => mI a_ 3 fun t3_n => mI a_ 4 fun t4_v => m0 t3_n t4_v w_)
  | _ => none

set_option maxRecDepth 100000 in
/-- (surd/surdref01.Num).Len: function 35. -/
theorem surdref01_Num_Len_vc (a0_a : Slc) (w : World) (R : Ending → World → Prop)
    (J0 : Int → Int → World → Prop) (m0 : Int → Int → World → Nat)
    (h : br ((a0_a.n : Int) == 0)
    (R (.returned (Value.int .i64 0)) w)
    (semA Tryd.prog (Instr.indexAt 31 a0_a.v (Value.int .i64 (IntKind.i64.wrap ((a0_a.n : Int) - 1)))) w fun ad1 w1 =>
     ldI .u64 ad1 w1 fun x1 =>
     J0 (IntKind.i64.wrap (32 * (IntKind.i64.wrap ((a0_a.n : Int) - 1)))) x1 w1))
    (h0 : ∀ (t3_n : Int) (t4_v : Int) (w_ : World), J0 t3_n t4_v w_ → 
    br (decide (t4_v > 0))
    (J0 (IntKind.i64.wrap (t3_n + 1)) (IntKind.u64.wrap (Int.tdiv t4_v 2)) w_ ∧
     m0 (IntKind.i64.wrap (t3_n + 1)) (IntKind.u64.wrap (Int.tdiv t4_v 2)) w_ < m0 t3_n t4_v w_)
    (R (.returned (Value.int .i64 t3_n)) w_)) :
    Calls Tryd.prog 35 #[a0_a.v] w R := by
  refine calls_of_vc (surdref01_Num_Len_cut J0 m0) (by kernel_rfl) Tryd.func35 rfl ?_ ?_
  · refine kcast h ?_; kernel_rfl
  · exact (obl_seq rfl (obl_reg (obl_seq rfl (obl_seq rfl (obl_reg (obl_cond (obl_seq rfl (obl_reg (obl_ret (obl_skip (obl_seq rfl (obl_reg (obl_seq rfl (obl_seq rfl (obl_reg (obl_loop _ rfl (fun a_ w_ hL_ => (by
    obtain ⟨hz_, hd_, hL_⟩ := atSz_out hL_
    obtain ⟨t3_n, h3_, hL_⟩ := atI_out hL_
    obtain ⟨t4_v, h4_, hL_⟩ := atI_out hL_
    obtain ⟨g0, rfl⟩ : ∃ g, a_ = Fr 25 [(3, Value.int .i64 t3_n), (4, Value.int .u64 t4_v)] g := ⟨_, fr_of hz_ hd_ [(3, Value.int .i64 t3_n), (4, Value.int .u64 t4_v)] (sel_cons h3_ (sel_cons h4_ sel_nil))⟩
    clear hz_ hd_ h3_ h4_
    have hJ0_ := hL_
    refine ⟨(fun _ => none), kcast (h0 t3_n t4_v w_ hJ0_) ?_, ?_⟩
    · kernel_rfl
    · exact (obl_seq rfl (obl_seq rfl (obl_reg (obl_cond (obl_skip (obl_exit (obl_seq rfl (obl_blk rfl (obl_reg (obl_reg trivial)))))))))))) (obl_seq rfl (obl_reg (obl_ret trivial)))))))))))))))))))

set_option maxRecDepth 100000 in
/-- (surd/surdref01.Num).Bit: function 54. -/
theorem surdref01_Num_Bit_vc (a0_a : Slc) (a1_i : Int) (w : World) (R : Ending → World → Prop)
    
    (h : br (decide (a1_i < 0))
    (R (.returned (Value.int .i64 0)) w)
    (br (decide ((IntKind.i64.wrap (Int.tdiv a1_i 32)) ≥ (a0_a.n : Int)))
     (R (.returned (Value.int .i64 0)) w)
     (semA Tryd.prog (Instr.indexAt 31 a0_a.v (Value.int .i64 (IntKind.i64.wrap (Int.tdiv a1_i 32)))) w fun ad1 w1 =>
      ldI .u64 ad1 w1 fun x1 =>
      semI Tryd.prog .u64 (binOp .shr 57 (Value.int .u64 x1) (Value.int .i64 (Int.tmod a1_i 32))) w1 fun x2 w2 =>
      R (.returned (Value.int .i64 (IntKind.i64.wrap (andI .u64 x2 1)))) w2))) :
    Calls Tryd.prog 54 #[a0_a.v, Value.int .i64 a1_i] w R := by
  refine calls_of_vc (fun _ => none) (by kernel_rfl) Tryd.func54 rfl ?_ ?_
  · refine kcast h ?_; kernel_rfl
  · exact (obl_seq rfl (obl_reg (obl_seq rfl (obl_seq rfl (obl_reg (obl_cond (obl_seq rfl (obl_reg (obl_ret (obl_skip (obl_seq rfl (obl_reg (obl_ret trivial)))))))))))))

def surdref01_Cmp_cut (J0 : Slc → Slc → Int → World → Prop) (m0 : Slc → Slc → Int → World → Nat) : Nat → Option ((Act → World → Prop) × (Act → World → Nat))
  | 0 => some (fun a_ w_ => atSz a_ 41 (atS a_ 0 fun t0_a => atS a_ 1 fun t1_b => atI .i64 a_ 5 fun t5_i => J0 t0_a t1_b t5_i w_), fun a_ w_ => mS a_ 0 fun t0_a => mS a_ 1 fun t1_b => mI a_ 5 fun t5_i => m0 t0_a t1_b t5_i w_)
  | _ => none

set_option maxRecDepth 100000 in
/-- surd/surdref01.Cmp: function 47. -/
theorem surdref01_Cmp_vc (a0_a : Slc) (a1_b : Slc) (w : World) (R : Ending → World → Prop)
    (J0 : Slc → Slc → Int → World → Prop) (m0 : Slc → Slc → Int → World → Nat)
    (h : br ((a0_a.n : Int) != (a1_b.n : Int))
    (br (decide ((a0_a.n : Int) < (a1_b.n : Int)))
     (R (.returned (Value.int .i64 (-1))) w)
     (R (.returned (Value.int .i64 1)) w))
    (J0 a0_a a1_b (IntKind.i64.wrap ((a0_a.n : Int) - 1)) w))
    (h0 : ∀ (t0_a : Slc) (t1_b : Slc) (t5_i : Int) (w_ : World), J0 t0_a t1_b t5_i w_ → 
    br (decide (t5_i ≥ 0))
    (fixA Tryd.prog (Instr.indexAt 31 t0_a.v (Value.int .i64 t5_i)) w_ fun ad1 =>
     ldI .u64 ad1 w_ fun x1 =>
     fixA Tryd.prog (Instr.indexAt 31 t1_b.v (Value.int .i64 t5_i)) w_ fun ad2 =>
     ldI .u64 ad2 w_ fun x2 =>
     ∀ w1, Ahead w_ w1 →
     (br (decide (x1 < x2))
      (R (.returned (Value.int .i64 (-1))) w1)
      (fixA Tryd.prog (Instr.indexAt 31 t0_a.v (Value.int .i64 t5_i)) w1 fun ad3 =>
       ldI .u64 ad3 w1 fun x3 =>
       fixA Tryd.prog (Instr.indexAt 31 t1_b.v (Value.int .i64 t5_i)) w1 fun ad4 =>
       ldI .u64 ad4 w1 fun x4 =>
       ∀ w2, Ahead w1 w2 →
       (br (decide (x3 > x4))
        (R (.returned (Value.int .i64 1)) w2)
        (J0 t0_a t1_b (IntKind.i64.wrap (t5_i - 1)) w2 ∧
         m0 t0_a t1_b (IntKind.i64.wrap (t5_i - 1)) w2 < m0 t0_a t1_b t5_i w_)))))
    (R (.returned (Value.int .i64 0)) w_)) :
    Calls Tryd.prog 47 #[a0_a.v, a1_b.v] w R := by
  refine calls_of_vc (surdref01_Cmp_cut J0 m0) (by kernel_rfl) Tryd.func47 rfl ?_ ?_
  · refine kcast h ?_; kernel_rfl
  · exact (obl_seq rfl (obl_reg (obl_seq rfl (obl_seq rfl (obl_reg (obl_cond (obl_seq rfl (obl_seq rfl (obl_reg (obl_cond (obl_seq rfl (obl_reg (obl_ret (obl_skip (obl_seq rfl (obl_reg (obl_ret (obl_skip (obl_seq rfl (obl_seq rfl (obl_reg (obl_loop _ rfl (fun a_ w_ hL_ => (by
    obtain ⟨hz_, hd_, hL_⟩ := atSz_out hL_
    obtain ⟨t0_a, h0_, hL_⟩ := atS_out hL_
    obtain ⟨t1_b, h1_, hL_⟩ := atS_out hL_
    obtain ⟨t5_i, h5_, hL_⟩ := atI_out hL_
    obtain ⟨g0, rfl⟩ : ∃ g, a_ = Fr 41 [(0, t0_a.v), (1, t1_b.v), (5, Value.int .i64 t5_i)] g := ⟨_, fr_of hz_ hd_ [(0, t0_a.v), (1, t1_b.v), (5, Value.int .i64 t5_i)] (sel_cons h0_ (sel_cons h1_ (sel_cons h5_ sel_nil)))⟩
    clear hz_ hd_ h0_ h1_ h5_
    have hJ0_ := hL_
    refine ⟨(fun _ => none), kcast (h0 t0_a t1_b t5_i w_ hJ0_) ?_, ?_⟩
    · kernel_rfl
    · exact (obl_seq rfl (obl_seq rfl (obl_reg (obl_cond (obl_skip (obl_exit (obl_seq rfl (obl_blk rfl (obl_seq rfl (obl_seq rfl (obl_quiet (by kernel_rfl) (by kernel_rfl) (by kernel_rfl) (by kernel_rfl) (obl_cond (obl_seq rfl (obl_reg (obl_ret (obl_skip (obl_seq rfl (obl_quiet (by kernel_rfl) (by kernel_rfl) (by kernel_rfl) (by kernel_rfl) (obl_cond (obl_seq rfl (obl_reg (obl_ret (obl_skip (obl_reg trivial)))))))))))))))))))))))))) (obl_seq rfl (obl_reg (obl_ret trivial)))))))))))))))))))))))))

set_option maxRecDepth 100000 in
/-- (surd/surdref01.Num).at: function 55. -/
theorem surdref01_Num_at_vc (a0_a : Slc) (a1_i : Int) (w : World) (R : Ending → World → Prop)
    
    (h : br (decide (a1_i < (a0_a.n : Int)))
    (semA Tryd.prog (Instr.indexAt 31 a0_a.v (Value.int .i64 a1_i)) w fun ad1 w1 =>
     ldI .u64 ad1 w1 fun x1 =>
     R (.returned (Value.int .u64 x1)) w1)
    (R (.returned (Value.int .u64 0)) w)) :
    Calls Tryd.prog 55 #[a0_a.v, Value.int .i64 a1_i] w R := by
  refine calls_of_vc (fun _ => none) (by kernel_rfl) Tryd.func55 rfl ?_ ?_
  · refine kcast h ?_; kernel_rfl
  · exact (obl_seq rfl (obl_reg (obl_seq rfl (obl_seq rfl (obl_reg (obl_cond (obl_seq rfl (obl_reg (obl_ret (obl_skip (obl_seq rfl (obl_reg (obl_ret trivial)))))))))))))

def surdref01_Add_cut (J0 : Slc → Slc → Int → Slc → Int → Int → World → Prop) (m0 : Slc → Slc → Int → Slc → Int → Int → World → Nat) : Nat → Option ((Act → World → Prop) × (Act → World → Nat))
  | 0 => some (fun a_ w_ => atSz a_ 44 (atS a_ 0 fun t0_a => atS a_ 1 fun t1_b => atI .i64 a_ 5 fun t5_n => atS a_ 6 fun t6_out => atI .u64 a_ 7 fun t7_carry => atI .i64 a_ 8 fun t8_i => J0 t0_a t1_b t5_n t6_out t7_carry t8_i w_), fun a_ w_ => mS a_ 0 fun t0_a => mS a_ 1 fun t1_b => mI a_ 5 fun t5_n => mS a_ 6 fun t6_out => mI a_ 7 fun t7_carry => mI a_ 8 fun t8_i => m0 t0_a t1_b t5_n t6_out t7_carry t8_i w_)
  | _ => none

set_option maxRecDepth 100000 in
/-- surd/surdref01.Add: function 52. -/
theorem surdref01_Add_vc (a0_a : Slc) (a1_b : Slc) (w : World) (R : Ending → World → Prop)
    (J0 : Slc → Slc → Int → Slc → Int → Int → World → Prop) (m0 : Slc → Slc → Int → Slc → Int → Int → World → Nat)
    (h : br (decide ((a1_b.n : Int) > (a0_a.n : Int)))
    (semS Tryd.prog (Instr.makeSlice 31 (Value.int .i64 (IntKind.i64.wrap ((a1_b.n : Int) + 1))) (Value.int .i64 (IntKind.i64.wrap ((a1_b.n : Int) + 1)))) w fun s1 w1 =>
     J0 a0_a a1_b (a1_b.n : Int) s1 0 0 w1)
    (semS Tryd.prog (Instr.makeSlice 31 (Value.int .i64 (IntKind.i64.wrap ((a0_a.n : Int) + 1))) (Value.int .i64 (IntKind.i64.wrap ((a0_a.n : Int) + 1)))) w fun s3 w7 =>
     J0 a0_a a1_b (a0_a.n : Int) s3 0 0 w7))
    (h0 : ∀ (t0_a : Slc) (t1_b : Slc) (t5_n : Int) (t6_out : Slc) (t7_carry : Int) (t8_i : Int) (w_ : World), J0 t0_a t1_b t5_n t6_out t7_carry t8_i w_ → 
    br (decide (t8_i ≤ t5_n))
    (Calls Tryd.prog 55 #[t0_a.v, Value.int .i64 t8_i] w_ fun e1 w2 =>
     ∃ x1 : Int, e1 = .returned (Value.int .u64 x1) ∧
     (Calls Tryd.prog 55 #[t1_b.v, Value.int .i64 t8_i] w2 fun e2 w3 =>
      ∃ x2 : Int, e2 = .returned (Value.int .u64 x2) ∧
      (semA Tryd.prog (Instr.indexAt 31 t6_out.v (Value.int .i64 t8_i)) w3 fun ad1 w4 =>
       stC ad1 (Value.int .u64 (Int.tmod (IntKind.u64.wrap ((IntKind.u64.wrap (x1 + x2)) + t7_carry)) 4294967296)) w4 fun w5 =>
       J0 t0_a t1_b t5_n t6_out (IntKind.u64.wrap (Int.tdiv (IntKind.u64.wrap ((IntKind.u64.wrap (x1 + x2)) + t7_carry)) 4294967296)) (IntKind.i64.wrap (t8_i + 1)) w5 ∧
       m0 t0_a t1_b t5_n t6_out (IntKind.u64.wrap (Int.tdiv (IntKind.u64.wrap ((IntKind.u64.wrap (x1 + x2)) + t7_carry)) 4294967296)) (IntKind.i64.wrap (t8_i + 1)) w5 < m0 t0_a t1_b t5_n t6_out t7_carry t8_i w_)))
    (Calls Tryd.prog 56 #[t6_out.v] w_ fun e3 w6 =>
     ∃ s2 : Slc, e3 = .returned s2.v ∧
     (R (.returned s2.v) w6))) :
    Calls Tryd.prog 52 #[a0_a.v, a1_b.v] w R := by
  refine calls_of_vc (surdref01_Add_cut J0 m0) (by kernel_rfl) Tryd.func52 rfl ?_ ?_
  · refine kcast h ?_; kernel_rfl
  · exact (obl_seq rfl (obl_reg (obl_seq rfl (obl_reg (obl_seq rfl (obl_seq rfl (obl_reg (obl_cond (obl_reg (obl_skip (obl_seq rfl (obl_reg (obl_seq rfl (obl_reg (obl_seq rfl (obl_seq rfl (obl_reg (obl_loop _ rfl (fun a_ w_ hL_ => (by
    obtain ⟨hz_, hd_, hL_⟩ := atSz_out hL_
    obtain ⟨t0_a, h0_, hL_⟩ := atS_out hL_
    obtain ⟨t1_b, h1_, hL_⟩ := atS_out hL_
    obtain ⟨t5_n, h5_, hL_⟩ := atI_out hL_
    obtain ⟨t6_out, h6_, hL_⟩ := atS_out hL_
    obtain ⟨t7_carry, h7_, hL_⟩ := atI_out hL_
    obtain ⟨t8_i, h8_, hL_⟩ := atI_out hL_
    obtain ⟨g0, rfl⟩ : ∃ g, a_ = Fr 44 [(0, t0_a.v), (1, t1_b.v), (5, Value.int .i64 t5_n), (6, t6_out.v), (7, Value.int .u64 t7_carry), (8, Value.int .i64 t8_i)] g := ⟨_, fr_of hz_ hd_ [(0, t0_a.v), (1, t1_b.v), (5, Value.int .i64 t5_n), (6, t6_out.v), (7, Value.int .u64 t7_carry), (8, Value.int .i64 t8_i)] (sel_cons h0_ (sel_cons h1_ (sel_cons h5_ (sel_cons h6_ (sel_cons h7_ (sel_cons h8_ sel_nil))))))⟩
    clear hz_ hd_ h0_ h1_ h5_ h6_ h7_ h8_
    have hJ0_ := hL_
    refine ⟨(fun _ => none), kcast (h0 t0_a t1_b t5_n t6_out t7_carry t8_i w_ hJ0_) ?_, ?_⟩
    · kernel_rfl
    · exact (obl_seq rfl (obl_seq rfl (obl_reg (obl_cond (obl_skip (obl_exit (obl_seq rfl (obl_blk rfl (obl_seq rfl (obl_reg (obl_seq rfl (obl_reg (obl_reg (obl_reg trivial)))))))))))))))) (obl_seq rfl (obl_reg (obl_ret trivial)))))))))))))))))))))

def surdref01_Sub_cut (J0 : Slc → Slc → Slc → Int → Int → Int → World → Prop) (m0 : Slc → Slc → Slc → Int → Int → Int → World → Nat) : Nat → Option ((Act → World → Prop) × (Act → World → Nat))
  | 0 => some (fun a_ w_ => atSz a_ 39 (atS a_ 0 fun t0_a => atS a_ 1 fun t1_b => atS a_ 5 fun t5_out => atI .u64 a_ 6 fun t6_borrow => atI .i64 a_ 13 fun t13 => atI .i64 a_ 14 fun t14 => J0 t0_a t1_b t5_out t6_borrow t13 t14 w_), fun a_ w_ => mS a_ 0 fun t0_a => mS a_ 1 fun t1_b => mS a_ 5 fun t5_out => mI a_ 6 fun t6_borrow => mI a_ 13 fun t13 => mI a_ 14 fun t14 => m0 t0_a t1_b t5_out t6_borrow t13 t14 w_)
  | _ => none

set_option maxRecDepth 100000 in
/-- surd/surdref01.Sub: function 53. -/
theorem surdref01_Sub_vc (a0_a : Slc) (a1_b : Slc) (w : World) (R : Ending → World → Prop)
    (J0 : Slc → Slc → Slc → Int → Int → Int → World → Prop) (m0 : Slc → Slc → Slc → Int → Int → Int → World → Nat)
    (h : semS Tryd.prog (Instr.makeSlice 31 (Value.int .i64 (a0_a.n : Int)) (Value.int .i64 (a0_a.n : Int))) w fun s1 w1 =>
    J0 a0_a a1_b s1 0 (a0_a.n : Int) 0 w1)
    (h0 : ∀ (t0_a : Slc) (t1_b : Slc) (t5_out : Slc) (t6_borrow : Int) (t13 : Int) (t14 : Int) (w_ : World), J0 t0_a t1_b t5_out t6_borrow t13 t14 w_ → 
    br (decide (t14 < t13))
    (fixA Tryd.prog (Instr.indexAt 31 t0_a.v (Value.int .i64 t14)) w_.drew fun ad1 =>
     ldI .u64 ad1 w_.drew fun x1 =>
     Calls Tryd.prog 55 #[t1_b.v, Value.int .i64 t14] w_.drew fun e1 w2 =>
     ∃ x2 : Int, e1 = .returned (Value.int .u64 x2) ∧
     (Ahead w_.drew w2 ∧
      (semA Tryd.prog (Instr.indexAt 31 t5_out.v (Value.int .i64 t14)) w2 fun ad2 w3 =>
       stC ad2 (Value.int .u64 (Int.tmod (IntKind.u64.wrap ((IntKind.u64.wrap ((IntKind.u64.wrap (x1 + 4294967296)) - x2)) - t6_borrow)) 4294967296)) w3 fun w4 =>
       J0 t0_a t1_b t5_out (IntKind.u64.wrap (1 - (IntKind.u64.wrap (Int.tdiv (IntKind.u64.wrap ((IntKind.u64.wrap ((IntKind.u64.wrap (x1 + 4294967296)) - x2)) - t6_borrow)) 4294967296)))) t13 (IntKind.i64.wrap (t14 + 1)) w4 ∧
       m0 t0_a t1_b t5_out (IntKind.u64.wrap (1 - (IntKind.u64.wrap (Int.tdiv (IntKind.u64.wrap ((IntKind.u64.wrap ((IntKind.u64.wrap (x1 + 4294967296)) - x2)) - t6_borrow)) 4294967296)))) t13 (IntKind.i64.wrap (t14 + 1)) w4 < m0 t0_a t1_b t5_out t6_borrow t13 t14 w_)))
    (Calls Tryd.prog 56 #[t5_out.v] w_ fun e2 w5 =>
     ∃ s2 : Slc, e2 = .returned s2.v ∧
     (R (.returned s2.v) w5))) :
    Calls Tryd.prog 53 #[a0_a.v, a1_b.v] w R := by
  refine calls_of_vc (surdref01_Sub_cut J0 m0) (by kernel_rfl) Tryd.func53 rfl ?_ ?_
  · refine kcast h ?_; kernel_rfl
  · exact (obl_seq rfl (obl_reg (obl_seq rfl (obl_reg (obl_seq rfl (obl_reg (obl_seq rfl (obl_seq rfl (obl_reg (obl_loop _ rfl (fun a_ w_ hL_ => (by
    obtain ⟨hz_, hd_, hL_⟩ := atSz_out hL_
    obtain ⟨t0_a, h0_, hL_⟩ := atS_out hL_
    obtain ⟨t1_b, h1_, hL_⟩ := atS_out hL_
    obtain ⟨t5_out, h5_, hL_⟩ := atS_out hL_
    obtain ⟨t6_borrow, h6_, hL_⟩ := atI_out hL_
    obtain ⟨t13, h13_, hL_⟩ := atI_out hL_
    obtain ⟨t14, h14_, hL_⟩ := atI_out hL_
    obtain ⟨g0, rfl⟩ : ∃ g, a_ = Fr 39 [(0, t0_a.v), (1, t1_b.v), (5, t5_out.v), (6, Value.int .u64 t6_borrow), (13, Value.int .i64 t13), (14, Value.int .i64 t14)] g := ⟨_, fr_of hz_ hd_ [(0, t0_a.v), (1, t1_b.v), (5, t5_out.v), (6, Value.int .u64 t6_borrow), (13, Value.int .i64 t13), (14, Value.int .i64 t14)] (sel_cons h0_ (sel_cons h1_ (sel_cons h5_ (sel_cons h6_ (sel_cons h13_ (sel_cons h14_ sel_nil))))))⟩
    clear hz_ hd_ h0_ h1_ h5_ h6_ h13_ h14_
    have hJ0_ := hL_
    refine ⟨(fun _ => none), kcast (h0 t0_a t1_b t5_out t6_borrow t13 t14 w_ hJ0_) ?_, ?_⟩
    · kernel_rfl
    · exact (obl_seq rfl (obl_reg (obl_seq rfl (obl_cond (obl_skip (obl_exit (obl_seq rfl (obl_blk rfl (obl_seq rfl (obl_reg (obl_seq rfl (obl_held (by kernel_rfl) (by kernel_rfl) (by kernel_rfl) (obl_seq rfl (obl_reg (obl_reg (obl_reg trivial)))))))))))))))))) (obl_seq rfl (obl_reg (obl_ret trivial)))))))))))))

def surdref01_Shl_cut (J0 : Int → Slc → Int → Slc → Int → Int → World → Prop) (m0 : Int → Slc → Int → Slc → Int → Int → World → Nat) : Nat → Option ((Act → World → Prop) × (Act → World → Nat))
  | 0 => some (fun a_ w_ => atSz a_ 55 (atI .i64 a_ 1 fun t1_n => atS a_ 5 fun t5_out => atI .i64 a_ 6 fun t6_s => atS a_ 21 fun t21 => atI .i64 a_ 22 fun t22 => atI .i64 a_ 23 fun t23 => J0 t1_n t5_out t6_s t21 t22 t23 w_), fun a_ w_ => mI a_ 1 fun t1_n => mS a_ 5 fun t5_out => mI a_ 6 fun t6_s => mS a_ 21 fun t21 => mI a_ 22 fun t22 => mI a_ 23 fun t23 => m0 t1_n t5_out t6_s t21 t22 t23 w_)
  | _ => none

set_option maxRecDepth 100000 in
/-- surd/surdref01.Shl: function 48. -/
theorem surdref01_Shl_vc (a0_a : Slc) (a1_n : Int) (w : World) (R : Ending → World → Prop)
    (J0 : Int → Slc → Int → Slc → Int → Int → World → Prop) (m0 : Int → Slc → Int → Slc → Int → Int → World → Nat)
    (h : br ((a0_a.n : Int) == 0)
    (R (.returned ((⟨none, 0, 0⟩ : Slc).v)) w)
    (semS Tryd.prog (Instr.makeSlice 31 (Value.int .i64 (IntKind.i64.wrap ((IntKind.i64.wrap ((a0_a.n : Int) + (IntKind.i64.wrap (Int.tdiv a1_n 32)))) + 1))) (Value.int .i64 (IntKind.i64.wrap ((IntKind.i64.wrap ((a0_a.n : Int) + (IntKind.i64.wrap (Int.tdiv a1_n 32)))) + 1)))) w fun s1 w1 =>
     J0 a1_n s1 (Int.tmod a1_n 32) a0_a (a0_a.n : Int) 0 w1))
    (h0 : ∀ (t1_n : Int) (t5_out : Slc) (t6_s : Int) (t21 : Slc) (t22 : Int) (t23 : Int) (w_ : World), J0 t1_n t5_out t6_s t21 t22 t23 w_ → 
    br (decide (t23 < t22))
    (semA Tryd.prog (Instr.indexAt 31 t21.v (Value.int .i64 t23)) w_ fun ad1 w2 =>
     ldI .u64 ad1 w2 fun x1 =>
     fixA Tryd.prog (Instr.indexAt 31 t5_out.v (Value.int .i64 (IntKind.i64.wrap (t23 + (IntKind.i64.wrap (Int.tdiv t1_n 32)))))) w2 fun ad2 =>
     ldI .u64 ad2 w2 fun x2 =>
     fixI Tryd.prog .u64 (binOp .shl 57 (Value.int .u64 x1) (Value.int .i64 t6_s)) w2 fun x3 =>
     fixA Tryd.prog (Instr.indexAt 31 t5_out.v (Value.int .i64 (IntKind.i64.wrap (t23 + (IntKind.i64.wrap (Int.tdiv t1_n 32)))))) w2 fun ad3 =>
     stC ad3 (Value.int .u64 (IntKind.u64.wrap (x2 + (Int.tmod x3 4294967296)))) w2.drew fun w3 =>
     semI Tryd.prog .u64 (binOp .shl 57 (Value.int .u64 x1) (Value.int .i64 t6_s)) w3 fun x4 w4 =>
     semA Tryd.prog (Instr.indexAt 31 t5_out.v (Value.int .i64 (IntKind.i64.wrap ((IntKind.i64.wrap (t23 + (IntKind.i64.wrap (Int.tdiv t1_n 32)))) + 1)))) w4 fun ad4 w5 =>
     stC ad4 (Value.int .u64 (IntKind.u64.wrap (Int.tdiv x4 4294967296))) w5 fun w6 =>
     J0 t1_n t5_out t6_s t21 t22 (IntKind.i64.wrap (t23 + 1)) w6 ∧
     m0 t1_n t5_out t6_s t21 t22 (IntKind.i64.wrap (t23 + 1)) w6 < m0 t1_n t5_out t6_s t21 t22 t23 w_)
    (Calls Tryd.prog 56 #[t5_out.v] w_ fun e1 w7 =>
     ∃ s2 : Slc, e1 = .returned s2.v ∧
     (R (.returned s2.v) w7))) :
    Calls Tryd.prog 48 #[a0_a.v, Value.int .i64 a1_n] w R := by
  refine calls_of_vc (surdref01_Shl_cut J0 m0) (by kernel_rfl) Tryd.func48 rfl ?_ ?_
  · refine kcast h ?_; kernel_rfl
  · exact (obl_seq rfl (obl_reg (obl_seq rfl (obl_seq rfl (obl_reg (obl_cond (obl_seq rfl (obl_reg (obl_ret (obl_skip (obl_seq rfl (obl_reg (obl_seq rfl (obl_reg (obl_seq rfl (obl_seq rfl (obl_reg (obl_loop _ rfl (fun a_ w_ hL_ => (by
    obtain ⟨hz_, hd_, hL_⟩ := atSz_out hL_
    obtain ⟨t1_n, h1_, hL_⟩ := atI_out hL_
    obtain ⟨t5_out, h5_, hL_⟩ := atS_out hL_
    obtain ⟨t6_s, h6_, hL_⟩ := atI_out hL_
    obtain ⟨t21, h21_, hL_⟩ := atS_out hL_
    obtain ⟨t22, h22_, hL_⟩ := atI_out hL_
    obtain ⟨t23, h23_, hL_⟩ := atI_out hL_
    obtain ⟨g0, rfl⟩ : ∃ g, a_ = Fr 55 [(1, Value.int .i64 t1_n), (5, t5_out.v), (6, Value.int .i64 t6_s), (21, t21.v), (22, Value.int .i64 t22), (23, Value.int .i64 t23)] g := ⟨_, fr_of hz_ hd_ [(1, Value.int .i64 t1_n), (5, t5_out.v), (6, Value.int .i64 t6_s), (21, t21.v), (22, Value.int .i64 t22), (23, Value.int .i64 t23)] (sel_cons h1_ (sel_cons h5_ (sel_cons h6_ (sel_cons h21_ (sel_cons h22_ (sel_cons h23_ sel_nil))))))⟩
    clear hz_ hd_ h1_ h5_ h6_ h21_ h22_ h23_
    have hJ0_ := hL_
    refine ⟨(fun _ => none), kcast (h0 t1_n t5_out t6_s t21 t22 t23 w_ hJ0_) ?_, ?_⟩
    · kernel_rfl
    · exact (obl_seq rfl (obl_reg (obl_seq rfl (obl_cond (obl_skip (obl_exit (obl_seq rfl (obl_blk rfl (obl_seq rfl (obl_reg (obl_seq rfl (obl_tail 13 (by kernel_rfl) (by kernel_rfl) (by kernel_rfl) (by kernel_rfl) (by kernel_rfl) (obl_reg (obl_reg trivial)))))))))))))))) (obl_seq rfl (obl_reg (obl_ret trivial)))))))))))))))))))))

def surdref01_Shr_cut (J0 : Slc → Int → Slc → Int → Int → Int → World → Prop) (m0 : Slc → Int → Slc → Int → Int → Int → World → Nat) : Nat → Option ((Act → World → Prop) × (Act → World → Nat))
  | 0 => some (fun a_ w_ => atSz a_ 53 (atS a_ 0 fun t0_a => atI .i64 a_ 1 fun t1_n => atS a_ 5 fun t5_out => atI .i64 a_ 6 fun t6_s => atI .i64 a_ 23 fun t23 => atI .i64 a_ 24 fun t24 => J0 t0_a t1_n t5_out t6_s t23 t24 w_), fun a_ w_ => mS a_ 0 fun t0_a => mI a_ 1 fun t1_n => mS a_ 5 fun t5_out => mI a_ 6 fun t6_s => mI a_ 23 fun t23 => mI a_ 24 fun t24 => m0 t0_a t1_n t5_out t6_s t23 t24 w_)
  | _ => none

set_option maxRecDepth 100000 in
/-- surd/surdref01.Shr: function 39. -/
theorem surdref01_Shr_vc (a0_a : Slc) (a1_n : Int) (w : World) (R : Ending → World → Prop)
    (J0 : Slc → Int → Slc → Int → Int → Int → World → Prop) (m0 : Slc → Int → Slc → Int → Int → Int → World → Nat)
    (h : br (decide ((IntKind.i64.wrap (Int.tdiv a1_n 32)) ≥ (a0_a.n : Int)))
    (R (.returned ((⟨none, 0, 0⟩ : Slc).v)) w)
    (semS Tryd.prog (Instr.makeSlice 31 (Value.int .i64 (IntKind.i64.wrap ((a0_a.n : Int) - (IntKind.i64.wrap (Int.tdiv a1_n 32))))) (Value.int .i64 (IntKind.i64.wrap ((a0_a.n : Int) - (IntKind.i64.wrap (Int.tdiv a1_n 32)))))) w fun s1 w1 =>
     J0 a0_a a1_n s1 (Int.tmod a1_n 32) (s1.n : Int) 0 w1))
    (h0 : ∀ (t0_a : Slc) (t1_n : Int) (t5_out : Slc) (t6_s : Int) (t23 : Int) (t24 : Int) (w_ : World), J0 t0_a t1_n t5_out t6_s t23 t24 w_ → 
    br (decide (t24 < t23))
    (fixA Tryd.prog (Instr.indexAt 31 t0_a.v (Value.int .i64 (IntKind.i64.wrap (t24 + (IntKind.i64.wrap (Int.tdiv t1_n 32)))))) w_.drew fun ad1 =>
     ldI .u64 ad1 w_.drew fun x1 =>
     Calls Tryd.prog 55 #[t0_a.v, Value.int .i64 (IntKind.i64.wrap ((IntKind.i64.wrap (t24 + (IntKind.i64.wrap (Int.tdiv t1_n 32)))) + 1))] w_.drew fun e1 w2 =>
     ∃ x2 : Int, e1 = .returned (Value.int .u64 x2) ∧
     (Ahead w_.drew w2 ∧
      (semI Tryd.prog .u64 (binOp .shr 57 (Value.int .u64 (IntKind.u64.wrap (x1 + (IntKind.u64.wrap (x2 * 4294967296))))) (Value.int .i64 t6_s)) w2 fun x3 w3 =>
       semA Tryd.prog (Instr.indexAt 31 t5_out.v (Value.int .i64 t24)) w3 fun ad2 w4 =>
       stC ad2 (Value.int .u64 (Int.tmod x3 4294967296)) w4 fun w5 =>
       J0 t0_a t1_n t5_out t6_s t23 (IntKind.i64.wrap (t24 + 1)) w5 ∧
       m0 t0_a t1_n t5_out t6_s t23 (IntKind.i64.wrap (t24 + 1)) w5 < m0 t0_a t1_n t5_out t6_s t23 t24 w_)))
    (Calls Tryd.prog 56 #[t5_out.v] w_ fun e2 w6 =>
     ∃ s2 : Slc, e2 = .returned s2.v ∧
     (R (.returned s2.v) w6))) :
    Calls Tryd.prog 39 #[a0_a.v, Value.int .i64 a1_n] w R := by
  refine calls_of_vc (surdref01_Shr_cut J0 m0) (by kernel_rfl) Tryd.func39 rfl ?_ ?_
  · refine kcast h ?_; kernel_rfl
  · exact (obl_seq rfl (obl_reg (obl_seq rfl (obl_seq rfl (obl_reg (obl_cond (obl_seq rfl (obl_reg (obl_ret (obl_skip (obl_seq rfl (obl_reg (obl_seq rfl (obl_reg (obl_seq rfl (obl_seq rfl (obl_reg (obl_loop _ rfl (fun a_ w_ hL_ => (by
    obtain ⟨hz_, hd_, hL_⟩ := atSz_out hL_
    obtain ⟨t0_a, h0_, hL_⟩ := atS_out hL_
    obtain ⟨t1_n, h1_, hL_⟩ := atI_out hL_
    obtain ⟨t5_out, h5_, hL_⟩ := atS_out hL_
    obtain ⟨t6_s, h6_, hL_⟩ := atI_out hL_
    obtain ⟨t23, h23_, hL_⟩ := atI_out hL_
    obtain ⟨t24, h24_, hL_⟩ := atI_out hL_
    obtain ⟨g0, rfl⟩ : ∃ g, a_ = Fr 53 [(0, t0_a.v), (1, Value.int .i64 t1_n), (5, t5_out.v), (6, Value.int .i64 t6_s), (23, Value.int .i64 t23), (24, Value.int .i64 t24)] g := ⟨_, fr_of hz_ hd_ [(0, t0_a.v), (1, Value.int .i64 t1_n), (5, t5_out.v), (6, Value.int .i64 t6_s), (23, Value.int .i64 t23), (24, Value.int .i64 t24)] (sel_cons h0_ (sel_cons h1_ (sel_cons h5_ (sel_cons h6_ (sel_cons h23_ (sel_cons h24_ sel_nil))))))⟩
    clear hz_ hd_ h0_ h1_ h5_ h6_ h23_ h24_
    have hJ0_ := hL_
    refine ⟨(fun _ => none), kcast (h0 t0_a t1_n t5_out t6_s t23 t24 w_ hJ0_) ?_, ?_⟩
    · kernel_rfl
    · exact (obl_seq rfl (obl_reg (obl_seq rfl (obl_cond (obl_skip (obl_exit (obl_seq rfl (obl_blk rfl (obl_seq rfl (obl_reg (obl_seq rfl (obl_held (by kernel_rfl) (by kernel_rfl) (by kernel_rfl) (obl_reg (obl_reg trivial)))))))))))))))) (obl_seq rfl (obl_reg (obl_ret trivial)))))))))))))))))))))

end Go.Proofs.YtlkjgafnjmfgiaaDoor
namespace Go.Proofs.YtlkjgafnjmfgiaaDoor
open Go Go.RowKit Eng Sp Dg
set_option linter.unusedVariables false
set_option linter.unusedSimpArgs false
set_option maxRecDepth 100000
namespace Sp
section
variable {P : Program} {t e : TypeId} {k : IntKind}
/-- append of what reads as ys, onto a row of the call's own that has room for it. -/
theorem appRoom (hT : isSl P t k = some e) {w : World} {s x : Slc} {l ys : List Int} {ty : TypeId} {b : Nat} (hx : Rd k w x ys) (hy : 0 < ys.length)
    (hs : Own k e w s l b) (hroom : l.length + ys.length ≤ s.c) {K : Slc → World → Prop}
    (hk : ∀ s' w', s'.c = s.c → Own k e w' s' (l ++ ys) b → (∀ w0, Ahead w0 w → w0.heap.size ≤ b → Ahead w0 w') → K s' w') :
    semS P (Builtin.append_ #[t, t] ty #[s.v, x.v]) w fun s' w' => K s' w' := by
  obtain ⟨hu, he, inf, hi, hs1, hb8, hz⟩ := isSl_out hT
  obtain ⟨ad, hA, _⟩ := hx.get 0 hy
  obtain ⟨sp, hc, hh⟩ := hs.mem
  have hr := run_append_room (P := P) w t ty e inf hu hi b l.length s.c (ints k l ++ sp).toArray hh ad ys.length x.c (ints k ys) (by simp [ints, hs1])
    (fun j u hj => by
      have hj' : j < ys.length := by
        have := (List.getElem?_eq_some_iff.1 hj).1
        simpa [ints] using this
      obtain ⟨ad', e', hcc⟩ := hx.get j hj'
      rw [hA] at e'
      obtain rfl := Option.some.inj e'
      rw [ints_get hj'] at hj
      obtain rfl := Option.some.inj hj
      exact hcc) (by simp [ints, Value.oneCell']) hroom (by simp [ints, hs1]; omega)
  have hxv : x.v = .slice (some ad) ys.length x.c := by rw [Slc.v, hA, hx.n]
  have hsv : s.v = .slice (some ⟨b, 0, none⟩) l.length s.c := by rw [Slc.v, hs.A, hs.n]
  unfold semS
  rw [Sem.wp_iff_run, hxv, hsv, hr]
  refine ⟨⟨some ⟨b, 0, none⟩, l.length + ys.length, s.c⟩, rfl, hk _ _ rfl ⟨by simp, sp.drop ys.length, by simp; omega, ?_⟩ fun w0 ha hb => Below.trans ha ⟨rfl, rfl, rfl, by simp [World.setRow], fun k hk => setRow_other w b k _ (by omega)⟩⟩
  rw [setRow_heap w b _ _ e (0, 0) hh]
  simp [hs1, ints]
  rw [List.drop_append]
  simp
end
end Sp
namespace Ref
open _root_.Go.Proofs.YtlkjgafnjmfgiaaDoor.Nat (ldN ldNf stN mkN cutHi cutCap Fill mkF stF stFf Num)

/-- The slice reads as the number's digits of 32 bits. -/
def RN (w : World) (s : Slc) (n : Nat) : Prop := Rd .u64 w s (nn (digs B32 n))
theorem RN.ahead {w w' : World} {s : Slc} {n : Nat} (h : RN w s n) (ha : Ahead w w') : RN w' s n := Rd.ahead h ha
theorem RN.n {w : World} {s : Slc} {n : Nat} (h : RN w s n) : s.n = (digs B32 n).length := by rw [Rd.n h, nn_length]
theorem RN.nil {w : World} {A : Option Addr} {c : Nat} : RN w ⟨A, 0, c⟩ 0 := by unfold RN; rw [digs_zero]; exact Rd.nil

theorem norm_specA {w : World} {s : Slc} {l : List Nat} (h : Rd .u64 w s (nn l)) (hl : l.length ≤ 2 ^ 46) (hok : ok B32 l) :
    Calls pr surdref01_norm_id #[s.v] w fun e w' => w' = w ∧ ∃ s', e = .returned (Slc.v s') ∧ RN w s' (val B32 l) ∧ s'.A = s.A := by
  have hn : s.n = l.length := by rw [h.n, nn_length]
  have hc := h.c
  refine surdref01_norm_vc s w _ (fun t n w' => w' = w ∧ t = s ∧ ∃ m : Nat, n = (m : Int) ∧ m ≤ l.length ∧ ∀ i, m ≤ i → i < l.length → l.getD i 0 = 0) (fun _ n _ => n.toNat)
    ⟨rfl, rfl, s.n, rfl, by omega, fun i h1 h2 => by omega⟩ ?_
  rintro t n w' ⟨rfl, rfl, m, rfl, hm, hz⟩
  have fin : (m = 0 ∨ l.getD (m - 1) 0 ≠ 0) → semS pr (Instr.sliceAt 31 t.v none (some (Value.int .i64 (m : Int))) (some (Value.int .i64 (m : Int)))) w' fun s2 w3 =>
      w3 = w' ∧ ∃ s', Ending.returned s2.v = .returned (Slc.v s') ∧ RN w' s' (val B32 l) ∧ s'.A = t.A := by
    intro hlast
    refine cutCap (by omega) (by omega) ?_
    refine ⟨rfl, _, rfl, ?_, rfl⟩
    unfold RN
    rw [digs_take two32 hok hm hz hlast, ← nn_take]
    simp only [Int.toNat_natCast]
    exact h.take (by simpa using hm) (Nat.le_refl _)
  refine br_intro (fun hp => ?_) (fun hp => ?_)
  · have hp' : 0 < m := by simp at hp; omega
    rw [wrap_i64 (x := (m : Int) - 1) (by omega) (by omega)]
    refine ldN h (by omega) (by omega) ?_
    have e2 : ((m : Int) - 1).toNat = m - 1 := by omega
    rw [e2]
    refine br_intro (fun hx => ?_) (fun hx => ?_)
    · refine ⟨⟨rfl, rfl, m - 1, by omega, by omega, fun i h1 h2 => ?_⟩, by omega⟩
      by_cases hi : i = m - 1
      · subst hi; simpa using hx
      · exact hz i (by omega) h2
    · exact fin (.inr (by simpa using hx))
  · exact fin (.inl (by simp at hp; omega))
theorem norm_spec {w : World} {s : Slc} {l : List Nat} (h : Rd .u64 w s (nn l)) (hl : l.length ≤ 2 ^ 46) (hok : ok B32 l) :
    Calls pr surdref01_norm_id #[s.v] w fun e w' => w' = w ∧ ∃ s', e = .returned (Slc.v s') ∧ RN w s' (val B32 l) :=
  Calls.mono (norm_specA h hl hok) fun e w' ⟨h1, s', h2, h3, _⟩ => ⟨h1, s', h2, h3⟩

theorem at_spec {w : World} {s : Slc} {l : List Nat} (h : Rd .u64 w s (nn l)) {i : Int} (h0 : 0 ≤ i) :
    Calls pr surdref01_Num_at_id #[s.v, .int .i64 i] w fun e w' => w' = w ∧ e = .returned (.int .u64 (l.getD i.toNat 0 : Nat)) := by
  have hn : s.n = l.length := by rw [h.n, nn_length]
  refine surdref01_Num_at_vc s i w _ (br_intro (fun hlt => ?_) (fun hge => ?_))
  · have hlt' : i < l.length := by simp at hlt; omega
    exact ldN h h0 hlt' ⟨rfl, rfl⟩
  · refine ⟨rfl, ?_⟩
    rw [getD_ge l 0 (by simp at hge; omega)]; rfl

theorem zero_spec {w : World} {s : Slc} {n : Nat} (h : RN w s n) :
    Calls pr surdref01_Num_Zero_id #[s.v] w fun e w' => w' = w ∧ e = .returned (.bool (decide (n = 0))) := by
  refine surdref01_Num_Zero_vc s w _ ⟨rfl, ?_⟩
  have := h.n
  congr 2
  by_cases hn : n = 0
  · subst hn; rw [digs_zero] at this; simp [this]
  · have h2 := List.length_pos_iff.2 (digs_ne_nil two32 hn)
    have : s.n ≠ 0 := by omega
    simp [hn, this]

/-- A base 2^32: the limbs' list as digits. -/
def split32 : List Nat → List Nat
  | [] => []
  | x :: l => x % B32 :: x / B32 :: split32 l
theorem split32_append (l m : List Nat) : split32 (l ++ m) = split32 l ++ split32 m := by
  induction l with
  | nil => rfl
  | cons x l ih => simp [split32, ih]
theorem split32_length (l : List Nat) : (split32 l).length = 2 * l.length := by
  induction l with
  | nil => rfl
  | cons x l ih => simp [split32, ih]; omega
theorem split32_ok {l : List Nat} (h : ok B64 l) : ok B32 (split32 l) := by
  have hB := B64v
  induction l with
  | nil => exact ok_nil
  | cons x l ih =>
    obtain ⟨h1, h2⟩ := ok_cons.1 h
    exact ok_cons.2 ⟨by simp only [B32v]; omega, ok_cons.2 ⟨by simp only [B32v]; omega, ih h2⟩⟩
theorem split32_val (l : List Nat) : val B32 (split32 l) = val B64 l := by
  have h64 : B64 = B32 * B32 := by decide
  induction l with
  | nil => rfl
  | cons x l ih =>
    show x % B32 + B32 * (x / B32 + B32 * val B32 (split32 l)) = x + B64 * val B64 l
    rw [ih, Nat.mul_add, ← Nat.mul_assoc, ← h64, ← Nat.add_assoc, Nat.mod_add_div]

theorem Of_specT {w : World} {s : Slc} {l : List Nat} (h : Rd .u64 w s (nn l)) (hl : l.length * 8 ≤ 140737488351232) (hok : ok B64 l) :
    Calls pr surdref01_Of_id #[s.v] w fun e w' => Ahead w w' ∧ ∃ s', e = .returned (Slc.v s') ∧ RN w' s' (val B64 l) ∧ ∀ ad, s'.A = some ad → w.heap.size ≤ ad.block ∧ ∃ cs m, w'.heap[ad.block]? = some (.cells cs tU64 m) := by
  have hB := B64v
  have hB32 := B32v
  have hn : s.n = l.length := by rw [h.n, nn_length]
  refine surdref01_Of_vc s w _ (fun out t10 n i w' => t10 = s ∧ n = (l.length : Int) ∧ Ahead w w' ∧ ∃ (j b : Nat), i = (j : Int) ∧ j ≤ l.length ∧ w.heap.size ≤ b ∧ out.c = 2 * l.length ∧
    Own .u64 tU64 w' out (nn (split32 (l.take j))) b) (fun _ _ n i _ => (n - i).toNat) ?_ ?_
  · rw [hn, wrap_i64 (by omega) (by omega)]
    refine mk (e := tU64) (k := .u64) (by kernel_rfl) (Int.le_refl 0) (by omega) (by omega) ?_
    intro s' w' hc ho ha hs
    exact ⟨rfl, rfl, ha, 0, w.heap.size, rfl, Nat.zero_le _, Nat.le_refl _, by rw [hc]; omega, ho⟩
  · rintro out t10 n i w1 ⟨rfl, rfl, ha, j, b, rfl, hj, hb, hoc, ho⟩
    refine br_intro (fun hlt => ?_) (fun hge => ?_)
    · have hj' : j < l.length := by simpa using hlt
      refine ldN (h.ahead ha) (by omega) (by omega) ?_
      have hx := ok_getD hok (by omega : 0 < B64) j
      simp only [Int.toNat_natCast]
      generalize hxe : l.getD j 0 = x at *
      have e1 : Int.tmod (x : Int) 4294967296 = ((x % B32 : Nat) : Int) := by rw [B32v, Int.tmod_eq_emod_of_nonneg (by omega)]; omega
      have e2 : IntKind.u64.wrap (Int.tdiv (x : Int) 4294967296) = ((x / B32 : Nat) : Int) := by
        have : Int.tdiv (x : Int) 4294967296 = ((x / 4294967296 : Nat) : Int) := by rw [Int.tdiv_eq_ediv_of_nonneg (by omega)]; omega
        rw [B32v, this, wrap_u64' (by omega) (by omega)]
      rw [e1, e2]
      have hal := Ahead.alloc w1 (.cells #[Value.int .u64 ((x % B32 : Nat) : Int), Value.int .u64 ((x / B32 : Nat) : Int)] tU64 (0, 0))
      have hlit : Rd .u64 (w1.alloc (.cells #[Value.int .u64 ((x % B32 : Nat) : Int), Value.int .u64 ((x / B32 : Nat) : Int)] tU64 (0, 0))) ⟨some ⟨w1.heap.size, 0, none⟩, 2, 2⟩ (nn [x % B32, x / B32]) :=
        Own.rd (t := tU64) (b := w1.heap.size) ⟨rfl, [], rfl, by rw [get_alloc]; rfl⟩
      refine appRoom (t := _) (e := tU64) (k := .u64) (by kernel_rfl) hlit (by simp) (ho.ahead hal) (by rw [hoc, nn_length, split32_length, nn_length]; simp; omega) ?_
      intro s' w4 hc' ho' hah
      have e8 : IntKind.i64.wrap ((j : Int) + 1) = ((j + 1 : Nat) : Int) := by rw [wrap_i64 (by omega) (by omega)]; omega
      refine ⟨⟨by trivial, by trivial, hah w (ha.trans hal) hb, j + 1, b, e8, hj', hb, by rw [hc', hoc], ?_⟩, by rw [e8]; omega⟩
      rw [List.take_succ_eq_append_getElem hj', split32_append, nn_append]
      have : l[j] = x := by rw [← hxe]; exact (getD_lt l 0 hj').symm
      rw [this]
      exact ho'
    · have hj' : j = l.length := by simp at hge; omega
      subst hj'
      rw [List.take_length] at ho
      refine Calls.mono (norm_specA ho.rd (by rw [split32_length]; omega) (split32_ok hok)) ?_
      rintro e w5 ⟨rfl, s', rfl, hr, hA⟩
      rw [split32_val] at hr
      refine ⟨_, rfl, ha, _, rfl, hr, fun ad e => ?_⟩
      rw [hA, ho.A] at e
      have := Option.some.inj e
      subst this
      obtain ⟨sp, _, hh⟩ := ho.mem
      exact ⟨hb, _, _, hh⟩
theorem Of_specN {w : World} {s : Slc} {l : List Nat} (h : Rd .u64 w s (nn l)) (hl : l.length * 8 ≤ 140737488351232) (hok : ok B64 l) :
    Calls pr surdref01_Of_id #[s.v] w fun e w' => Ahead w w' ∧ ∃ s', e = .returned (Slc.v s') ∧ RN w' s' (val B64 l) ∧ ∀ ad, s'.A = some ad → w.heap.size ≤ ad.block :=
  Calls.mono (Of_specT h hl hok) fun e w' ⟨h1, s', h2, h3, h4⟩ => ⟨h1, s', h2, h3, fun ad e => (h4 ad e).1⟩
theorem Of_spec {w : World} {s : Slc} {l : List Nat} (h : Rd .u64 w s (nn l)) (hl : l.length * 8 ≤ 140737488351232) (hok : ok B64 l) :
    Calls pr surdref01_Of_id #[s.v] w fun e w' => Ahead w w' ∧ ∃ s', e = .returned (Slc.v s') ∧ RN w' s' (val B64 l) :=
  Calls.mono (Of_specN h hl hok) fun e w' ⟨h1, s', h2, h3, _⟩ => ⟨h1, s', h2, h3⟩

theorem bl_len32 {l : List Nat} (h : ok B32 l) : bl (val B32 l) ≤ 32 * l.length := bl_le (by rw [← b32_pow]; exact val_lt h)

theorem Len_spec {w : World} {s : Slc} {n : Nat} (h : RN w s n) (hl : (digs B32 n).length ≤ 2 ^ 46) :
    Calls pr surdref01_Num_Len_id #[s.v] w fun e w' => w' = w ∧ e = .returned (.int .i64 (bl n)) := by
  have hB32 := B32v
  have hn := h.n
  have hok := ok_digs two32 n
  refine surdref01_Num_Len_vc s w _ (fun k v w' => w' = w ∧ ∃ (a x : Nat), k = (a : Int) ∧ v = (x : Int) ∧ x < B32 ∧ a ≤ 2 ^ 55 ∧ a + bl x = bl n) (fun _ v _ => v.toNat) ?_ ?_
  · refine br_intro (fun hz => ?_) (fun hz => ?_)
    · have hd : digs B32 n = [] := List.eq_nil_of_length_eq_zero (by simp at hz; omega)
      have hv : n = 0 := by rw [← val_digs two32 n, hd]; rfl
      refine ⟨rfl, ?_⟩
      rw [hv, bl_zero]; rfl
    · have hp : 0 < s.n := by simp at hz; omega
      rw [wrap_i64 (x := (s.n : Int) - 1) (by omega) (by omega)]
      refine ldN h (by omega) (by omega) ?_
      have e2 : ((s.n : Int) - 1).toNat = s.n - 1 := by omega
      rw [e2, wrap_i64 (by omega) (by omega)]
      have hne : n ≠ 0 := by intro h0; subst h0; rw [digs_zero] at hn; simp at hn; omega
      refine ⟨rfl, 32 * (s.n - 1), _, by omega, rfl, ok_getD hok (by omega) _, by omega, ?_⟩
      have hlen : (digs B32 n).length = (s.n - 1) + 1 := by omega
      have hval : n = val B32 ((digs B32 n).take (s.n - 1)) + 2 ^ (32 * (s.n - 1)) * (digs B32 n).getD (s.n - 1) 0 := by
        rw [← b32_pow, ← val_take_succ', List.take_of_length_le (by omega), val_digs two32]
      have hlt : val B32 ((digs B32 n).take (s.n - 1)) < 2 ^ (32 * (s.n - 1)) := by
        rw [← b32_pow]
        have := val_lt (ok_take hok (s.n - 1))
        rw [List.length_take, Nat.min_eq_left (by omega)] at this
        exact this
      have htop := digs_last two32 hne
      rw [show (digs B32 n).length - 1 = s.n - 1 by omega] at htop
      have := bl_add_pow htop hlt
      rw [← hval] at this
      omega
  · rintro k v w1 ⟨rfl, a, x, rfl, rfl, hx, ha, hbl⟩
    refine br_intro (fun hp => ?_) (fun hp => ?_)
    · have hp' : x ≠ 0 := by simp at hp; omega
      have e1 : IntKind.i64.wrap ((a : Int) + 1) = ((a + 1 : Nat) : Int) := by rw [wrap_i64 (by omega) (by omega)]; omega
      have e2 : IntKind.u64.wrap (Int.tdiv (x : Int) 2) = ((x / 2 : Nat) : Int) := by
        have : Int.tdiv (x : Int) 2 = ((x / 2 : Nat) : Int) := by rw [Int.tdiv_eq_ediv_of_nonneg (by omega)]; omega
        rw [this, wrap_u64' (by omega) (by omega)]
      have e3 : bl x = bl (x / 2) + 1 := by
        unfold bl; rw [digs_pos (by omega) hp']; simp
      have hbn : bl n ≤ 32 * (digs B32 n).length := by
        have := bl_len32 hok
        rw [val_digs two32] at this
        exact this
      have := bl_pos hp'
      rw [e1, e2]
      exact ⟨⟨rfl, a + 1, x / 2, rfl, rfl, by omega, by omega, by omega⟩, by omega⟩
    · have hp' : x = 0 := by simp at hp; omega
      subst hp'
      rw [bl_zero] at hbl
      exact ⟨rfl, by rw [← hbl]; rfl⟩

end Ref
end Go.Proofs.YtlkjgafnjmfgiaaDoor
namespace Go.Proofs.YtlkjgafnjmfgiaaDoor
open Go Go.RowKit Eng Sp Dg
set_option linter.unusedVariables false
set_option linter.unusedSimpArgs false
set_option maxRecDepth 100000
namespace Ref
open _root_.Go.Proofs.YtlkjgafnjmfgiaaDoor.Nat (ldN ldNf stN mkN cutHi cutCap Fill mkF stF stFf Num OwnNil)

theorem Cmp_spec {w : World} {p q : Slc} {x y : Nat} (hp : RN w p x) (hq : RN w q y) (la : (digs B32 x).length ≤ 2 ^ 46) (lb : (digs B32 y).length ≤ 2 ^ 46) :
    Calls pr surdref01_Cmp_id #[p.v, q.v] w fun e w' => Ahead w w' ∧ e = .returned (.int .i64 (cmpI x y)) := by
  have hna := hp.n
  have hnb := hq.n
  refine surdref01_Cmp_vc p q w _ (fun s t i w' => Ahead w w' ∧ s = p ∧ t = q ∧ (digs B32 x).length = (digs B32 y).length ∧ ∃ m : Nat, i = (m : Int) - 1 ∧ m ≤ (digs B32 x).length ∧ (digs B32 x).drop m = (digs B32 y).drop m) (fun _ _ i _ => (i + 1).toNat) ?_ ?_
  · refine br_intro (fun hne => ?_) (fun heq => ?_)
    · refine br_intro (fun hlt => ?_) (fun hlt => ?_)
      · refine ⟨Ahead.refl _, ?_⟩
        have := digs_len_lt two32 (m := x) (n := y) (by simp at hlt; omega)
        rw [cmpI, if_pos this]
      · refine ⟨Ahead.refl _, ?_⟩
        have := digs_len_lt two32 (m := y) (n := x) (by simp at hlt hne; omega)
        rw [cmpI, if_neg (by omega), if_pos this]
    · have heq' : p.n = q.n := by simp at heq; omega
      refine ⟨Ahead.refl _, rfl, rfl, by omega, p.n, wrap_i64 (by omega) (by omega), by omega, ?_⟩
      rw [List.drop_eq_nil_of_le (by omega), List.drop_eq_nil_of_le (by omega)]
  · rintro s t i w' ⟨ha, rfl, rfl, hl, m, rfl, hm, hdr⟩
    have hs := hp.ahead ha
    have ht := hq.ahead ha
    refine br_intro (fun h0 => ?_) (fun h0 => ?_)
    · have hm1 : 1 ≤ m := by simp at h0; omega
      have e2 : ((m : Int) - 1).toNat = m - 1 := by omega
      refine ldNf hs (by omega) (by omega) ?_
      refine ldNf ht (by omega) (by omega) ?_
      intro w3 ha3
      rw [e2]
      have hdr' : (digs B32 x).drop (m - 1 + 1) = (digs B32 y).drop (m - 1 + 1) := by rw [Nat.sub_add_cancel hm1]; exact hdr
      refine br_intro (fun hlt => ?_) (fun hlt => ?_)
      · refine ⟨ha.trans ha3, ?_⟩
        have := val_lt_top (ok_digs two32 x) (by omega) (by omega) hdr' (by simpa using hlt)
        rw [val_digs two32, val_digs two32] at this
        rw [cmpI, if_pos this]
      · refine ldNf (hs.ahead ha3) (by omega) (by omega) ?_
        refine ldNf (ht.ahead ha3) (by omega) (by omega) ?_
        intro w4 ha4
        rw [e2]
        refine br_intro (fun hgt => ?_) (fun hgt => ?_)
        · refine ⟨(ha.trans ha3).trans ha4, ?_⟩
          have := val_lt_top (ok_digs two32 y) (by omega) (by omega) hdr'.symm (by simpa using hgt)
          rw [val_digs two32, val_digs two32] at this
          rw [cmpI, if_neg (by omega), if_pos this]
        · have e3 : IntKind.i64.wrap ((m : Int) - 1 - 1) = ((m - 1 : Nat) : Int) - 1 := by rw [wrap_i64 (by omega) (by omega)]; omega
          refine ⟨⟨(ha.trans ha3).trans ha4, rfl, rfl, hl, m - 1, e3, by omega, ?_⟩, by rw [e3]; omega⟩
          have heq : (digs B32 x).getD (m - 1) 0 = (digs B32 y).getD (m - 1) 0 := by
            simp only [decide_eq_false_iff_not] at hlt hgt; omega
          have l1 : m - 1 < (digs B32 x).length := by omega
          have l2 : m - 1 < (digs B32 y).length := by omega
          rw [List.drop_eq_getElem_cons l1, List.drop_eq_getElem_cons l2, hdr', ← getD_lt _ 0 l1, ← getD_lt _ 0 l2, heq]
    · have hm0 : m = 0 := by simp at h0; omega
      subst hm0
      refine ⟨ha, ?_⟩
      have := digs_inj two32 (m := x) (n := y) (by simpa using hdr)
      rw [this, cmpI, if_neg (by omega), if_neg (by omega)]

theorem digs_lt_iff {B n j : Nat} (hB : 2 ≤ B) : j < (digs B n).length ↔ B ^ j ≤ n := by
  by_cases hn : n = 0
  · subst hn
    rw [digs_zero]
    have : 0 < B ^ j := Nat.pow_pos (by omega)
    simp; omega
  · obtain ⟨h1, h2⟩ := digs_length_bounds hB hn
    constructor
    · intro h
      exact Nat.le_trans (Nat.pow_le_pow_right (by omega) (by omega)) h1
    · intro h
      exact (Nat.pow_lt_pow_iff_right (by omega)).1 (Nat.lt_of_le_of_lt h h2)
theorem b64_sq (j : Nat) : B64 ^ j = B32 ^ (2 * j) := by rw [show B64 = B32 ^ 2 by decide, ← Nat.pow_mul]
theorem digs_64_32 {n j : Nat} : j < (digs B64 n).length ↔ 2 * j < (digs B32 n).length := by
  rw [digs_lt_iff two64, digs_lt_iff two32, b64_sq]
theorem limb_eq (n j : Nat) : (digs B64 n).getD j 0 = (digs B32 n).getD (2 * j) 0 + (digs B32 n).getD (2 * j + 1) 0 * B32 := by
  rw [digit (by have := B64v; omega) _ (ok_digs two64 n), digit (by have := B32v; omega) _ (ok_digs two32 n), digit (by have := B32v; omega) _ (ok_digs two32 n), val_digs two64, val_digs two32, b64_sq, Nat.pow_succ, ← Nat.div_div_eq_div_mul]
  generalize n / B32 ^ (2 * j) = U
  rw [show B64 = B32 * B32 by decide, Nat.mod_mul, Nat.mul_comm B32]

theorem Limbs_spec {w : World} {s : Slc} {n : Nat} (h : RN w s n) (hl : (digs B64 n).length ≤ 2 ^ 44) :
    Calls pr surdref01_Num_Limbs_id #[s.v] w fun e w' => Ahead w w' ∧ ∃ s', e = .returned (Slc.v s') ∧ OwnNil w.heap.size w' s' (digs B64 n) := by
  have hB := B64v
  have hB32 := B32v
  have hn := h.n
  have hok := ok_digs two32 n
  have hbnd : (digs B32 n).length ≤ 2 ^ 45 := by
    rcases Nat.lt_or_ge (2 ^ 45) (digs B32 n).length with h1 | h1
    · have := digs_64_32 (n := n) (j := 2 ^ 44)
      omega
    · exact h1
  refine surdref01_Num_Limbs_vc s w _ (fun t out i w' => t = s ∧ Ahead w w' ∧ ∃ j : Nat, i = 2 * (j : Int) ∧ j ≤ (digs B64 n).length ∧ OwnNil w.heap.size w' out ((digs B64 n).take j)) (fun _ _ i _ => (2 * ((digs B64 n).length : Int) - i).toNat)
    ⟨rfl, Ahead.refl _, 0, rfl, Nat.zero_le _, OwnNil.nil⟩ ?_
  rintro t out i w1 ⟨rfl, ha, j, rfl, hj, ho⟩
  have hiff := digs_64_32 (n := n) (j := j)
  refine br_intro (fun hlt => ?_) (fun hge => ?_)
  · have hj' : 2 * j < (digs B32 n).length := by simp at hlt; omega
    have hjj := hiff.2 hj'
    have hlimb := limb_eq n j
    have hx := ok_getD hok (by omega : 0 < B32) (2 * j)
    have hy := ok_getD hok (by omega : 0 < B32) (2 * j + 1)
    have hL := ok_getD (ok_digs two64 n) (by omega : 0 < B64) j
    have e8 : IntKind.i64.wrap (2 * (j : Int) + 2) = 2 * ((j + 1 : Nat) : Int) := by rw [wrap_i64 (by omega) (by omega)]; omega
    have e9 : IntKind.i64.wrap (2 * (j : Int) + 1) = ((2 * j + 1 : Nat) : Int) := by rw [wrap_i64 (by omega) (by omega)]; omega
    have ei : (2 * (j : Int)).toNat = 2 * j := by omega
    have step : ∀ (T : TypeId) (hT : isSl pr T .u64 = some tU64) (v : Nat), v = (digs B64 n).getD j 0 → newC w1 #[Value.int .u64 (v : Int)] tU64 fun ad3 w3 =>
        semS pr (Builtin.append_ #[T, T] T #[out.v, (⟨some ad3, 1, 1⟩ : Slc).v]) w3 fun s1 w4 =>
        (t = t ∧ Ahead w w4 ∧ ∃ j' : Nat, IntKind.i64.wrap (2 * (j : Int) + 2) = 2 * (j' : Int) ∧ j' ≤ (digs B64 n).length ∧ OwnNil w.heap.size w4 s1 ((digs B64 n).take j')) ∧
        (2 * ((digs B64 n).length : Int) - IntKind.i64.wrap (2 * (j : Int) + 2)).toNat < (2 * ((digs B64 n).length : Int) - 2 * (j : Int)).toNat := by
      rintro T hT v rfl
      have hal := Ahead.alloc w1 (.cells #[Value.int .u64 (((digs B64 n).getD j 0 : Nat) : Int)] tU64 (0, 0))
      have hlit : Rd .u64 (w1.alloc (.cells #[Value.int .u64 (((digs B64 n).getD j 0 : Nat) : Int)] tU64 (0, 0))) ⟨some ⟨w1.heap.size, 0, none⟩, 1, 1⟩ (nn [(digs B64 n).getD j 0]) :=
        Own.rd (t := tU64) (b := w1.heap.size) ⟨rfl, [], rfl, by rw [get_alloc]; rfl⟩
      refine app (t := _) (e := tU64) (k := .u64) (l := nn ((digs B64 n).take j)) (base := w.heap.size) hT hlit (by simp)
        ((ho.ahead hal).imp (fun h => ⟨h.1, by rw [h.2]; rfl⟩) id) (ha.trans hal).size (by simp; omega) ?_
      intro s' w5 b' hb' hc' hown hbel hah
      refine ⟨⟨rfl, ?_, j + 1, e8, hjj, .inr ⟨b', hb', hc', ?_⟩⟩, by rw [e8]; omega⟩
      · refine hah w (ha.trans hal) fun b hb => ?_
        rcases ho with ⟨rfl, _⟩ | ⟨b2, h1, _, h3⟩
        · simp at hb
        · rw [h3.A] at hb; simp at hb; omega
      · rw [List.take_succ_eq_append_getElem hjj, nn_append, ← getD_lt _ 0 hjj]
        exact hown
    refine ldN (h.ahead ha) (by omega) (by omega) ?_
    rw [ei]
    refine br_intro (fun hin => ?_) (fun hin => ?_)
    · have hin' : 2 * j + 1 < (digs B32 n).length := by rw [e9] at hin; simp at hin; omega
      rw [e9]
      refine ldN (h.ahead ha) (by omega) (by omega) ?_
      rw [Int.toNat_natCast]
      have ev : IntKind.u64.wrap ((((digs B32 n).getD (2 * j) 0 : Nat) : Int) + IntKind.u64.wrap ((((digs B32 n).getD (2 * j + 1) 0 : Nat) : Int) * 4294967296)) = (((digs B64 n).getD j 0 : Nat) : Int) := by
        rw [hlimb]
        generalize (digs B32 n).getD (2 * j) 0 = a at *
        generalize (digs B32 n).getD (2 * j + 1) 0 = b at *
        rw [hB32] at *
        rw [wrap_u64' (x := (b : Int) * 4294967296) (by omega) (by omega), wrap_u64' (by omega) (by omega)]
        omega
      rw [ev]
      exact step _ (by kernel_rfl) _ rfl
    · have hin' : (digs B32 n).length ≤ 2 * j + 1 := by rw [e9] at hin; simp at hin; omega
      refine step _ (by kernel_rfl) _ ?_
      rw [hlimb, getD_ge _ 0 hin', Nat.zero_mul, Nat.add_zero]
  · have hj' : j = (digs B64 n).length := by
      have : ¬ 2 * j < (digs B32 n).length := by simp at hge; omega
      have := mt hiff.1 this
      omega
    subst hj'
    rw [List.take_length] at ho
    exact ⟨ha, _, rfl, ho⟩

theorem Is_spec {w : World} {s t : Slc} {n : Nat} (h : RN w s n) (ht : Rd .u64 w t (nn (digs B64 n))) (hl : (digs B64 n).length ≤ 2 ^ 44) :
    Calls pr surdref01_Num_Is_id #[s.v, t.v] w fun e w' => Ahead w w' ∧ e = .returned (.bool true) := by
  have htn : t.n = (digs B64 n).length := by rw [ht.n, nn_length]
  refine surdref01_Num_Is_vc s t w _ (fun p q m i w' => p = t ∧ m = ((digs B64 n).length : Int) ∧ Ahead w w' ∧ Rd .u64 w' q (nn (digs B64 n)) ∧ ∃ j : Nat, i = (j : Int) ∧ j ≤ (digs B64 n).length) (fun _ _ m i _ => (m - i).toNat) ?_ ?_
  · refine Calls.mono (Limbs_spec h hl) ?_
    rintro e w1 ⟨ha, s', rfl, ho⟩
    have hr := ho.rd
    have hn' : s'.n = (digs B64 n).length := by rw [hr.n, nn_length]
    exact ⟨_, rfl, br_false (by rw [hn', htn]; simp) ⟨rfl, by rw [hn'], ha, hr, 0, rfl, Nat.zero_le _⟩⟩
  · rintro p q m i w1 ⟨rfl, rfl, ha, hr, j, rfl, hj⟩
    refine br_intro (fun hlt => ?_) (fun hge => ?_)
    · have hj' : j < (digs B64 n).length := by simp at hlt; omega
      refine ldNf hr (by omega) (by omega) ?_
      refine ldNf (ht.ahead ha) (by omega) (by omega) ?_
      intro w2 ha2
      have e8 : IntKind.i64.wrap ((j : Int) + 1) = ((j + 1 : Nat) : Int) := by rw [wrap_i64 (by omega) (by omega)]; omega
      exact br_false (by simp) ⟨⟨rfl, rfl, ha.trans ha2, hr.ahead ha2, j + 1, e8, hj'⟩, by rw [e8]; omega⟩
    · exact ⟨ha, rfl⟩

theorem Int_spec {w : World} {v : Nat} (hv : v < 9223372036854775808) :
    Calls pr surdref01_Int_id #[.int .i64 (v : Int)] w fun e w' => Ahead w w' ∧ ∃ s', e = .returned (Slc.v s') ∧ RN w' s' v := by
  have hB := B64v
  refine surdref01_Int_vc _ w _ ?_
  rw [wrap_u64' (by omega) (by omega)]
  have hal := Ahead.alloc w (.cells #[Value.int .u64 (v : Int)] tU64 (0, 0))
  have hlit : Rd .u64 (w.alloc (.cells #[Value.int .u64 (v : Int)] tU64 (0, 0))) ⟨some ⟨w.heap.size, 0, none⟩, 1, 1⟩ (nn [v]) := Own.rd (t := tU64) (b := w.heap.size) ⟨rfl, [], rfl, by rw [get_alloc]; rfl⟩
  refine Calls.mono (Of_spec hlit (by simp) (by intro y hy; simp at hy; omega)) ?_
  rintro e w2 ⟨ha, s', rfl, hr⟩
  exact ⟨_, rfl, hal.trans ha, _, rfl, by simpa [val] using hr⟩

theorem Fill.norm {w0 w : World} {c : Slc} {l : List Nat} {S : World → Prop} (h : Fill w0 w c l S) (hl : l.length ≤ 2 ^ 46) (hok : ok B32 l) :
    Calls pr surdref01_norm_id #[c.v] w fun e w' => w' = w ∧ ∃ s', e = .returned (Slc.v s') ∧ RN w s' (val B32 l) := norm_spec h.rd hl hok

theorem Fill.normN {w0 w : World} {c : Slc} {l : List Nat} {S : World → Prop} (h : Fill w0 w c l S) (hl : l.length ≤ 2 ^ 46) (hok : ok B32 l) :
    Calls pr surdref01_norm_id #[c.v] w fun e w' => w' = w ∧ ∃ s', e = .returned (Slc.v s') ∧ RN w s' (val B32 l) ∧ ∀ ad, s'.A = some ad → w0.heap.size ≤ ad.block :=
  Calls.mono (norm_specA h.rd hl hok) fun e w' ⟨h1, s', h2, h3, hA⟩ => ⟨h1, s', h2, h3, fun ad had => by
    rw [hA] at had
    obtain ⟨b, _, ho, _, hb, _⟩ := h
    rw [ho.A] at had
    obtain rfl := Option.some.inj had
    exact hb⟩

theorem Add_specN {w : World} {p q : Slc} {x y : Nat} (hp : RN w p x) (hq : RN w q y) (la : (digs B32 x).length + 1 ≤ 2 ^ 45) (lb : (digs B32 y).length + 1 ≤ 2 ^ 45) :
    Calls pr surdref01_Add_id #[p.v, q.v] w fun e w' => Ahead w w' ∧ ∃ s', e = .returned (Slc.v s') ∧ RN w' s' (x + y) ∧ ∀ ad, s'.A = some ad → w.heap.size ≤ ad.block := by
  have hB32 := B32v
  have hna := hp.n
  have hnb := hq.n
  have oa := ok_digs two32 x
  have ob := ok_digs two32 y
  have vx := val_digs two32 x
  have vy := val_digs two32 y
  unfold RN at hp hq
  generalize digs B32 x = A at *
  generalize digs B32 y = C at *
  refine surdref01_Add_vc p q w _ (fun s t n out k i w' => s = p ∧ t = q ∧ ∃ (m : Nat) (l : List Nat) (j cr : Nat), n = (m : Int) ∧ A.length ≤ m ∧ C.length ≤ m ∧ m + 1 ≤ 2 ^ 45 ∧ k = (cr : Int) ∧ cr ≤ 1 ∧ i = (j : Int) ∧ j ≤ m + 1 ∧
    Fill w w' out l (fun _ => True) ∧ l.length = m + 1 ∧ ok B32 l ∧ val B32 (l.take j) + cr * B32 ^ j = val B32 (A.take j) + val B32 (C.take j)) (fun _ _ n _ _ i _ => (n + 1 - i).toNat) ?_ ?_
  · refine br_intro (fun hlt => ?_) (fun hlt => ?_)
    · rw [wrap_i64 (x := (q.n : Int) + 1) (by omega) (by omega)]
      refine mkF (S := fun _ => True) (w0 := w) (by omega) (by omega) (Ahead.refl _) trivial ?_
      intro s w1 hsn hf ha
      refine ⟨rfl, rfl, q.n, _, 0, 0, rfl, by simp at hlt; omega, by omega, by omega, rfl, by omega, rfl, Nat.zero_le _, hf, by rw [List.length_replicate]; omega, ok_replicate (by omega) _, by simp [val]⟩
    · rw [wrap_i64 (x := (p.n : Int) + 1) (by omega) (by omega)]
      refine mkF (S := fun _ => True) (w0 := w) (by omega) (by omega) (Ahead.refl _) trivial ?_
      intro s w1 hsn hf ha
      refine ⟨rfl, rfl, p.n, _, 0, 0, rfl, by omega, by simp at hlt; omega, by omega, rfl, by omega, rfl, Nat.zero_le _, hf, by rw [List.length_replicate]; omega, ok_replicate (by omega) _, by simp [val]⟩
  · rintro s t n out k i w1 ⟨rfl, rfl, m, l, j, cr, rfl, hA, hC, hm, rfl, hcr, rfl, hj, hf, hl, ol, hv⟩
    refine br_intro (fun hlt => ?_) (fun hge => ?_)
    · have hj' : j < m + 1 := by simp at hlt; omega
      refine Calls.mono (at_spec (hp.ahead hf.base) (by omega)) ?_
      rintro e w2 ⟨rfl, rfl⟩
      refine ⟨_, rfl, Calls.mono (at_spec (hq.ahead hf.base) (by omega)) ?_⟩
      rintro e w3 ⟨rfl, rfl⟩
      refine ⟨_, rfl, ?_⟩
      simp only [Int.toNat_natCast]
      have hx := ok_getD oa (by omega : 0 < B32) j
      have hy := ok_getD ob (by omega : 0 < B32) j
      have e8 : IntKind.i64.wrap ((j : Int) + 1) = ((j + 1 : Nat) : Int) := by rw [wrap_i64 (by omega) (by omega)]; omega
      have t1 := val_take_succ' A j (B := B32)
      have t2 := val_take_succ' C j (B := B32)
      generalize A.getD j 0 = a at *
      generalize C.getD j 0 = c at *
      have e1 : IntKind.u64.wrap (IntKind.u64.wrap ((a : Int) + (c : Int)) + (cr : Int)) = ((a + c + cr : Nat) : Int) := by
        rw [wrap_u64' (x := (a : Int) + c) (by omega) (by omega), wrap_u64' (by omega) (by omega)]; omega
      have e2 : Int.tmod ((a + c + cr : Nat) : Int) 4294967296 = (((a + c + cr) % B32 : Nat) : Int) := by rw [Int.tmod_eq_emod_of_nonneg (by omega), hB32]; omega
      have e3 : IntKind.u64.wrap (Int.tdiv ((a + c + cr : Nat) : Int) 4294967296) = (((a + c + cr) / B32 : Nat) : Int) := by
        have : Int.tdiv ((a + c + cr : Nat) : Int) 4294967296 = (((a + c + cr) / 4294967296 : Nat) : Int) := by rw [Int.tdiv_eq_ediv_of_nonneg (by omega)]; omega
        rw [this, wrap_u64' (by omega) (by omega), hB32]
      rw [e1, e2, e3]
      refine stF hf (by omega) (by omega) ?_
      intro w5 hf5
      simp only [Int.toNat_natCast] at hf5
      refine ⟨⟨by trivial, by trivial, m, _, j + 1, (a + c + cr) / B32, rfl, hA, hC, hm, rfl, ?_, e8, hj', hf5, by simpa using hl, ok_set ol (Nat.mod_lt _ (by omega)), ?_⟩, by rw [e8]; omega⟩
      · rw [hB32]; omega
      · rw [val_take_set _ _ _ (by omega), t1, t2, Nat.pow_succ]
        exact add_step (by have := Nat.mod_add_div (a + c + cr) B32; omega) hv
    · have hj' : j = m + 1 := by simp at hge; omega
      subst hj'
      rw [val_take_all l (by omega), val_take_all A (by omega), val_take_all C (by omega), vx, vy] at hv
      have h1 : x < B32 ^ m := by rw [← vx]; exact Nat.lt_of_lt_of_le (val_lt oa) (Nat.pow_le_pow_right (by omega) hA)
      have h2 : y < B32 ^ m := by rw [← vy]; exact Nat.lt_of_lt_of_le (val_lt ob) (Nat.pow_le_pow_right (by omega) hC)
      have h3 : cr = 0 := by
        rcases Nat.lt_or_ge cr 1 with h | h
        · omega
        · have hc1 : cr = 1 := by omega
          subst hc1
          have : 2 * B32 ^ m ≤ B32 ^ (m + 1) := by rw [Nat.pow_succ, Nat.mul_comm]; exact Nat.mul_le_mul_left _ (by omega)
          omega
      subst h3
      have hv' : val B32 l = x + y := by omega
      refine Calls.mono (Fill.normN hf (by omega) ol) ?_
      rintro e w6 ⟨rfl, s', rfl, hr, hA⟩
      rw [hv'] at hr
      exact ⟨_, rfl, hf.base, _, rfl, hr, hA⟩
theorem Add_spec {w : World} {p q : Slc} {x y : Nat} (hp : RN w p x) (hq : RN w q y) (la : (digs B32 x).length + 1 ≤ 2 ^ 45) (lb : (digs B32 y).length + 1 ≤ 2 ^ 45) :
    Calls pr surdref01_Add_id #[p.v, q.v] w fun e w' => Ahead w w' ∧ ∃ s', e = .returned (Slc.v s') ∧ RN w' s' (x + y) :=
  Calls.mono (Add_specN hp hq la lb) fun e w' ⟨h1, s', h2, h3, _⟩ => ⟨h1, s', h2, h3⟩

theorem Sub_specN {w : World} {p q : Slc} {x y : Nat} (hp : RN w p x) (hq : RN w q y) (hle : y ≤ x) (la : (digs B32 x).length ≤ 2 ^ 45) :
    Calls pr surdref01_Sub_id #[p.v, q.v] w fun e w' => Ahead w w' ∧ ∃ s', e = .returned (Slc.v s') ∧ RN w' s' (x - y) ∧ ∀ ad, s'.A = some ad → w.heap.size ≤ ad.block := by
  have hB32 := B32v
  have hna := hp.n
  have hnb := hq.n
  have oa := ok_digs two32 x
  have ob := ok_digs two32 y
  have vx := val_digs two32 x
  have vy := val_digs two32 y
  have hlen : (digs B32 y).length ≤ (digs B32 x).length := by
    rcases Nat.lt_or_ge (digs B32 x).length (digs B32 y).length with h | h
    · have := digs_len_lt two32 h; omega
    · exact h
  unfold RN at hp hq
  generalize digs B32 x = A at *
  generalize digs B32 y = C at *
  refine surdref01_Sub_vc p q w _ (fun s t out k n i w' => s = p ∧ t = q ∧ n = (A.length : Int) ∧ ∃ (l : List Nat) (j cr : Nat), k = (cr : Int) ∧ cr ≤ 1 ∧ i = (j : Int) ∧ j ≤ A.length ∧
    Fill w w' out l (fun _ => True) ∧ l.length = A.length ∧ ok B32 l ∧ val B32 (l.take j) + val B32 (C.take j) = val B32 (A.take j) + cr * B32 ^ j) (fun _ _ _ _ n i _ => (n - i).toNat) ?_ ?_
  · refine mkF (S := fun _ => True) (w0 := w) (by omega) (by omega) (Ahead.refl _) trivial ?_
    intro s w1 hsn hf ha
    refine ⟨rfl, rfl, by rw [hna], _, 0, 0, rfl, by omega, rfl, Nat.zero_le _, hf, by rw [List.length_replicate]; omega, ok_replicate (by omega) _, by simp [val]⟩
  · rintro s t out k n i w1 ⟨rfl, rfl, rfl, l, j, cr, rfl, hcr, rfl, hj, hf, hl, ol, hv⟩
    refine br_intro (fun hlt => ?_) (fun hge => ?_)
    · have hj' : j < A.length := by simp at hlt; omega
      refine ldNf ((hp.ahead hf.base).ahead (Ahead.drew _)) (by omega) (by omega) ?_
      refine Calls.mono (at_spec ((hq.ahead hf.base).ahead (Ahead.drew _)) (by omega)) ?_
      rintro e w4 ⟨rfl, rfl⟩
      have ha4 : Ahead w1 w1.drew := Ahead.drew _
      refine ⟨_, rfl, Ahead.refl _, ?_⟩
      simp only [Int.toNat_natCast]
      have hx := ok_getD oa (by omega : 0 < B32) j
      have hy := ok_getD ob (by omega : 0 < B32) j
      have e8 : IntKind.i64.wrap ((j : Int) + 1) = ((j + 1 : Nat) : Int) := by rw [wrap_i64 (by omega) (by omega)]; omega
      have t1 := val_take_succ' A j (B := B32)
      have t2 := val_take_succ' C j (B := B32)
      generalize A.getD j 0 = a at *
      generalize C.getD j 0 = c at *
      have e1 : IntKind.u64.wrap (IntKind.u64.wrap (IntKind.u64.wrap ((a : Int) + 4294967296) - (c : Int)) - (cr : Int)) = ((a + 4294967296 - c - cr : Nat) : Int) := by
        rw [wrap_u64' (x := (a : Int) + 4294967296) (by omega) (by omega), wrap_u64' (x := (a : Int) + 4294967296 - c) (by omega) (by omega), wrap_u64' (by omega) (by omega)]; omega
      have e2 : Int.tmod ((a + 4294967296 - c - cr : Nat) : Int) 4294967296 = (((a + 4294967296 - c - cr) % B32 : Nat) : Int) := by rw [Int.tmod_eq_emod_of_nonneg (by omega), hB32]; omega
      have e3 : IntKind.u64.wrap (1 - IntKind.u64.wrap (Int.tdiv ((a + 4294967296 - c - cr : Nat) : Int) 4294967296)) = ((if a < c + cr then 1 else 0 : Nat) : Int) := by
        have : Int.tdiv ((a + 4294967296 - c - cr : Nat) : Int) 4294967296 = (((a + 4294967296 - c - cr) / 4294967296 : Nat) : Int) := by rw [Int.tdiv_eq_ediv_of_nonneg (by omega)]; omega
        rw [this, wrap_u64' (x := (((a + 4294967296 - c - cr) / 4294967296 : Nat) : Int)) (by omega) (by omega), wrap_u64' (by omega) (by omega)]
        split <;> omega
      rw [e1, e2, e3]
      refine stF (hf.ahead ha4) (by omega) (by omega) ?_
      intro w5 hf5
      simp only [Int.toNat_natCast] at hf5
      refine ⟨⟨by trivial, by trivial, by trivial, _, j + 1, if a < c + cr then 1 else 0, rfl, by split <;> omega, e8, hj', hf5, by simpa using hl, ok_set ol (Nat.mod_lt _ (by omega)), ?_⟩, by rw [e8]; omega⟩
      rw [val_take_set _ _ _ (by omega), t1, t2, Nat.pow_succ]
      refine sub_step ?_ hv
      rw [hB32]
      rw [hB32] at hx hy
      split <;> omega
    · have hj' : j = A.length := by simp at hge; omega
      subst hj'
      rw [val_take_all l (by omega), val_take_all A (by omega), val_take_all C (by omega), vx, vy] at hv
      have hlt := val_lt ol
      rw [hl] at hlt
      have h3 : cr = 0 := by
        rcases Nat.lt_or_ge cr 1 with h | h
        · omega
        · have hc1 : cr = 1 := by omega
          subst hc1
          omega
      subst h3
      have hv' : val B32 l = x - y := by omega
      refine Calls.mono (Fill.normN hf (by omega) ol) ?_
      rintro e w6 ⟨rfl, s', rfl, hr, hA⟩
      rw [hv'] at hr
      exact ⟨_, rfl, hf.base, _, rfl, hr, hA⟩
theorem Sub_spec {w : World} {p q : Slc} {x y : Nat} (hp : RN w p x) (hq : RN w q y) (hle : y ≤ x) (la : (digs B32 x).length ≤ 2 ^ 45) :
    Calls pr surdref01_Sub_id #[p.v, q.v] w fun e w' => Ahead w w' ∧ ∃ s', e = .returned (Slc.v s') ∧ RN w' s' (x - y) :=
  Calls.mono (Sub_specN hp hq hle la) fun e w' ⟨h1, s', h2, h3, _⟩ => ⟨h1, s', h2, h3⟩

end Ref
end Go.Proofs.YtlkjgafnjmfgiaaDoor
namespace Go.Proofs.YtlkjgafnjmfgiaaDoor
open Go Go.RowKit Eng Sp Dg
set_option linter.unusedVariables false
set_option linter.unusedSimpArgs false
set_option maxRecDepth 100000
namespace Ref
open _root_.Go.Proofs.YtlkjgafnjmfgiaaDoor.Nat (ldN ldNf stN mkN cutHi cutCap Fill mkF stF stFf Num OwnNil semShl semShr fixShl)

theorem tdiv32 {n : Int} (h0 : 0 ≤ n) (h1 : n ≤ 9223372036854775807) : IntKind.i64.wrap (Int.tdiv n 32) = ((n.toNat / 32 : Nat) : Int) := by
  have : Int.tdiv n 32 = ((n.toNat / 32 : Nat) : Int) := by rw [Int.tdiv_eq_ediv_of_nonneg h0]; omega
  rw [this, wrap_i64 (by omega) (by omega)]
theorem tmod32 {n : Int} (h0 : 0 ≤ n) : Int.tmod n 32 = ((n.toNat % 32 : Nat) : Int) := by rw [Int.tmod_eq_emod_of_nonneg h0]; omega

theorem Shl_spec {w : World} {p : Slc} {x : Nat} {n : Int} (hp : RN w p x) (h0 : 0 ≤ n) (h1 : n ≤ 9223372036854775807) (la : (digs B32 x).length + n.toNat / 32 + 1 ≤ 2 ^ 45) :
    Calls pr surdref01_Shl_id #[p.v, .int .i64 n] w fun e w' => Ahead w w' ∧ ∃ s', e = .returned (Slc.v s') ∧ RN w' s' (x * 2 ^ n.toNat) := by
  have hB32 := B32v
  have hB := B64v
  have hna := hp.n
  have oa := ok_digs two32 x
  have vx := val_digs two32 x
  have hp2 : (2 ^ 32) ^ (n.toNat / 32) * 2 ^ (n.toNat % 32) = 2 ^ n.toNat := (pow_split n.toNat 32).symm
  have hw : n.toNat % 32 < 32 := Nat.mod_lt _ (by omega)
  have h32 : B32 = 2 ^ 32 := rfl
  unfold RN at hp
  have hz0 : digs B32 x = [] → x = 0 := fun h => by rw [h] at vx; exact vx.symm
  generalize digs B32 x = A at *
  refine surdref01_Shl_vc p n w _ (fun t1 out t6 t21 t22 t23 w' => t1 = n ∧ t6 = ((n.toNat % 32 : Nat) : Int) ∧ t21 = p ∧ t22 = (A.length : Int) ∧ ∃ (l : List Nat) (j : Nat), t23 = (j : Int) ∧ j ≤ A.length ∧
    Fill w w' out l (fun _ => True) ∧ l.length = A.length + n.toNat / 32 + 1 ∧ ok B32 l ∧ val B32 l = val B32 (A.take j) * (B32 ^ (n.toNat / 32) * 2 ^ (n.toNat % 32))) (fun _ _ _ _ n i _ => (n - i).toNat) ?_ ?_
  · refine br_intro (fun hz => ?_) (fun hz => ?_)
    · have hx := hz0 (List.eq_nil_of_length_eq_zero (by simp at hz; omega))
      subst hx
      exact ⟨Ahead.refl _, _, rfl, by rw [Nat.zero_mul]; exact RN.nil⟩
    · rw [tdiv32 h0 h1, tmod32 h0, wrap_i64 (x := (p.n : Int) + _) (by omega) (by omega), wrap_i64 (x := (p.n : Int) + _ + 1) (by omega) (by omega)]
      refine mkF (S := fun _ => True) (w0 := w) (by omega) (by omega) (Ahead.refl _) trivial ?_
      intro s w1 hsn hf ha
      refine ⟨rfl, rfl, rfl, by rw [hna], _, 0, rfl, Nat.zero_le _, hf, by rw [List.length_replicate]; omega, ok_replicate (by omega) _, ?_⟩
      rw [val_replicate]; simp [val]
  · rintro t1 out t6 t21 t22 t23 w1 ⟨rfl, rfl, rfl, rfl, l, j, rfl, hj, hf, hl, ol, hv⟩
    refine br_intro (fun hlt => ?_) (fun hge => ?_)
    · have hj' : j < A.length := by simp at hlt; omega
      have hfacts := left_facts (w := 32) (l := l) (A := A) (j := j) (wd := t1.toNat / 32) (s := t1.toNat % 32) hw (by omega) oa hj' hv
      have hx := ok_getD oa (by omega : 0 < B32) j
      rw [tdiv32 h0 h1, wrap_i64 (x := (j : Int) + _) (by omega) (by omega), show (j : Int) + ((t1.toNat / 32 : Nat) : Int) = ((t1.toNat / 32 + j : Nat) : Int) by omega,
        wrap_i64 (x := ((t1.toNat / 32 + j : Nat) : Int) + 1) (by omega) (by omega), show ((t1.toNat / 32 + j : Nat) : Int) + 1 = ((t1.toNat / 32 + j + 1 : Nat) : Int) by omega]
      refine ldN (hp.ahead hf.base) (by omega) (by omega) ?_
      refine ldNf hf.rd (by omega) (by omega) ?_
      rw [Int.toNat_natCast, Int.toNat_natCast]
      refine fixShl (by omega) ?_
      have hp4 : 2 ^ (t1.toNat % 32) ≤ 2 ^ 31 := Nat.pow_le_pow_right (by omega) (by omega)
      have hprod : A.getD j 0 * 2 ^ (t1.toNat % 32) < B64 := by
        have : A.getD j 0 * 2 ^ (t1.toNat % 32) ≤ 4294967296 * 2 ^ 31 := Nat.mul_le_mul (by omega) hp4
        omega
      rw [Nat.mod_eq_of_lt hprod]
      have hlo := shl_lo (A.getD j 0) (t1.toNat % 32) 32 (by omega)
      have hmul : l.getD (t1.toNat / 32 + j) 0 + A.getD j 0 * 2 ^ (t1.toNat % 32) % 2 ^ 32 < 2 ^ 32 := by
        rw [hlo]
        have e : 2 ^ (t1.toNat % 32) * 2 ^ (32 - t1.toNat % 32) = 2 ^ 32 := by rw [← Nat.pow_add]; congr 1; omega
        have hm : A.getD j 0 % 2 ^ (32 - t1.toNat % 32) + 1 ≤ 2 ^ (32 - t1.toNat % 32) := Nat.mod_lt _ (Nat.pow_pos (by omega))
        have := Nat.mul_le_mul_left (2 ^ (t1.toNat % 32)) hm
        rw [Nat.mul_add, e] at this
        have := hfacts.1
        omega
      have e1 : IntKind.u64.wrap (((l.getD (t1.toNat / 32 + j) 0 : Nat) : Int) + Int.tmod ((A.getD j 0 * 2 ^ (t1.toNat % 32) : Nat) : Int) 4294967296) = ((l.getD (t1.toNat / 32 + j) 0 + A.getD j 0 * 2 ^ (t1.toNat % 32) % 2 ^ 32 : Nat) : Int) := by
        generalize A.getD j 0 * 2 ^ (t1.toNat % 32) = v at *
        rw [Int.tmod_eq_emod_of_nonneg (by omega)]
        rw [wrap_u64' (by omega) (by omega)]; omega
      rw [e1]
      refine stFf hf (Ahead.drew _) (by omega) (by omega) ?_
      intro w3 hf3
      rw [Int.toNat_natCast] at hf3
      refine semShl (by omega) ?_
      rw [Nat.mod_eq_of_lt hprod]
      have e3 : IntKind.u64.wrap (Int.tdiv ((A.getD j 0 * 2 ^ (t1.toNat % 32) : Nat) : Int) 4294967296) = ((A.getD j 0 * 2 ^ (t1.toNat % 32) / 2 ^ 32 : Nat) : Int) := by
        generalize A.getD j 0 * 2 ^ (t1.toNat % 32) = v at *
        have : Int.tdiv (v : Int) 4294967296 = ((v / 2 ^ 32 : Nat) : Int) := by rw [Int.tdiv_eq_ediv_of_nonneg (by omega)]; omega
        rw [this, wrap_u64' (by omega) (by omega)]
      rw [e3]
      have hhi : A.getD j 0 * 2 ^ (t1.toNat % 32) / 2 ^ 32 < B32 := by
        rw [shl_hi _ _ _ (by omega)]
        exact Nat.lt_of_le_of_lt (Nat.div_le_self _ _) hx
      refine stF hf3 (by omega) (by simp; omega) ?_
      intro w6 hf6
      rw [Int.toNat_natCast] at hf6
      have e8 : IntKind.i64.wrap ((j : Int) + 1) = ((j + 1 : Nat) : Int) := by rw [wrap_i64 (by omega) (by omega)]; omega
      exact ⟨⟨rfl, rfl, rfl, rfl, _, j + 1, e8, hj', hf6, by simpa using hl, ok_set (ok_set ol hmul) hhi, left_step (w := 32) hw (by omega) oa hj' hv rfl rfl⟩, by rw [e8]; omega⟩
    · have hj' : j = A.length := by simp at hge; omega
      subst hj'
      rw [List.take_length, vx] at hv
      have hv' : val B32 l = x * 2 ^ t1.toNat := by rw [hv, ← hp2, h32]
      refine Calls.mono (Fill.norm hf (by omega) ol) ?_
      rintro e w6 ⟨rfl, s', rfl, hr⟩
      rw [hv'] at hr
      exact ⟨_, rfl, hf.base, _, rfl, hr⟩

theorem shr_digit (U s : Nat) (hs : s < 32) : (U % 2 ^ 32 + 2 ^ 32 * (U / 2 ^ 32 % 2 ^ 32)) / 2 ^ s % 2 ^ 32 = U / 2 ^ s % 2 ^ 32 := by
  have e1 : 2 ^ 32 * 2 ^ 32 = 2 ^ s * 2 ^ (64 - s) := by rw [← Nat.pow_add, ← Nat.pow_add]; congr 1; omega
  have e2 : 2 ^ (64 - s) = 2 ^ 32 * 2 ^ (32 - s) := by rw [← Nat.pow_add]; congr 1; omega
  have e3 : U % 2 ^ 32 + 2 ^ 32 * (U / 2 ^ 32 % 2 ^ 32) = U % (2 ^ s * 2 ^ (64 - s)) := by rw [← e1]; exact (Nat.mod_mul).symm
  rw [e3, Nat.mod_mul_right_div_self, e2, Nat.mod_mul_right_mod]

theorem Shr_specN {w : World} {p : Slc} {x : Nat} {n : Int} (hp : RN w p x) (h0 : 0 ≤ n) (h1 : n ≤ 9223372036854775807) (la : (digs B32 x).length ≤ 2 ^ 45) :
    Calls pr surdref01_Shr_id #[p.v, .int .i64 n] w fun e w' => Ahead w w' ∧ ∃ s', e = .returned (Slc.v s') ∧ RN w' s' (x / 2 ^ n.toNat) ∧ ∀ ad, s'.A = some ad → w.heap.size ≤ ad.block := by
  have hB32 := B32v
  have hB := B64v
  have hna := hp.n
  have oa := ok_digs two32 x
  have vx := val_digs two32 x
  have h32 : B32 = 2 ^ 32 := rfl
  have hp2 : B32 ^ (n.toNat / 32) * 2 ^ (n.toNat % 32) = 2 ^ n.toNat := (pow_split n.toNat 32).symm
  have hw : n.toNat % 32 < 32 := Nat.mod_lt _ (by omega)
  unfold RN at hp
  generalize digs B32 x = A at *
  refine surdref01_Shr_vc p n w _ (fun t0 t1 out t6 t23 t24 w' => t0 = p ∧ t1 = n ∧ t6 = ((n.toNat % 32 : Nat) : Int) ∧ t23 = ((A.length - n.toNat / 32 : Nat) : Int) ∧ n.toNat / 32 < A.length ∧ ∃ (l : List Nat) (j : Nat), t24 = (j : Int) ∧ j ≤ A.length - n.toNat / 32 ∧
    Fill w w' out l (fun _ => True) ∧ l.length = A.length - n.toNat / 32 ∧ ok B32 l ∧ ∀ i, i < j → l.getD i 0 = x / 2 ^ n.toNat / B32 ^ i % B32) (fun _ _ _ _ n i _ => (n - i).toNat) ?_ ?_
  · rw [tdiv32 h0 h1, tmod32 h0]
    refine br_intro (fun hz => ?_) (fun hz => ?_)
    · have hz' : A.length ≤ n.toNat / 32 := by simp at hz; omega
      have hv : x / 2 ^ n.toNat = 0 := by
        apply Nat.div_eq_of_lt
        rw [← vx, ← hp2]
        refine Nat.lt_of_lt_of_le (val_lt oa) (Nat.le_trans (Nat.pow_le_pow_right (by omega) hz') ?_)
        exact Nat.le_mul_of_pos_right _ (Nat.pow_pos (by omega))
      exact ⟨Ahead.refl _, _, rfl, by rw [hv]; exact RN.nil, fun ad h => by cases h⟩
    · have hz' : n.toNat / 32 < A.length := by simp at hz; omega
      rw [wrap_i64 (x := (p.n : Int) - _) (by omega) (by omega), show (p.n : Int) - ((n.toNat / 32 : Nat) : Int) = ((A.length - n.toNat / 32 : Nat) : Int) by omega]
      refine mkF (S := fun _ => True) (w0 := w) (by omega) (by omega) (Ahead.refl _) trivial ?_
      intro s w1 hsn hf ha
      exact ⟨rfl, rfl, rfl, by rw [hsn]; simp, hz', _, 0, rfl, Nat.zero_le _, hf, by simp, ok_replicate (by omega) _, fun i hi => by omega⟩
  · rintro t0 t1 out t6 t23 t24 w1 ⟨rfl, rfl, rfl, rfl, hz, l, j, rfl, hj, hf, hl, ol, hd⟩
    refine br_intro (fun hlt => ?_) (fun hge => ?_)
    · have hj' : j < A.length - t1.toNat / 32 := by simp at hlt; omega
      have hx := ok_getD oa (by omega : 0 < B32) (t1.toNat / 32 + j)
      have hy := ok_getD oa (by omega : 0 < B32) (t1.toNat / 32 + j + 1)
      rw [tdiv32 h0 h1, wrap_i64 (x := (j : Int) + _) (by omega) (by omega), show (j : Int) + ((t1.toNat / 32 : Nat) : Int) = ((t1.toNat / 32 + j : Nat) : Int) by omega,
        wrap_i64 (x := ((t1.toNat / 32 + j : Nat) : Int) + 1) (by omega) (by omega), show ((t1.toNat / 32 + j : Nat) : Int) + 1 = ((t1.toNat / 32 + j + 1 : Nat) : Int) by omega]
      refine ldNf ((hp.ahead hf.base).ahead (Ahead.drew _)) (by omega) (by omega) ?_
      refine Calls.mono (at_spec ((hp.ahead hf.base).ahead (Ahead.drew _)) (by omega)) ?_
      rintro e w4 ⟨rfl, rfl⟩
      have ha4 : Ahead w1 w1.drew := Ahead.drew _
      refine ⟨_, rfl, Ahead.refl _, ?_⟩
      simp only [Int.toNat_natCast]
      have e1 : IntKind.u64.wrap (((A.getD (t1.toNat / 32 + j) 0 : Nat) : Int) + IntKind.u64.wrap (((A.getD (t1.toNat / 32 + j + 1) 0 : Nat) : Int) * 4294967296)) = ((A.getD (t1.toNat / 32 + j) 0 + B32 * A.getD (t1.toNat / 32 + j + 1) 0 : Nat) : Int) := by
        generalize A.getD (t1.toNat / 32 + j) 0 = a at *
        generalize A.getD (t1.toNat / 32 + j + 1) 0 = b at *
        rw [hB32] at *
        rw [wrap_u64' (x := (b : Int) * 4294967296) (by omega) (by omega), wrap_u64' (by omega) (by omega)]; omega
      rw [e1]
      refine semShr (by omega) ?_
      have e2 : ∀ v : Nat, Int.tmod (v : Int) 4294967296 = ((v % B32 : Nat) : Int) := fun v => by rw [Int.tmod_eq_emod_of_nonneg (by omega), hB32]; omega
      rw [e2]
      refine stF (hf.ahead ha4) (by omega) (by omega) ?_
      intro w7 hf7
      rw [Int.toNat_natCast] at hf7
      have e8 : IntKind.i64.wrap ((j : Int) + 1) = ((j + 1 : Nat) : Int) := by rw [wrap_i64 (by omega) (by omega)]; omega
      refine ⟨⟨by trivial, by trivial, by trivial, by trivial, hz, _, j + 1, e8, hj', hf7, by simpa using hl, ok_set ol (Nat.mod_lt _ (by omega)), fun i hi => ?_⟩, by rw [e8]; omega⟩
      rw [getD_set _ _ _ _ (by omega)]
      split
      · rename_i hij
        subst hij
        rw [digit (by omega : 0 < B32) A oa (t1.toNat / 32 + j), digit (by omega : 0 < B32) A oa (t1.toNat / 32 + j + 1), vx, ← hp2, Nat.pow_succ, h32, div_pow_add, ← Nat.div_div_eq_div_mul, ← Nat.div_div_eq_div_mul]
        exact shr_digit _ _ hw
      · exact hd i (by omega)
    · have hj' : j = A.length - t1.toNat / 32 := by simp at hge; omega
      subst hj'
      have hv : val B32 l = x / 2 ^ t1.toNat := by
        refine val_of_digits (by omega) l _ ?_ (fun i hi => hd i (by omega))
        rw [Nat.div_lt_iff_lt_mul (Nat.pow_pos (by omega)), ← hp2, ← Nat.mul_assoc, hl, ← Nat.pow_add, show A.length - t1.toNat / 32 + t1.toNat / 32 = A.length by omega, ← vx]
        exact Nat.lt_of_lt_of_le (val_lt oa) (Nat.le_mul_of_pos_right _ (Nat.pow_pos (by omega)))
      refine Calls.mono (norm_specA hf.rd (by omega) ol) ?_
      rintro e w6 ⟨rfl, s', rfl, hr, hA⟩
      rw [hv] at hr
      refine ⟨_, rfl, hf.base, _, rfl, hr, fun ad had => ?_⟩
      rw [hA] at had
      obtain ⟨b, _, ho, _, hb, _⟩ := hf
      rw [ho.A] at had
      obtain rfl := Option.some.inj had
      exact hb

theorem len_mono {B x y : Nat} (hB : 2 ≤ B) (h : x ≤ y) : (digs B x).length ≤ (digs B y).length := by
  rcases Nat.lt_or_ge (digs B y).length (digs B x).length with h1 | h1
  · have := digs_len_lt hB h1; omega
  · exact h1

def A5 : Nat := 10855845
def lent (l : List Nat) : List Nat := A5 :: A5 :: (l ++ [A5, A5])

/-- What Lend hands out: the whole row, and the part in its middle. -/
def Lent (base : Nat) (w : World) (s t : Slc) (l : List Nat) : Prop :=
  ∃ b, base ≤ b ∧ s.c = l.length + 4 ∧ Own .u64 tU64 w s (nn (lent l)) b ∧ t = ⟨some ⟨b, 2, none⟩, l.length, l.length + 2⟩
theorem Lent.whole {base : Nat} {w : World} {s t : Slc} {l : List Nat} (h : Lent base w s t l) : Rd .u64 w s (nn (lent l)) := by
  obtain ⟨b, _, _, ho, _⟩ := h; exact ho.rd
theorem Lent.ahead {base : Nat} {w w' : World} {s t : Slc} {l : List Nat} (h : Lent base w s t l) (ha : Ahead w w') : Lent base w' s t l := by
  obtain ⟨b, h1, h2, h3, h4⟩ := h
  exact ⟨b, h1, h2, h3.ahead ha, h4⟩

end Ref
end Go.Proofs.YtlkjgafnjmfgiaaDoor
namespace Go.Proofs.YtlkjgafnjmfgiaaDoor
open Go Go.RowKit Eng
set_option linter.unusedVariables false

set_option maxRecDepth 100000 in
/-- surd/surdlaw08.num: function 22. -/
theorem surdlaw08_num_vc (a0_e : Int) (w : World) (R : Ending → World → Prop)
    
    (h : R (.returned (Value.int .i64 a0_e)) w) :
    Calls Tryd.prog 22 #[Value.int .i64 a0_e] w R := by
  refine calls_of_vc (fun _ => none) (by kernel_rfl) Tryd.func22 rfl ?_ ?_
  · refine kcast h ?_; kernel_rfl
  · exact (obl_seq rfl (obl_reg (obl_seq rfl (obl_reg (obl_ret trivial)))))

set_option maxRecDepth 100000 in
/-- surd/surdlaw08.awake: function 7. -/
theorem surdlaw08_awake_vc  (w : World) (R : Ending → World → Prop)
    
    (h : newC w #[Value.int .u64 12] 57 fun ad1 w1 =>
    Calls Tryd.prog 21 #[Value.agg #[Value.bool false, (⟨some ad1, 1, 1⟩ : Slc).v], Value.int .i64 (-3)] w1 fun e1 w2 =>
    ∃ b1 : Bool, ∃ s1 : Slc, ∃ x1 : Int, ∃ x2 : Int, e1 = .returned (Value.tuple #[Value.agg #[Value.bool b1, s1.v, Value.int .i64 x1], Value.int .i64 x2]) ∧
    (newC w2 #[Value.bool false, (⟨none, 0, 0⟩ : Slc).v, Value.int .i64 0] 29 fun ad2 w3 =>
     stC ad2 (Value.bool b1) w3 fun w4 =>
     stC (ad2.add 1) s1.v w4 fun w5 =>
     stC (ad2.add 2) (Value.int .i64 x1) w5 fun w6 =>
     Calls Tryd.prog 22 #[Value.int .i64 x2] w6.drew fun e2 w7 =>
     ∃ x3 : Int, e2 = .returned (Value.int .i64 x3) ∧
     (Ahead w6.drew w7 ∧
      (br (x3 == 0)
       (ldB ad2 w7 fun b2 =>
        ldS (ad2.add 1) w7 fun s2 =>
        ldI .i64 (ad2.add 2) w7 fun x4 =>
        Calls Tryd.prog 15 #[Value.int .i64 3, Value.int .i64 (-1)] w7 fun e3 w8 =>
        ∃ b3 : Bool, ∃ s3 : Slc, ∃ x5 : Int, e3 = .returned (Value.agg #[Value.bool b3, s3.v, Value.int .i64 x5]) ∧
        (Ahead w7 w8 ∧
         (Calls Tryd.prog 23 #[Value.agg #[Value.bool b3, s3.v, Value.int .i64 x5], Value.bool b2, s2.v, Value.int .i64 x4] w8 fun e4 w9 =>
          ∃ b4 : Bool, e4 = .returned (Value.bool b4) ∧
          (Ahead w8 w9 ∧
           (R (.returned (Value.bool b4)) w9)))))
       (R (.returned (Value.bool false)) w7))))) :
    Calls Tryd.prog 7 #[] w R := by
  refine calls_of_vc (fun _ => none) (by kernel_rfl) Tryd.func7 rfl ?_ ?_
  · refine kcast h ?_; kernel_rfl
  · exact (obl_seq rfl (obl_reg (obl_seq rfl (obl_reg (obl_seq rfl (obl_held (by kernel_rfl) (by kernel_rfl) (by kernel_rfl) (obl_ret trivial)))))))

set_option maxRecDepth 100000 in
/-- surd/surdlaw08.of: function 5. -/
theorem surdlaw08_of_vc (a0_a_0 : Bool) (a0_a_1 : Slc) (a0_a_2 : Int) (w : World) (R : Ending → World → Prop)
    
    (h : newC w #[Value.bool a0_a_0, a0_a_1.v, Value.int .i64 a0_a_2] 24 fun ad1 w1 =>
    newC w1 #[Value.bool false, (⟨none, 0, 0⟩ : Slc).v, Value.int .i64 0] 35 fun ad2 w2 =>
    ldI .i64 (ad1.add 2) w2 fun x1 =>
    Calls Tryd.prog 18 #[Value.int .i64 x1] w2 fun e1 w3 =>
    ∃ b1 : Bool, e1 = .returned (Value.bool b1) ∧
    (br (!b1)
     (stC ad2 (Value.bool false) w3 fun w4 =>
      stC (ad2.add 1) ((⟨none, 0, 0⟩ : Slc).v) w4 fun w5 =>
      stC (ad2.add 2) (Value.int .i64 0) w5 fun w6 =>
      ldB ad2 w6 fun b2 =>
      ldS (ad2.add 1) w6 fun s1 =>
      ldI .i64 (ad2.add 2) w6 fun x2 =>
      R (.returned (Value.tuple #[Value.agg #[Value.bool b2, s1.v, Value.int .i64 x2], Value.bool false])) w6)
     (ldB ad1 w3.drew fun b3 =>
      ldS (ad1.add 1) w3.drew fun s2 =>
      ldI .i64 (ad1.add 2) w3.drew fun x3 =>
      Calls Tryd.prog 20 #[Value.bool b3, s2.v] w3.drew fun e2 w7 =>
      ∃ b4 : Bool, ∃ s3 : Slc, e2 = .returned (Value.agg #[Value.bool b4, s3.v]) ∧
      (Ahead w3.drew w7 ∧
       (Calls Tryd.prog 19 #[Value.agg #[Value.bool b4, s3.v], Value.int .i64 x3] w7 fun e3 w8 =>
        ∃ b5 : Bool, ∃ s4 : Slc, ∃ x4 : Int, e3 = .returned (Value.agg #[Value.bool b5, s4.v, Value.int .i64 x4]) ∧
        (Ahead w7 w8 ∧
         (stC ad2 (Value.bool b5) w8 fun w9 =>
          stC (ad2.add 1) s4.v w9 fun w10 =>
          stC (ad2.add 2) (Value.int .i64 x4) w10 fun w11 =>
          ldB ad2 w11 fun b6 =>
          ldS (ad2.add 1) w11 fun s5 =>
          ldI .i64 (ad2.add 2) w11 fun x5 =>
          R (.returned (Value.tuple #[Value.agg #[Value.bool b6, s5.v, Value.int .i64 x5], Value.bool true])) w11))))))) :
    Calls Tryd.prog 5 #[Value.agg #[Value.bool a0_a_0, a0_a_1.v, Value.int .i64 a0_a_2]] w R := by
  refine calls_of_vc (fun _ => none) (by kernel_rfl) Tryd.func5 rfl ?_ ?_
  · refine kcast h ?_; kernel_rfl
  · exact (obl_seq rfl (obl_reg (obl_seq rfl (obl_seq rfl (obl_reg (obl_cond (obl_seq rfl (obl_reg (obl_ret (obl_skip (obl_seq rfl (obl_held (by kernel_rfl) (by kernel_rfl) (by kernel_rfl) (obl_ret trivial)))))))))))))

set_option maxRecDepth 100000 in
/-- surd/surdlaw08.fit: function 6. -/
theorem surdlaw08_fit_vc (a0_k : Int) (w : World) (R : Ending → World → Prop)
    
    (h : br (decide (a0_k ≥ (-1099511627776)))
    (R (.returned (Value.bool (decide (a0_k ≤ 1099511627776)))) w)
    (R (.returned (Value.bool false)) w)) :
    Calls Tryd.prog 6 #[Value.int .i64 a0_k] w R := by
  refine calls_of_vc (fun _ => none) (by kernel_rfl) Tryd.func6 rfl ?_ ?_
  · refine kcast h ?_; kernel_rfl
  · exact (obl_seq rfl (obl_reg (obl_seq rfl (obl_reg (obl_ret trivial)))))

set_option maxRecDepth 100000 in
/-- surd/surdlaw08.in: function 4. -/
theorem surdlaw08_in_vc (a0_a_0 : Bool) (a0_a_1 : Slc) (a0_a_2 : Int) (w : World) (R : Ending → World → Prop)
    
    (h : newC w #[Value.bool a0_a_0, a0_a_1.v, Value.int .i64 a0_a_2] 24 fun ad1 w1 =>
    newC w1 #[Value.bool false, (⟨none, 0, 0⟩ : Slc).v, Value.int .i64 0] 29 fun ad2 w2 =>
    ldB ad1 w2 fun b1 =>
    ldS (ad1.add 1) w2 fun s1 =>
    ldI .i64 (ad1.add 2) w2 fun x1 =>
    stC ad2 (Value.bool b1) w2 fun w3 =>
    stC (ad2.add 1) s1.v w3 fun w4 =>
    stC (ad2.add 2) (Value.int .i64 x1) w4 fun w5 =>
    ldB ad2 w5 fun b2 =>
    ldS (ad2.add 1) w5 fun s2 =>
    ldI .i64 (ad2.add 2) w5 fun x2 =>
    R (.returned (Value.agg #[Value.bool b2, s2.v, Value.int .i64 x2])) w5) :
    Calls Tryd.prog 4 #[Value.agg #[Value.bool a0_a_0, a0_a_1.v, Value.int .i64 a0_a_2]] w R := by
  refine calls_of_vc (fun _ => none) (by kernel_rfl) Tryd.func4 rfl ?_ ?_
  · refine kcast h ?_; kernel_rfl
  · exact (obl_seq rfl (obl_reg (obl_seq rfl (obl_reg (obl_ret trivial)))))

set_option maxRecDepth 100000 in
/-- surd/surdlaw08.read: function 11. -/
theorem surdlaw08_read_vc (a0_a_0 : Bool) (a0_a_1 : Slc) (a0_a_2 : Int) (w : World) (R : Ending → World → Prop)
    
    (h : newC w #[Value.bool a0_a_0, a0_a_1.v, Value.int .i64 a0_a_2] 29 fun ad1 w1 =>
    newC w1 #[Value.bool false, (⟨none, 0, 0⟩ : Slc).v, Value.int .i64 0] 35 fun ad2 w2 =>
    ldB ad1 w2.drew fun b1 =>
    ldS (ad1.add 1) w2.drew fun s1 =>
    ldI .i64 (ad1.add 2) w2.drew fun x1 =>
    Calls Tryd.prog 20 #[Value.bool b1, s1.v] w2.drew fun e1 w3 =>
    ∃ b2 : Bool, ∃ s2 : Slc, e1 = .returned (Value.agg #[Value.bool b2, s2.v]) ∧
    (Ahead w2.drew w3 ∧
     (Calls Tryd.prog 19 #[Value.agg #[Value.bool b2, s2.v], Value.int .i64 x1] w3 fun e2 w4 =>
      ∃ b3 : Bool, ∃ s3 : Slc, ∃ x2 : Int, e2 = .returned (Value.agg #[Value.bool b3, s3.v, Value.int .i64 x2]) ∧
      (Ahead w3 w4 ∧
       (stC ad2 (Value.bool b3) w4 fun w5 =>
        stC (ad2.add 1) s3.v w5 fun w6 =>
        stC (ad2.add 2) (Value.int .i64 x2) w6 fun w7 =>
        ldB ad2 w7 fun b4 =>
        ldS (ad2.add 1) w7 fun s4 =>
        ldI .i64 (ad2.add 2) w7 fun x3 =>
        R (.returned (Value.agg #[Value.bool b4, s4.v, Value.int .i64 x3])) w7))))) :
    Calls Tryd.prog 11 #[Value.agg #[Value.bool a0_a_0, a0_a_1.v, Value.int .i64 a0_a_2]] w R := by
  refine calls_of_vc (fun _ => none) (by kernel_rfl) Tryd.func11 rfl ?_ ?_
  · refine kcast h ?_; kernel_rfl
  · exact (obl_seq rfl (obl_reg (obl_seq rfl (obl_held (by kernel_rfl) (by kernel_rfl) (by kernel_rfl) (obl_ret trivial)))))

set_option maxRecDepth 100000 in
/-- surd/surdlaw08.same: function 13. -/
theorem surdlaw08_same_vc (a0_a_0 : Bool) (a0_a_1 : Slc) (a0_a_2 : Int) (a1_b_0 : Bool) (a1_b_1 : Slc) (a1_b_2 : Int) (w : World) (R : Ending → World → Prop)
    
    (h : newC w #[Value.bool a0_a_0, a0_a_1.v, Value.int .i64 a0_a_2] 29 fun ad1 w1 =>
    newC w1 #[Value.bool a1_b_0, a1_b_1.v, Value.int .i64 a1_b_2] 29 fun ad2 w2 =>
    ldB ad1 w2.drew fun b1 =>
    ldS (ad1.add 1) w2.drew fun s1 =>
    ldB ad2 w2.drew fun b2 =>
    ldS (ad2.add 1) w2.drew fun s2 =>
    Calls Tryd.prog 20 #[Value.bool b1, s1.v] w2.drew fun e1 w3 =>
    ∃ b3 : Bool, ∃ s3 : Slc, e1 = .returned (Value.agg #[Value.bool b3, s3.v]) ∧
    (Ahead w2.drew w3 ∧
     (Calls Tryd.prog 33 #[Value.agg #[Value.bool b3, s3.v], Value.bool b2, s2.v] w3 fun e2 w4 =>
      ∃ b4 : Bool, e2 = .returned (Value.bool b4) ∧
      (Ahead w3 w4 ∧
       (br b4
        (ldI .i64 (ad1.add 2) w4 fun x1 =>
         ldI .i64 (ad2.add 2) w4 fun x2 =>
         R (.returned (Value.bool (x1 == x2))) w4)
        (R (.returned (Value.bool false)) w4)))))) :
    Calls Tryd.prog 13 #[Value.agg #[Value.bool a0_a_0, a0_a_1.v, Value.int .i64 a0_a_2], Value.agg #[Value.bool a1_b_0, a1_b_1.v, Value.int .i64 a1_b_2]] w R := by
  refine calls_of_vc (fun _ => none) (by kernel_rfl) Tryd.func13 rfl ?_ ?_
  · refine kcast h ?_; kernel_rfl
  · exact (obl_seq rfl (obl_reg (obl_seq rfl (obl_held (by kernel_rfl) (by kernel_rfl) (by kernel_rfl) (obl_ret trivial)))))

def surdlaw08_all_cut (J0 : Slc → Int → Int → World → Prop) (m0 : Slc → Int → Int → World → Nat) : Nat → Option ((Act → World → Prop) × (Act → World → Nat))
  | 0 => some (fun a_ w_ => atSz a_ 15 (atS a_ 5 fun t5 => atI .i64 a_ 6 fun t6 => atI .i64 a_ 7 fun t7 => J0 t5 t6 t7 w_), fun a_ w_ => mS a_ 5 fun t5 => mI a_ 6 fun t6 => mI a_ 7 fun t7 => m0 t5 t6 t7 w_)
  | _ => none

set_option maxRecDepth 100000 in
/-- surd/surdlaw08.all: function 10. -/
theorem surdlaw08_all_vc (a0_l : Slc) (w : World) (R : Ending → World → Prop)
    (J0 : Slc → Int → Int → World → Prop) (m0 : Slc → Int → Int → World → Nat)
    (h : J0 a0_l (a0_l.n : Int) 0 w)
    (h0 : ∀ (t5 : Slc) (t6 : Int) (t7 : Int) (w_ : World), J0 t5 t6 t7 w_ → 
    br (decide (t7 < t6))
    (semA Tryd.prog (Instr.indexAt 68 t5.v (Value.int .i64 t7)) w_ fun ad1 w1 =>
     ldI .i64 ad1 w1 fun x1 =>
     Calls Tryd.prog 22 #[Value.int .i64 x1] w1 fun e1 w2 =>
     ∃ x2 : Int, e1 = .returned (Value.int .i64 x2) ∧
     (br (x2 != 0)
      (R (.returned (Value.bool false)) w2)
      (J0 t5 t6 (IntKind.i64.wrap (t7 + 1)) w2 ∧
       m0 t5 t6 (IntKind.i64.wrap (t7 + 1)) w2 < m0 t5 t6 t7 w_)))
    (R (.returned (Value.bool true)) w_)) :
    Calls Tryd.prog 10 #[a0_l.v] w R := by
  refine calls_of_vc (surdlaw08_all_cut J0 m0) (by kernel_rfl) Tryd.func10 rfl ?_ ?_
  · refine kcast h ?_; kernel_rfl
  · exact (obl_seq rfl (obl_reg (obl_seq rfl (obl_seq rfl (obl_reg (obl_loop _ rfl (fun a_ w_ hL_ => (by
    obtain ⟨hz_, hd_, hL_⟩ := atSz_out hL_
    obtain ⟨t5, h5_, hL_⟩ := atS_out hL_
    obtain ⟨t6, h6_, hL_⟩ := atI_out hL_
    obtain ⟨t7, h7_, hL_⟩ := atI_out hL_
    obtain ⟨g0, rfl⟩ : ∃ g, a_ = Fr 15 [(5, t5.v), (6, Value.int .i64 t6), (7, Value.int .i64 t7)] g := ⟨_, fr_of hz_ hd_ [(5, t5.v), (6, Value.int .i64 t6), (7, Value.int .i64 t7)] (sel_cons h5_ (sel_cons h6_ (sel_cons h7_ sel_nil)))⟩
    clear hz_ hd_ h5_ h6_ h7_
    have hJ0_ := hL_
    refine ⟨(fun _ => none), kcast (h0 t5 t6 t7 w_ hJ0_) ?_, ?_⟩
    · kernel_rfl
    · exact (obl_seq rfl (obl_reg (obl_seq rfl (obl_cond (obl_skip (obl_exit (obl_seq rfl (obl_blk rfl (obl_seq rfl (obl_reg (obl_seq rfl (obl_reg (obl_cond (obl_seq rfl (obl_reg (obl_ret (obl_skip (obl_reg trivial)))))))))))))))))))) (obl_seq rfl (obl_reg (obl_ret trivial)))))))))

set_option maxRecDepth 100000 in
/-- surd/surdlaw08.at: function 14. -/
theorem surdlaw08_at_vc (a0_d_0 : Bool) (a0_d_1 : Slc) (a0_d_2 : Int) (a1_pos : Int) (w : World) (R : Ending → World → Prop)
    
    (h : newC w #[Value.bool a0_d_0, a0_d_1.v, Value.int .i64 a0_d_2] 35 fun ad1 w1 =>
    ldB ad1 w1 fun b1 =>
    ldS (ad1.add 1) w1 fun s1 =>
    Calls Tryd.prog 29 #[Value.agg #[Value.bool b1, s1.v]] w1 fun e1 w2 =>
    ∃ x1 : Int, e1 = .returned (Value.int .i64 x1) ∧
    (br (x1 == 0)
     (R (.returned (Value.bool true)) w2)
     (ldI .i64 (ad1.add 2) w2 fun x2 =>
      R (.returned (Value.bool (decide (x2 ≥ a1_pos)))) w2))) :
    Calls Tryd.prog 14 #[Value.agg #[Value.bool a0_d_0, a0_d_1.v, Value.int .i64 a0_d_2], Value.int .i64 a1_pos] w R := by
  refine calls_of_vc (fun _ => none) (by kernel_rfl) Tryd.func14 rfl ?_ ?_
  · refine kcast h ?_; kernel_rfl
  · exact (obl_seq rfl (obl_reg (obl_seq rfl (obl_reg (obl_ret trivial)))))

end Go.Proofs.YtlkjgafnjmfgiaaDoor
namespace Go.Proofs.YtlkjgafnjmfgiaaDoor
open Go Go.RowKit Eng Sp Dg
set_option linter.unusedVariables false
set_option linter.unusedSimpArgs false
set_option maxRecDepth 100000
namespace Dy
open _root_.Go.Proofs.YtlkjgafnjmfgiaaDoor.Nat (ldN ldNf stF stFf mkF Fill OwnNil Num Num.bl OwnNil.mono bigC rightC right_num Norm_spec Length_spec len_num semShr fixShl orI_nat digs_len_bl)
open Sb

theorem tdivN {n : Nat} (h : n ≤ 9223372036854775807) : IntKind.i64.wrap (Int.tdiv (n : Int) 64) = ((n / 64 : Nat) : Int) := by
  have : Int.tdiv (n : Int) 64 = ((n / 64 : Nat) : Int) := by rw [Int.tdiv_eq_ediv_of_nonneg (by omega)]; omega
  rw [this, wrap_i64 (by omega) (by omega)]
theorem tmodN (n : Nat) : IntKind.u64.wrap (Int.tmod (n : Int) 64) = ((n % 64 : Nat) : Int) := by
  rw [Int.tmod_eq_emod_of_nonneg (by omega), wrap_u64]; omega

set_option maxHeartbeats 1000000 in
theorem shifted_spec {w : World} {a : Slc} {x k : Nat} (ra : Rd .u64 w a (nn (digs B64 x))) (na : (digs B64 x).length ≤ 2 ^ 44) (hk : k < bl x) :
    Calls pr dyadic_shifted_id #[a.v, .int .i64 (k : Int)] w fun e w' => Ahead w w' ∧ ∃ s, e = .returned (Slc.v s) ∧ OwnNil w.heap.size w' s (digs B64 (x / 2 ^ k)) := by
  have hB := B64v
  have h64 : B64 = 2 ^ 64 := rfl
  have hA0 := val_digs two64 x
  have hoA := ok_digs two64 x
  have hbl := bl_len hoA
  rw [hA0] at hbl
  have hw : k % 64 < 64 := Nat.mod_lt _ (by omega)
  have hp2 : B64 ^ (k / 64) * 2 ^ (k % 64) = 2 ^ k := (pow_split k 64).symm
  have hnum : Num w a x := ⟨_, ra, na, hoA, hA0⟩
  have hna : a.n = (digs B64 x).length := by rw [ra.n, nn_length]
  generalize digs B64 x = A at *
  have hk64 : k / 64 < A.length := by omega
  refine dyadic_shifted_vc a k w _ (fun t0 t7 t8 t9 t31 t32 w' => t0 = a ∧ t7 = ((k / 64 : Nat) : Int) ∧ t8 = ((k % 64 : Nat) : Int) ∧ t31 = ((A.length - k / 64 : Nat) : Int) ∧ ∃ (l : List Nat) (j : Nat), t32 = (j : Int) ∧ j ≤ A.length - k / 64 ∧
    Fill w w' t9 l (fun w' => Rd .u64 w' a (nn A)) ∧ l.length = A.length - k / 64 ∧ ok B64 l ∧ ∀ i, i < j → l.getD i 0 = x / 2 ^ k / B64 ^ i % B64) (fun _ _ _ _ n i _ => (n - i).toNat) ?_ ?_
  · refine Calls.mono (right_num hnum (n := (k : Int))) ?_
    rintro e w1 ⟨h1, s, rfl, os⟩
    have ek : ((k : Int)).toNat = k := by omega
    rw [ek] at os
    refine ⟨_, _, rfl, br_intro (fun hc => ?_) (fun hc => ?_)⟩
    · have hc0 : rightC x (k : Int) = 0 := by simpa using hc
      rw [if_pos hc0] at os
      exact ⟨h1, s, rfl, os⟩
    · rw [tdivN (by omega), tmodN, hna, wrap_i64 (by omega) (by omega), show (A.length : Int) - ((k / 64 : Nat) : Int) = ((A.length - k / 64 : Nat) : Int) by omega]
      refine mkF (w0 := w) (S := fun w' => Rd .u64 w' a (nn A)) (by omega) (by omega) h1 (ra.ahead h1) ?_
      intro c w3 hcn hf ha
      exact ⟨rfl, rfl, rfl, by rw [hcn]; simp, _, 0, rfl, Nat.zero_le _, hf, by simp, ok_replicate (by omega) _, fun i hi => by omega⟩
  · rintro t0 t7 t8 t9 t31 t32 w' ⟨rfl, rfl, rfl, rfl, l, j, rfl, hj, hf, hl, ol, hd⟩
    have hS := hf.src (fun _ h hs => Rd.ahead hs h)
    have hN : ∀ i, x / 2 ^ k / B64 ^ i % B64 = A.getD (k / 64 + i) 0 / 2 ^ (k % 64) + 2 ^ (64 - k % 64) * (A.getD (k / 64 + i + 1) 0 % 2 ^ (k % 64)) := by
      intro i
      rw [digit (by omega : 0 < B64) A hoA (k / 64 + i), digit (by omega : 0 < B64) A hoA (k / 64 + i + 1), hA0, ← hp2]
      rw [h64, div_pow_add, right_digit _ _ _ _ hw]
      congr 2
      generalize x / (2 ^ 64) ^ (k / 64 + i + 1) = U
      rw [show 2 ^ 64 = 2 ^ (k % 64) * 2 ^ (64 - k % 64) by rw [← Nat.pow_add]; congr 1; omega, Nat.mod_mul_right_mod]
    refine br_intro (fun hlt => ?_) (fun hge => ?_)
    · have hj' : j < A.length - k / 64 := by simp at hlt; omega
      have hx := ok_getD hoA (by omega : 0 < B64) (k / 64 + j)
      have hN' := hN j
      have e8 : IntKind.i64.wrap ((j : Int) + 1) = ((j + 1 : Nat) : Int) := by rw [wrap_i64 (by omega) (by omega)]; omega
      rw [wrap_i64 (x := (j : Int) + ((k / 64 : Nat) : Int)) (by omega) (by omega), show (j : Int) + ((k / 64 : Nat) : Int) = ((k / 64 + j : Nat) : Int) by omega,
        wrap_i64 (x := ((k / 64 + j : Nat) : Int) + 1) (by omega) (by omega), show ((k / 64 + j : Nat) : Int) + 1 = ((k / 64 + j + 1 : Nat) : Int) by omega]
      refine ldN hS (by omega) (by omega) ?_
      refine semShr (by omega) ?_
      simp only [Int.toNat_natCast]
      have hq : A.getD (k / 64 + j) 0 / 2 ^ (k % 64) < B64 := Nat.lt_of_le_of_lt (Nat.div_le_self _ _) hx
      have hvlt : x / 2 ^ k / B64 ^ j % B64 < B64 := Nat.mod_lt _ (by omega)
      refine stF hf (by omega) (by omega) ?_
      intro w6 hf6
      simp only [Int.toNat_natCast] at hf6
      have fin : ∀ {w7 : World}, Fill w w7 t9 (l.set j (x / 2 ^ k / B64 ^ j % B64)) (fun w' => Rd .u64 w' t0 (nn A)) →
          (True ∧ True ∧ True ∧ True ∧ ∃ (l : List Nat) (j' : Nat), IntKind.i64.wrap ((j : Int) + 1) = (j' : Int) ∧ j' ≤ A.length - k / 64 ∧
            Fill w w7 t9 l (fun w' => Rd .u64 w' t0 (nn A)) ∧ l.length = A.length - k / 64 ∧ ok B64 l ∧ ∀ i, i < j' → l.getD i 0 = x / 2 ^ k / B64 ^ i % B64) ∧
          (((A.length - k / 64 : Nat) : Int) - IntKind.i64.wrap ((j : Int) + 1)).toNat < (((A.length - k / 64 : Nat) : Int) - (j : Int)).toNat := by
        intro w7 hf7
        refine ⟨⟨trivial, trivial, trivial, trivial, _, j + 1, e8, by omega, hf7, by simpa using hl, ok_set ol hvlt, fun i hi => ?_⟩, by rw [e8]; omega⟩
        rw [getD_set _ _ _ _ (by omega)]
        split
        · rename_i h; subst h; rfl
        · exact hd i (by omega)
      refine br_intro (fun hs => br_intro (fun hin => ?_) (fun hin => ?_)) (fun hs => ?_)
      · have hs1 : 0 < k % 64 := by simp at hs; omega
        have hin' : k / 64 + j + 1 < A.length := by simp at hin; omega
        have hS6 := hf6.src (fun _ h hs => Rd.ahead hs h)
        refine ldNf hf6.rd (by omega) (by simp; omega) ?_
        refine ldNf hS6 (by omega) (by omega) ?_
        simp only [Int.toNat_natCast]
        rw [show IntKind.u64.wrap (64 - ((k % 64 : Nat) : Int)) = ((64 - k % 64 : Nat) : Int) by rw [wrap_u64' (by omega) (by omega)]; omega]
        refine fixShl (by omega) ?_
        rw [getD_set _ _ _ _ (by omega), if_pos rfl, orI_nat hq (Nat.mod_lt _ (by omega))]
        have e5 : A.getD (k / 64 + j + 1) 0 * 2 ^ (64 - k % 64) % B64 = 2 ^ (64 - k % 64) * (A.getD (k / 64 + j + 1) 0 % 2 ^ (k % 64)) := by
          rw [h64, shl_lo _ _ _ (by omega)]
          congr 3; omega
        have hql : A.getD (k / 64 + j) 0 / 2 ^ (k % 64) < 2 ^ (64 - k % 64) := by
          rw [Nat.div_lt_iff_lt_mul (Nat.pow_pos (by omega)), ← Nat.pow_add, show 64 - k % 64 + k % 64 = 64 by omega]
          exact hx
        rw [e5, or_add hql, ← hN']
        refine stFf hf6 (Ahead.drew _) (by omega) (by simp; omega) ?_
        intro w7 hf7
        simp only [Int.toNat_natCast, List.set_set] at hf7
        exact fin hf7
      · have hin' : A.length ≤ k / 64 + j + 1 := by simp at hin; omega
        rw [getD_ge A 0 hin', Nat.zero_mod, Nat.mul_zero, Nat.add_zero] at hN'
        rw [← hN'] at hf6
        exact fin hf6
      · have hs0 : k % 64 = 0 := by simp at hs; omega
        have : x / 2 ^ k / B64 ^ j % B64 = A.getD (k / 64 + j) 0 / 2 ^ (k % 64) := by rw [hN', hs0]; simp [Nat.mod_one]
        rw [← this] at hf6
        exact fin hf6
    · have hj' : j = A.length - k / 64 := by simp at hge; omega
      subst hj'
      have hv : val B64 l = x / 2 ^ k := by
        refine val_of_digits (by omega) l _ ?_ (fun i hi => hd i (by omega))
        rw [Nat.div_lt_iff_lt_mul (Nat.pow_pos (by omega)), ← hp2, ← Nat.mul_assoc, hl, ← Nat.pow_add, show A.length - k / 64 + k / 64 = A.length by omega, ← hA0]
        exact Nat.lt_of_lt_of_le (val_lt hoA) (Nat.le_mul_of_pos_right _ (Nat.pow_pos (by omega)))
      refine Calls.mono (Norm_spec hf.rd (by omega) ol) ?_
      rw [hv]
      rintro e w3 ⟨h3, s, rfl, os⟩
      exact ⟨_, rfl, hf.base.trans h3, _, rfl, os.mono hf.base.size⟩

def nD (neg : Bool) (x : Nat) : Bool := neg && decide (x ≠ 0)
def eD (x : Nat) (e : Int) : Int := if x = 0 then 0 else e + tz x
def wi (e : Int) : Prop := -1099511627776 ≤ e ∧ e ≤ 1099511627776
instance (e : Int) : Decidable (wi e) := inferInstanceAs (Decidable (_ ∧ _))
/-- The number of an answer. -/
def tC (x : Nat) (e : Int) : Int := if 67108864 < bl (od x) then 3 else if wi (eD x e) then 0 else 80
/-- An answer: a dyadic in lowest terms, or nothing and a number. -/
def DOut (w : World) (code : Int) (neg : Bool) (x : Nat) (e : Int) (en : Ending) (w' : World) : Prop := Ahead w w' ∧ ∃ s, en = .returned (.tuple #[.agg (c3 (if code = 0 then nD neg x else false) s (if code = 0 then eD x e else 0)), .int .i64 code]) ∧
  OwnNil w.heap.size w' s (if code = 0 then digs B64 (od x) else [])
theorem DOut.refused {w w' : World} {code c : Int} {neg : Bool} {x : Nat} {e : Int} (h : Ahead w w') (hc : code = c) (h0 : c ≠ 0) : DOut w code neg x e (.returned (.tuple #[.agg (c3 false ⟨none, 0, 0⟩ 0), .int .i64 c])) w' := by
  subst hc
  exact ⟨h, _, by rw [if_neg h0, if_neg h0], Or.inl ⟨rfl, if_neg h0⟩⟩
theorem DOut.told {w w' : World} {code : Int} {neg : Bool} {x : Nat} {e : Int} {s : Slc} (h : Ahead w w') (hc : code = 0) (ho : OwnNil w.heap.size w' s (digs B64 (od x))) : DOut w code neg x e (.returned (.tuple #[.agg (c3 (nD neg x) s (eD x e)), .int .i64 0])) w' := by
  subst hc
  exact ⟨h, s, rfl, ho⟩
theorem nD_zero (neg : Bool) : nD neg 0 = false := by simp [nD]
theorem nD_ne {neg : Bool} {x : Nat} (h : x ≠ 0) : nD neg x = neg := by simp [nD, h]
theorem nD_od (neg : Bool) (x : Nat) : nD (nD neg x) (od x) = nD neg x := by
  by_cases h : x = 0
  · subst h; simp [nD, od_zero]
  · rw [nD_ne h, nD_ne (od_ne h)]
theorem eD_zero (e : Int) : eD 0 e = 0 := if_pos rfl

theorem within_spec {w : World} {e : Int} : Calls pr dyadic_within_id #[.int .i64 e] w fun en w' => w' = w ∧ en = .returned (.bool (decide (wi e))) := by
  refine dyadic_within_vc e w _ (br_intro (fun h => ⟨rfl, ?_⟩) (fun h => ⟨rfl, ?_⟩))
  · have h1 : -1099511627776 ≤ e := by simpa using h
    congr 2
    simp [wi, h1]
  · have h1 : ¬ -1099511627776 ≤ e := by simpa using h
    congr 2
    simp [wi, h1]

theorem bl_zero_iff {x : Nat} : bl x = 0 ↔ x = 0 := ⟨fun h => by rcases Nat.eq_zero_or_pos x with h1 | h1; exact h1; have := bl_pos (n := x) (by omega); omega, fun h => by rw [h, bl_zero]⟩
def sgn (neg : Bool) (x : Nat) : Int := if x = 0 then 0 else if neg then -1 else 1
theorem Sign_spec {w : World} {neg : Bool} {s : Slc} {x : Nat} (h : Num w s x) : Calls pr whole_Sign_id #[.agg (c2 neg s)] w fun e w' => Ahead w w' ∧ e = .returned (.int .i64 (sgn neg x)) := by
  refine whole_Sign_vc neg s w _ (newC_b fun b w1 hb h1 hs1 B1 => ?_)
  refine ldS_b 1 B1 rfl (Calls.mono (len_num (h.ahead h1)) ?_)
  rintro e w2 ⟨rfl, rfl⟩
  refine ⟨_, rfl, br_intro (fun hz => ?_) (fun hz => ?_)⟩
  · have hx : x = 0 := bl_zero_iff.1 (by simpa using hz)
    exact ⟨h1, by rw [sgn, if_pos hx]⟩
  · have hx : x ≠ 0 := fun e => by rw [e, bl_zero] at hz; simp at hz
    refine ldB_b 0 B1 rfl ?_
    cases neg
    · exact br_false rfl ⟨h1, by rw [sgn, if_neg hx]; rfl⟩
    · exact br_true rfl ⟨h1, by rw [sgn, if_neg hx]; rfl⟩
theorem sgn_zero_iff {neg : Bool} {x : Nat} : sgn neg x = 0 ↔ x = 0 := by
  unfold sgn
  by_cases h : x = 0
  · simp [h]
  · rw [if_neg h]
    cases neg <;> simp [h]
theorem part_sign_spec {w : World} {neg : Bool} {s : Slc} {x : Nat} (h : Num w s x) : Calls pr dyadic_part_sign_id #[.agg (c2 neg s)] w fun e w' => Ahead w w' ∧ e = .returned (.int .i64 (sgn neg x)) := by
  refine dyadic_part_sign_vc neg s w _ (newC_b fun b w1 hb h1 hs1 B1 => ?_)
  refine get2 B1 rfl rfl (Calls.mono (Sign_spec (h.ahead h1)) ?_)
  rintro e w2 ⟨h2, rfl⟩
  exact ⟨_, rfl, h1.trans h2, rfl⟩
theorem part_length_spec {w : World} {neg : Bool} {s : Slc} {x : Nat} (h : Num w s x) : Calls pr dyadic_part_length_id #[.agg (c2 neg s)] w fun e w' => Ahead w w' ∧ e = .returned (.int .i64 (bl x)) := by
  refine dyadic_part_length_vc neg s w _ (newC_b fun b w1 hb h1 hs1 B1 => ?_)
  refine ldS_b 1 B1 rfl (Calls.mono (len_num (h.ahead h1)) ?_)
  rintro e w2 ⟨rfl, rfl⟩
  exact ⟨_, rfl, h1, rfl⟩

theorem odd_spec {w : World} {neg : Bool} {s : Slc} {x : Nat} {e : Int} (hT : Tab w) (h : Num w s x) (he : -4611686018427387904 ≤ e ∧ e ≤ 4611686018427387904) :
    Calls pr dyadic_odd_id #[.agg (c2 neg s), .int .i64 e] w fun en w' => Ahead w w' ∧ ∃ s', en = .returned (.agg (c3 (nD neg x) s' (eD x e))) ∧ OwnNil w.heap.size w' s' (digs B64 (od x)) := by
  refine dyadic_odd_vc neg s e w _ (newC_b fun b1 w1 hb1 h1 hs1 B1 => newC_b fun b2 w2 hb2 h2 hs2 B2 => ?_)
  have B1' := B1.ahead h2
  have h12 := h1.trans h2
  have hne : b2 ≠ b1 := by omega
  have n2 := h.ahead h12
  refine get2 B1' rfl rfl (Calls.mono (Sign_spec n2) ?_)
  rintro en w3 ⟨h3, rfl⟩
  have h13 := h12.trans h3
  have B13 := B1'.ahead h3
  have B23 := B2.ahead h3
  refine ⟨_, rfl, br_intro (fun hz => ?_) (fun hz => ?_)⟩
  · have hx : x = 0 := sgn_zero_iff.1 (by simpa using hz)
    subst hx
    refine ret3 B23 fun w' u _ => ⟨u.ahead h13 (by omega), _, by rw [nD_zero, eD_zero], Or.inl ⟨rfl, by rw [od_zero, digs_zero]⟩⟩
  · have hx : x ≠ 0 := fun e0 => by rw [e0] at hz; simp [sgn] at hz
    obtain ⟨l, ra, na, oa, hv⟩ := h.ahead h13
    refine ldS_b 1 B13 rfl (Calls.mono (Norm_spec ra na oa) ?_)
    rw [hv]
    rintro en w7 ⟨h7, s4, rfl, o4⟩
    have hdl := Nat.len_le oa
    rw [hv] at hdl
    have hbl := Num.bl h
    have htz := tz_lt hx
    refine ⟨_, rfl, stC_b 1 (B13.ahead h7) (by simp) rfl fun w8 u8 C1 => ?_⟩
    have o8 := u8.own o4 (by have := h13.size; have := h3.size; omega)
    have h18 : Ahead w w8 := u8.ahead (h13.trans h7) (by omega)
    have B28 : Blk w8 b2 _ := u8.blk (B23.ahead h7) hne
    refine ldS_b (x := s4) 1 C1 rfl (Calls.mono (Tail_spec (hT.ahead h18) o8.rd (by omega) (ok_digs two64 _)) ?_)
    rw [val_digs two64]
    rintro en w9 ⟨rfl, rfl⟩
    refine ⟨_, rfl, br_intro (fun hk => ?_) (fun hk => ?_)⟩
    · refine ldS_b (x := s4) 1 C1 rfl (Calls.mono (shifted_spec o8.rd (by omega) htz) ?_)
      rintro en w10 ⟨h10, s7, rfl, o7⟩
      have C10 := C1.ahead h10
      refine ⟨_, rfl, stC_b 1 C10 (by simp) rfl fun w11 u11 C11 => ?_⟩
      have hsz := h18.size
      have o11 := u11.own o7 (by have := u8.size; have := h7.size; have := h3.size; omega)
      refine get2 (x := neg) (s := s7) C11 rfl rfl ?_
      have B211 : Blk w11 b2 _ := u11.blk (B28.ahead h10) hne
      refine ret3 B211 fun w' u _ => ?_
      have h11 : Ahead w w11 := u11.ahead (h18.trans h10) (by omega)
      refine ⟨u.ahead h11 (by omega), s7, ?_, (u.own o11 (by have := u8.size; have := h7.size; have := h3.size; omega)).mono hsz⟩
      rw [nD_ne hx, eD, if_neg hx, wrap_i64 (by omega) (by omega)]
    · have hk0 : tz x = 0 := by simp at hk; omega
      refine get2 (x := neg) (s := s4) C1 rfl rfl ?_
      refine ret3 B28 fun w' u _ => ?_
      refine ⟨u.ahead h18 (by omega), s4, ?_, ?_⟩
      · rw [nD_ne hx, eD, if_neg hx, wrap_i64 (by omega) (by omega)]
      · rw [od, hk0, Nat.pow_zero, Nat.div_one]
        exact (u.own o8 (by have := h13.size; have := h3.size; omega)).mono (by have := h13.size; omega)

theorem num_od {w : World} {s : Slc} {x b : Nat} (h : OwnNil b w s (digs B64 (od x))) (hl : (digs B64 x).length ≤ 2 ^ 44) : Num w s (od x) :=
  ⟨_, h.rd, Nat.le_trans (Ref.len_mono two64 (od_le x)) hl, ok_digs two64 _, val_digs two64 _⟩
theorem num_len {w : World} {s : Slc} {x : Nat} (h : Num w s x) : (digs B64 x).length ≤ 2 ^ 44 := by
  obtain ⟨l, _, hl, ol, rfl⟩ := h
  exact Nat.le_trans (Nat.len_le ol) hl

theorem told_spec {w : World} {neg : Bool} {s : Slc} {x : Nat} {e : Int} (hT : Tab w) (h : Num w s x) (he : -4611686018427387904 ≤ e ∧ e ≤ 4611686018427387904) :
    Calls pr dyadic_told_id #[.agg (c2 neg s), .int .i64 e] w (DOut w (tC x e) neg x e) := by
  refine dyadic_told_vc neg s e w _ (newC_b fun b1 w1 hb1 h1 hs1 B1 => newC_b fun b2 w2 hb2 h2 hs2 B2 => ?_)
  have h12 := h1.trans h2
  refine get2 (B1.ahead h2) rfl rfl (Calls.mono (odd_spec (hT.ahead h12) (h.ahead h12) he) ?_)
  rintro en w3 ⟨h3, s2, rfl, o2⟩
  have h13 := h12.trans h3
  have B23 := B2.ahead h3
  refine ⟨_, _, _, rfl, newC_b fun b3 w4 hb3 h4 hs4 B3 => ?_⟩
  have B24 := B23.ahead h4
  refine set3 B3 fun w7 u7 C3 => ?_
  have hle := B23.lt
  have B27 : Blk w7 b2 _ := u7.blk B24 (by omega)
  have h17 : Ahead w w7 := u7.ahead (h13.trans h4) (by have := h13.size; omega)
  have hl := num_len h
  have n7 : Num w7 s2 (od x) := by
    have n4 : Num w4 s2 (od x) := (num_od o2 hl).ahead h4
    obtain ⟨l, r, q⟩ := n4
    exact ⟨l, u7.rd _ _ r, q⟩
  have o7 := u7.own2 o2 h4 (by omega)
  refine get2 (x := nD neg x) (s := s2) C3 rfl rfl (Calls.mono (part_sign_spec n7) ?_)
  rintro en w8 ⟨h8, rfl⟩
  have h18 := h17.trans h8
  have B28 := B27.ahead h8
  have C38 := C3.ahead h8
  have o8 := o7.ahead h8
  have hsz := h12.size
  have hb2 : w.heap.size ≤ b2 := by have := h1.size; omega
  have hbase : w.heap.size ≤ w2.heap.size := h12.size
  refine ⟨_, rfl, br_intro (fun hz => ?_) (fun hz => ?_)⟩
  · have hx : x = 0 := od_zero_iff.1 (sgn_zero_iff.1 (by simpa using hz))
    subst hx
    refine ret3 B28 fun w' u _ => ?_
    have hc : tC 0 e = 0 := by
      rw [tC, od_zero, bl_zero, if_neg (by omega), eD_zero, if_pos (by unfold wi; omega)]
    have := DOut.told (w := w) (w' := w') (neg := neg) (x := 0) (e := e) (s := ⟨none, 0, 0⟩) (u.ahead h18 hb2) hc (Or.inl ⟨rfl, by rw [od_zero, digs_zero]⟩)
    rwa [nD_zero, eD_zero] at this
  · have hx : x ≠ 0 := fun e0 => by rw [e0, od_zero] at hz; simp [sgn] at hz
    refine get2 (x := nD neg x) (s := s2) C38 rfl rfl (Calls.mono (part_length_spec (n7.ahead h8)) ?_)
    rintro en w12 ⟨h12', rfl⟩
    have h112 := h18.trans h12'
    have B212 := B28.ahead h12'
    have C312 := C38.ahead h12'
    refine ⟨_, rfl, br_intro (fun hg => ?_) (fun hg => ?_)⟩
    · refine ret3 B212 fun w' u _ => DOut.refused (u.ahead h112 hb2) ?_ (by omega)
      rw [tC, if_pos (by simp at hg; omega)]
    · refine ldI_b (x := eD x e) 2 C312 rfl (Calls.mono within_spec ?_)
      rintro en w16 ⟨rfl, rfl⟩
      refine ⟨_, rfl, br_intro (fun hw => ?_) (fun hw => ?_)⟩
      · refine ret3 B212 fun w' u _ => DOut.refused (u.ahead h112 hb2) ?_ (by omega)
        rw [tC, if_neg (by simp at hg; omega), if_neg (by simpa using hw)]
      · refine get3 C312 (ret3 B212 fun w' u _ => DOut.told (u.ahead h112 hb2) ?_ ?_)
        · rw [tC, if_neg (by simp at hg; omega), if_pos (by simpa using hw)]
        · refine OwnNil.mono (u.own (o8.ahead h12') ?_) hbase
          omega

theorem read_spec {w : World} {neg : Bool} {s : Slc} {x : Nat} {e : Int} (hT : Tab w) (h : Num w s x) :
    Calls pr dyadic_read_id #[.agg (c3 neg s e)] w (fun en w' => Ahead w w' ∧ ∃ s', en = .returned (.tuple #[.agg (c3 (if wi e then nD neg x else false) s' (if wi e then eD x e else 0)), .int .i64 (if wi e then 0 else 80)]) ∧
      OwnNil w.heap.size w' s' (if wi e then digs B64 (od x) else [])) := by
  refine dyadic_read_vc neg s e w _ (newC_b fun b1 w1 hb1 h1 hs1 B1 => newC_b fun b2 w2 hb2 h2 hs2 B2 => ?_)
  have h12 := h1.trans h2
  have B12 := B1.ahead h2
  have hb : w.heap.size ≤ b2 := by have := h1.size; omega
  refine ldI_b (x := e) 2 B12 rfl (Calls.mono within_spec ?_)
  rintro en w3 ⟨rfl, rfl⟩
  refine ⟨_, rfl, br_intro (fun hw => ?_) (fun hw => ?_)⟩
  · have hw' : ¬ wi e := by simpa using hw
    refine ret3 B2 fun w' u _ => ⟨u.ahead h12 hb, _, ?_, Or.inl ⟨rfl, if_neg hw'⟩⟩
    rw [if_neg hw', if_neg hw', if_neg hw']
  · have hw' : wi e := by simpa using hw
    refine get3 B12 (Calls.mono (odd_spec (hT.ahead h12) (h.ahead h12) (by unfold wi at hw'; omega)) ?_)
    rintro en w7 ⟨h7, s3, rfl, o3⟩
    refine ⟨_, _, _, rfl, ret3 (B2.ahead h7) fun w' u _ => ⟨u.ahead (h12.trans h7) hb, s3, ?_, ?_⟩⟩
    · rw [if_pos hw', if_pos hw', if_pos hw']
    · rw [if_pos hw']
      exact (u.own o3 (by omega)).mono h12.size

theorem Make_spec {w : World} {neg : Bool} {s : Slc} {x : Nat} {e : Int} (hT : Tab w) (h : Num w s x) :
    Calls pr dyadic_Make_id #[.agg (c2 neg s), .int .i64 e] w (DOut w (if wi e then tC x e else 1) neg x e) := by
  refine dyadic_Make_vc neg s e w _ (newC_b fun b1 w1 hb1 h1 hs1 B1 => newC_b fun b2 w2 hb2 h2 hs2 B2 => ?_)
  have h12 := h1.trans h2
  have hb : w.heap.size ≤ b2 := by have := h1.size; omega
  refine Calls.mono within_spec ?_
  rintro en w3 ⟨rfl, rfl⟩
  refine ⟨_, rfl, br_intro (fun hw => ?_) (fun hw => ?_)⟩
  · have hw' : ¬ wi e := by simpa using hw
    exact ret3 B2 fun w' u _ => DOut.refused (u.ahead h12 hb) (if_neg hw') (by omega)
  · have hw' : wi e := by simpa using hw
    rw [if_pos hw']
    refine get2 (B1.ahead h2) rfl rfl (Calls.mono (told_spec (hT.ahead h12) (h.ahead h12) (by unfold wi at hw'; omega)) ?_)
    rintro en w7 ⟨h7, s3, rfl, o3⟩
    exact ⟨_, _, _, _, rfl, ret3 (B2.ahead h7) fun w' u _ => ⟨u.ahead (h12.trans h7) hb, s3, rfl, (u.own o3 (by omega)).mono h12.size⟩⟩

theorem in_spec {w : World} {neg : Bool} {s : Slc} {e : Int} : Calls pr surdlaw08_in_id #[.agg (c3 neg s e)] w fun en w' => Ahead w w' ∧ en = .returned (.agg (c3 neg s e)) := by
  refine surdlaw08_in_vc neg s e w _ (newC_b fun b1 w1 hb1 h1 hs1 B1 => newC_b fun b2 w2 hb2 h2 hs2 B2 => ?_)
  refine get3 (B1.ahead h2) (ret3 B2 fun w' u _ => ⟨u.ahead (h1.trans h2) (by have := h1.size; omega), rfl⟩)

end Dy
end Go.Proofs.YtlkjgafnjmfgiaaDoor
namespace Go.Proofs.YtlkjgafnjmfgiaaDoor
open Go Go.RowKit Eng Sp Dg
open Go.ChangeShapes Go.WideShapes
set_option linter.unusedVariables false
set_option linter.unusedSimpArgs false

theorem open_D {H : Type} {enc : TypeId × Value → H} {P : Program} {W : World} {t e : TypeId} {f0 f1 f2 : Field} {cs : Array Value} {d : DataW H} {ps : List MemPlace} {ts : List TypeId} {ds : List (DataW H)} {j : Nat}
    (ht : P.underlying t = some (.struct #[f0, f1, f2])) (ho : f0.offset = 0 ∧ f1.offset = 1 ∧ f2.offset = 2) (hc : P.cellsOf f0.type = 1 ∧ P.cellsOf f1.type = 1 ∧ P.cellsOf f2.type = 1 ∧ P.cellsOf t = 3)
    (hu : P.underlying f0.type = some .bool ∧ P.underlying f1.type = some (.slice e) ∧ P.underlying f2.type = some (.int .i64)) (he : P.underlying e = some (.int .u64)) (hce : P.cellsOf e = 1) (hb : P.bytesOf e = 8)
    (hsz : (DataW.weightsEach P ts ds).all (· ≤ reachBytes) = true) (htj : ts[j]? = some t) (hdj : ds[j]? = some d)
    (h : DataW.Trod enc P W 0 (fun _ => true) true t (.agg cs) d ps) :
    ∃ (b : Bool) (s : Slc) (x : Int) (l : List Nat), cs = Sb.c3 b s x ∧ Rd .u64 W s (nn l) ∧ ok B64 l ∧ l.length * 8 ≤ 140737488351232 ∧ -9223372036854775808 ≤ x ∧ x ≤ 9223372036854775807 := by
  obtain ⟨fuel, hf⟩ := h
  obtain ⟨y0, y1, y2, n, hx, hl, g0, g1, g2⟩ := Go.Deep.trod_struct3 ht hf
  rw [hc.1, ho.1] at g0
  rw [hc.2.1, ho.2.1] at g1
  rw [hc.2.2.1, ho.2.2] at g2
  rw [hc.2.2.2] at hl
  have hcs : (Value.agg cs).cells = cs := rfl
  rw [hcs] at hl g0 g1 g2
  obtain ⟨hd, _⟩ := Prod.mk.inj hx
  obtain ⟨b, hb0, _⟩ := DataW.trod_bool hu.1 g0
  obtain ⟨x, hx2, _, hw⟩ := DataW.trod_int hu.2.2 g2
  have hx' := wf_i64 hw
  obtain ⟨A, m, c, zs, hs1, hrow, hlen⟩ : ∃ A m c zs, (cs.toList.drop 1).take 1 = [Value.slice A m c] ∧ IsRow .u64 W A m c zs ∧ m * 8 ≤ 140737488351232 := by
    rcases open_ints hu.2.1 he hce g1 with ⟨hs, _⟩ | ⟨a, m, c, zs, hs, _, hl1, hm, hz, hy1, hcell, hwz⟩
    · exact ⟨none, 0, 0, [], hs, .inl ⟨rfl, rfl, rfl, rfl⟩, by omega⟩
    · refine ⟨some a, m, c, zs, hs, .inr ⟨a, rfl, hl1, hm, by simpa using hz, hcell, hwz⟩, ?_⟩
      have hmem : ((zs.take m).length + (zs.drop m).length) * 8 ∈ d.weights P t := by
        rw [hd, hy1]
        simp [DataW.weights, ht, DataW.weightsEach, hu.2.1, hb, lits]
      have := List.all_eq_true.1 hsz _ (DataW.weights_mem_each htj hdj _ hmem)
      have h1 : (zs.take m).length + (zs.drop m).length = zs.length := by simp; omega
      have hz' : zs.length = c := by simpa using hz
      rw [h1, hz'] at this
      have h2 : c * 8 ≤ reachBytes := by simpa using this
      have h3 : reachBytes = 140737488351232 := by decide
      omega
  obtain ⟨l, hll, hr, ho'⟩ := hrow.rd
  refine ⟨b, ⟨A, m, c⟩, x, l, ?_, hr, ho', by omega, hx'.1, hx'.2⟩
  obtain ⟨cl⟩ := cs
  match cl, hl with
  | [a0, a1, a2], _ =>
    simp at hb0 hs1 hx2
    rw [hb0, hs1, hx2]; rfl

/-- The listed table. -/
theorem tab_of {W : World} {rest : List (String × DataW Unit)} (hg : pr.globalNamed "math/bits.deBruijn64tab" = some 0) {t e : TypeId} (hty : (pr.globals[0]?).map (·.type) = some t) (ht : pr.underlying t = some (.array 64 e)) (he : pr.underlying e = some (.int .u8)) (hce : pr.cellsOf e = 1) (hct : pr.cellsOf t = 64)
    (h : laidMet pr (("math/bits.deBruijn64tab", Lib.tabData .u8 (Lib.deBruijn64tab.map fun n : Nat => (n : Int))) :: rest) W) : Dy.Tab W := by
  have h1 := Lib.tabIs_of_head hg hty ht he hce hct h
  intro j hj
  have := h1.cell hg j (by simpa [Lib.deBruijn64tab] using hj)
  rw [this]
  simp [List.getD_eq_getElem?_getD, List.getElem?_map]
  have hj' : j < Lib.deBruijn64tab.length := by simpa [Lib.deBruijn64tab] using hj
  simp [hj']

end Go.Proofs.YtlkjgafnjmfgiaaDoor
namespace Go.Proofs.YtlkjgafnjmfgiaaDoor
open Go Go.RowKit Eng Sp Dg
set_option linter.unusedVariables false
set_option linter.unusedSimpArgs false
set_option maxRecDepth 100000
namespace Dg
theorem bit_digit64 (U s : Nat) (hs : s < 64) : U % 2 ^ 64 / 2 ^ s % 2 = U / 2 ^ s % 2 := by
  have h : (2 : Nat) ^ 64 = 2 ^ s * (2 * 2 ^ (63 - s)) := by rw [← Nat.pow_succ', ← Nat.pow_add]; congr 1; omega
  rw [h, Nat.mod_mul_right_div_self, Nat.mod_mul_right_mod]
end Dg
namespace Nat
open _root_.Go.Proofs.YtlkjgafnjmfgiaaDoor.Dy (tdivN tmodN)

theorem nBit_spec {w : World} {s : Slc} {l : List Nat} {i : Nat} (h : Rd .u64 w s (nn l)) (hl : l.length ≤ 2 ^ 46) (ol : ok B64 l) (hi : i ≤ 9223372036854775807) :
    Calls pr nat_Bit_id #[s.v, .int .i64 (i : Int)] w fun e w' => w' = w ∧ e = .returned (.int .i64 ((val B64 l / 2 ^ i % 2 : Nat) : Int)) := by
  have hn : s.n = l.length := by rw [h.n, nn_length]
  have hB := B64v
  have hp2 : B64 ^ (i / 64) * 2 ^ (i % 64) = 2 ^ i := (pow_split i 64).symm
  have hx : val B64 l / 2 ^ i % 2 = l.getD (i / 64) 0 / 2 ^ (i % 64) % 2 := by
    rw [digit (by omega : 0 < B64) _ ol (i / 64), ← hp2, ← Nat.div_div_eq_div_mul, show B64 = 2 ^ 64 from rfl, bit_digit64 _ _ (Nat.mod_lt _ (by omega))]
  refine nat_Bit_vc s i w _ (br_false (by simp) ?_)
  rw [tdivN (by omega), tmodN]
  refine br_intro (fun hb => ?_) (fun hb => ?_)
  · refine ⟨rfl, ?_⟩
    have hb' : l.length ≤ i / 64 := by simp at hb; omega
    rw [hx, getD_ge _ 0 hb']
    simp
  · have hb' : i / 64 < l.length := by simp at hb; omega
    refine ldN h (by omega) (by omega) ?_
    refine semShr (by omega) ?_
    rw [Int.toNat_natCast]
    have hlt := ok_getD ol (by omega : 0 < B64) (i / 64)
    generalize l.getD (i / 64) 0 = d at *
    have hd : d / 2 ^ (i % 64) < B64 := Nat.lt_of_le_of_lt (Nat.div_le_self _ _) hlt
    rw [show (1 : Int) = ((1 : Nat) : Int) from rfl, andI_nat hd (by omega), Nat.and_one_is_mod, hx, wrap_i64 (by omega) (by omega)]
    exact ⟨rfl, rfl⟩

end Nat
end Go.Proofs.YtlkjgafnjmfgiaaDoor
namespace Go.Proofs.YtlkjgafnjmfgiaaDoor
open Go Go.RowKit Eng
set_option linter.unusedVariables false

set_option maxRecDepth 100000 in
/-- surd/surdref06.Of: function 20. -/
theorem surdref06_Of_vc (a0_neg : Bool) (a1_limbs : Slc) (w : World) (R : Ending → World → Prop)
    
    (h : newC w #[Value.bool false, (⟨none, 0, 0⟩ : Slc).v] 33 fun ad1 w1 =>
    Calls Tryd.prog 41 #[a1_limbs.v] w1 fun e1 w2 =>
    ∃ s1 : Slc, e1 = .returned s1.v ∧
    (Calls Tryd.prog 40 #[Value.bool a0_neg, s1.v] w2 fun e2 w3 =>
     ∃ b1 : Bool, ∃ s2 : Slc, e2 = .returned (Value.agg #[Value.bool b1, s2.v]) ∧
     (stC ad1 (Value.bool b1) w3 fun w4 =>
      stC (ad1.add 1) s2.v w4 fun w5 =>
      ldB ad1 w5 fun b2 =>
      ldS (ad1.add 1) w5 fun s3 =>
      R (.returned (Value.agg #[Value.bool b2, s3.v])) w5))) :
    Calls Tryd.prog 20 #[Value.bool a0_neg, a1_limbs.v] w R := by
  refine calls_of_vc (fun _ => none) (by kernel_rfl) Tryd.func20 rfl ?_ ?_
  · refine kcast h ?_; kernel_rfl
  · exact (obl_seq rfl (obl_reg (obl_seq rfl (obl_reg (obl_ret trivial)))))

set_option maxRecDepth 100000 in
/-- (surd/surdref06.Z).Is: function 33. -/
theorem surdref06_Z_Is_vc (a0_a_0 : Bool) (a0_a_1 : Slc) (a1_neg : Bool) (a2_limbs : Slc) (w : World) (R : Ending → World → Prop)
    
    (h : newC w #[Value.bool a0_a_0, a0_a_1.v] 33 fun ad1 w1 =>
    ldB ad1 w1 fun b1 =>
    br (b1 == a1_neg)
    (ldS (ad1.add 1) w1 fun s1 =>
     Calls Tryd.prog 51 #[s1.v, a2_limbs.v] w1 fun e1 w2 =>
     ∃ b2 : Bool, e1 = .returned (Value.bool b2) ∧
     (R (.returned (Value.bool b2)) w2))
    (R (.returned (Value.bool false)) w1)) :
    Calls Tryd.prog 33 #[Value.agg #[Value.bool a0_a_0, a0_a_1.v], Value.bool a1_neg, a2_limbs.v] w R := by
  refine calls_of_vc (fun _ => none) (by kernel_rfl) Tryd.func33 rfl ?_ ?_
  · refine kcast h ?_; kernel_rfl
  · exact (obl_seq rfl (obl_reg (obl_seq rfl (obl_reg (obl_ret trivial)))))

set_option maxRecDepth 100000 in
/-- surd/surdref06.make1: function 40. -/
theorem surdref06_make1_vc (a0_neg : Bool) (a1_n : Slc) (w : World) (R : Ending → World → Prop)
    
    (h : newC w #[Value.bool false, (⟨none, 0, 0⟩ : Slc).v] 33 fun ad1 w1 =>
    br a0_neg
    (Calls Tryd.prog 46 #[a1_n.v] w1 fun e1 w2 =>
     ∃ b1 : Bool, e1 = .returned (Value.bool b1) ∧
     (stC ad1 (Value.bool (!b1)) w2 fun w3 =>
      stC (ad1.add 1) a1_n.v w3 fun w4 =>
      ldB ad1 w4 fun b2 =>
      ldS (ad1.add 1) w4 fun s1 =>
      R (.returned (Value.agg #[Value.bool b2, s1.v])) w4))
    (stC ad1 (Value.bool false) w1 fun w5 =>
     stC (ad1.add 1) a1_n.v w5 fun w6 =>
     ldB ad1 w6 fun b3 =>
     ldS (ad1.add 1) w6 fun s2 =>
     R (.returned (Value.agg #[Value.bool b3, s2.v])) w6)) :
    Calls Tryd.prog 40 #[Value.bool a0_neg, a1_n.v] w R := by
  refine calls_of_vc (fun _ => none) (by kernel_rfl) Tryd.func40 rfl ?_ ?_
  · refine kcast h ?_; kernel_rfl
  · exact (obl_seq rfl (obl_reg (obl_seq rfl (obl_reg (obl_ret trivial)))))

set_option maxRecDepth 100000 in
/-- surd/surdref08.Int: function 15. -/
theorem surdref08_Int_vc (a0_v : Int) (a1_e : Int) (w : World) (R : Ending → World → Prop)
    
    (h : newC w #[Value.bool false, (⟨none, 0, 0⟩ : Slc).v, Value.int .i64 0] 35 fun ad1 w1 =>
    Calls Tryd.prog 34 #[Value.int .i64 a0_v] w1 fun e1 w2 =>
    ∃ b1 : Bool, ∃ s1 : Slc, e1 = .returned (Value.agg #[Value.bool b1, s1.v]) ∧
    (Calls Tryd.prog 19 #[Value.agg #[Value.bool b1, s1.v], Value.int .i64 a1_e] w2 fun e2 w3 =>
     ∃ b2 : Bool, ∃ s2 : Slc, ∃ x1 : Int, e2 = .returned (Value.agg #[Value.bool b2, s2.v, Value.int .i64 x1]) ∧
     (stC ad1 (Value.bool b2) w3 fun w4 =>
      stC (ad1.add 1) s2.v w4 fun w5 =>
      stC (ad1.add 2) (Value.int .i64 x1) w5 fun w6 =>
      ldB ad1 w6 fun b3 =>
      ldS (ad1.add 1) w6 fun s3 =>
      ldI .i64 (ad1.add 2) w6 fun x2 =>
      R (.returned (Value.agg #[Value.bool b3, s3.v, Value.int .i64 x2])) w6))) :
    Calls Tryd.prog 15 #[Value.int .i64 a0_v, Value.int .i64 a1_e] w R := by
  refine calls_of_vc (fun _ => none) (by kernel_rfl) Tryd.func15 rfl ?_ ?_
  · refine kcast h ?_; kernel_rfl
  · exact (obl_seq rfl (obl_reg (obl_seq rfl (obl_reg (obl_ret trivial)))))

set_option maxRecDepth 100000 in
/-- surd/surdref08.Of: function 19. -/
theorem surdref08_Of_vc (a0_m_0 : Bool) (a0_m_1 : Slc) (a1_e : Int) (w : World) (R : Ending → World → Prop)
    
    (h : newC w #[Value.bool a0_m_0, a0_m_1.v] 33 fun ad1 w1 =>
    newC w1 #[Value.bool false, (⟨none, 0, 0⟩ : Slc).v, Value.int .i64 0] 35 fun ad2 w2 =>
    ldB ad1 w2 fun b1 =>
    ldS (ad1.add 1) w2 fun s1 =>
    Calls Tryd.prog 29 #[Value.agg #[Value.bool b1, s1.v]] w2 fun e1 w3 =>
    ∃ x1 : Int, e1 = .returned (Value.int .i64 x1) ∧
    (br (x1 == 0)
     (stC ad2 (Value.bool false) w3 fun w4 =>
      stC (ad2.add 1) ((⟨none, 0, 0⟩ : Slc).v) w4 fun w5 =>
      stC (ad2.add 2) (Value.int .i64 0) w5 fun w6 =>
      ldB ad2 w6 fun b2 =>
      ldS (ad2.add 1) w6 fun s2 =>
      ldI .i64 (ad2.add 2) w6 fun x2 =>
      R (.returned (Value.agg #[Value.bool b2, s2.v, Value.int .i64 x2])) w6)
     (ldS (ad1.add 1) w3 fun s3 =>
      Calls Tryd.prog 38 #[s3.v] w3 fun e2 w7 =>
      ∃ x3 : Int, e2 = .returned (Value.int .i64 x3) ∧
      (ldB ad1 w7.drew fun b3 =>
       ldS (ad1.add 1) w7.drew fun s4 =>
       Calls Tryd.prog 39 #[s4.v, Value.int .i64 x3] w7.drew fun e3 w8 =>
       ∃ s5 : Slc, e3 = .returned s5.v ∧
       (Ahead w7.drew w8 ∧
        (stC ad2 (Value.bool b3) w8 fun w9 =>
         stC (ad2.add 1) s5.v w9 fun w10 =>
         stC (ad2.add 2) (Value.int .i64 (IntKind.i64.wrap (a1_e + x3))) w10 fun w11 =>
         ldB ad2 w11 fun b4 =>
         ldS (ad2.add 1) w11 fun s6 =>
         ldI .i64 (ad2.add 2) w11 fun x4 =>
         R (.returned (Value.agg #[Value.bool b4, s6.v, Value.int .i64 x4])) w11)))))) :
    Calls Tryd.prog 19 #[Value.agg #[Value.bool a0_m_0, a0_m_1.v], Value.int .i64 a1_e] w R := by
  refine calls_of_vc (fun _ => none) (by kernel_rfl) Tryd.func19 rfl ?_ ?_
  · refine kcast h ?_; kernel_rfl
  · exact (obl_seq rfl (obl_reg (obl_seq rfl (obl_seq rfl (obl_reg (obl_cond (obl_seq rfl (obl_reg (obl_ret (obl_skip (obl_seq rfl (obl_reg (obl_seq rfl (obl_held (by kernel_rfl) (by kernel_rfl) (by kernel_rfl) (obl_ret trivial)))))))))))))))

set_option maxRecDepth 100000 in
/-- (surd/surdref08.D).Is: function 23. -/
theorem surdref08_D_Is_vc (a0_d_0 : Bool) (a0_d_1 : Slc) (a0_d_2 : Int) (a1_neg : Bool) (a2_limbs : Slc) (a3_e : Int) (w : World) (R : Ending → World → Prop)
    
    (h : newC w #[Value.bool a0_d_0, a0_d_1.v, Value.int .i64 a0_d_2] 35 fun ad1 w1 =>
    ldB ad1 w1 fun b1 =>
    ldS (ad1.add 1) w1 fun s1 =>
    Calls Tryd.prog 33 #[Value.agg #[Value.bool b1, s1.v], Value.bool a1_neg, a2_limbs.v] w1 fun e1 w2 =>
    ∃ b2 : Bool, e1 = .returned (Value.bool b2) ∧
    (br b2
     (ldI .i64 (ad1.add 2) w2 fun x1 =>
      R (.returned (Value.bool (x1 == a3_e))) w2)
     (R (.returned (Value.bool false)) w2))) :
    Calls Tryd.prog 23 #[Value.agg #[Value.bool a0_d_0, a0_d_1.v, Value.int .i64 a0_d_2], Value.bool a1_neg, a2_limbs.v, Value.int .i64 a3_e] w R := by
  refine calls_of_vc (fun _ => none) (by kernel_rfl) Tryd.func23 rfl ?_ ?_
  · refine kcast h ?_; kernel_rfl
  · exact (obl_seq rfl (obl_reg (obl_seq rfl (obl_reg (obl_ret trivial)))))

set_option maxRecDepth 100000 in
/-- surd/surdref06.Int: function 34. -/
theorem surdref06_Int_vc (a0_v : Int) (w : World) (R : Ending → World → Prop)
    
    (h : newC w #[Value.bool false, (⟨none, 0, 0⟩ : Slc).v] 33 fun ad1 w1 =>
    br (decide (a0_v < 0))
    (newC w1 #[Value.int .u64 (IntKind.u64.wrap ((IntKind.u64.wrap (IntKind.i64.wrap (0 - (IntKind.i64.wrap (a0_v + 1))))) + 1))] 57 fun ad2 w2 =>
     Calls Tryd.prog 41 #[(⟨some ad2, 1, 1⟩ : Slc).v] w2 fun e1 w3 =>
     ∃ s1 : Slc, e1 = .returned s1.v ∧
     (Calls Tryd.prog 40 #[Value.bool true, s1.v] w3 fun e2 w4 =>
      ∃ b1 : Bool, ∃ s2 : Slc, e2 = .returned (Value.agg #[Value.bool b1, s2.v]) ∧
      (stC ad1 (Value.bool b1) w4 fun w5 =>
       stC (ad1.add 1) s2.v w5 fun w6 =>
       ldB ad1 w6 fun b2 =>
       ldS (ad1.add 1) w6 fun s3 =>
       R (.returned (Value.agg #[Value.bool b2, s3.v])) w6)))
    (Calls Tryd.prog 50 #[Value.int .i64 a0_v] w1 fun e3 w7 =>
     ∃ s4 : Slc, e3 = .returned s4.v ∧
     (Calls Tryd.prog 40 #[Value.bool false, s4.v] w7 fun e4 w8 =>
      ∃ b3 : Bool, ∃ s5 : Slc, e4 = .returned (Value.agg #[Value.bool b3, s5.v]) ∧
      (stC ad1 (Value.bool b3) w8 fun w9 =>
       stC (ad1.add 1) s5.v w9 fun w10 =>
       ldB ad1 w10 fun b4 =>
       ldS (ad1.add 1) w10 fun s6 =>
       R (.returned (Value.agg #[Value.bool b4, s6.v])) w10)))) :
    Calls Tryd.prog 34 #[Value.int .i64 a0_v] w R := by
  refine calls_of_vc (fun _ => none) (by kernel_rfl) Tryd.func34 rfl ?_ ?_
  · refine kcast h ?_; kernel_rfl
  · exact (obl_seq rfl (obl_reg (obl_seq rfl (obl_seq rfl (obl_reg (obl_cond (obl_seq rfl (obl_reg (obl_ret (obl_skip (obl_seq rfl (obl_reg (obl_ret trivial)))))))))))))

set_option maxRecDepth 100000 in
/-- (surd/surdref06.Z).Sign: function 29. -/
theorem surdref06_Z_Sign_vc (a0_a_0 : Bool) (a0_a_1 : Slc) (w : World) (R : Ending → World → Prop)
    
    (h : newC w #[Value.bool a0_a_0, a0_a_1.v] 33 fun ad1 w1 =>
    ldB ad1 w1 fun b1 =>
    br b1
    (R (.returned (Value.int .i64 (-1))) w1)
    (ldS (ad1.add 1) w1 fun s1 =>
     Calls Tryd.prog 46 #[s1.v] w1 fun e1 w2 =>
     ∃ b2 : Bool, e1 = .returned (Value.bool b2) ∧
     (br b2
      (R (.returned (Value.int .i64 0)) w2)
      (R (.returned (Value.int .i64 1)) w2)))) :
    Calls Tryd.prog 29 #[Value.agg #[Value.bool a0_a_0, a0_a_1.v]] w R := by
  refine calls_of_vc (fun _ => none) (by kernel_rfl) Tryd.func29 rfl ?_ ?_
  · refine kcast h ?_; kernel_rfl
  · exact (obl_seq rfl (obl_reg (obl_seq rfl (obl_seq rfl (obl_reg (obl_cond (obl_seq rfl (obl_reg (obl_ret (obl_skip (obl_seq rfl (obl_seq rfl (obl_reg (obl_cond (obl_seq rfl (obl_reg (obl_ret (obl_skip (obl_seq rfl (obl_reg (obl_ret trivial)))))))))))))))))))))

def surdref01_Num_Tail_cut (J0 : Slc → Int → World → Prop) (m0 : Slc → Int → World → Nat) : Nat → Option ((Act → World → Prop) × (Act → World → Nat))
  | 0 => some (fun a_ w_ => atSz a_ 14 (atS a_ 0 fun t0_a => atI .i64 a_ 3 fun t3_n => J0 t0_a t3_n w_), fun a_ w_ => mS a_ 0 fun t0_a => mI a_ 3 fun t3_n => m0 t0_a t3_n w_)
  | _ => none

set_option maxRecDepth 100000 in
/-- (surd/surdref01.Num).Tail: function 38. -/
theorem surdref01_Num_Tail_vc (a0_a : Slc) (w : World) (R : Ending → World → Prop)
    (J0 : Slc → Int → World → Prop) (m0 : Slc → Int → World → Nat)
    (h : br ((a0_a.n : Int) == 0)
    (R (.returned (Value.int .i64 0)) w)
    (J0 a0_a 0 w))
    (h0 : ∀ (t0_a : Slc) (t3_n : Int) (w_ : World), J0 t0_a t3_n w_ → 
    Calls Tryd.prog 54 #[t0_a.v, Value.int .i64 t3_n] w_ fun e1 w1 =>
    ∃ x1 : Int, e1 = .returned (Value.int .i64 x1) ∧
    (br (x1 == 0)
     (J0 t0_a (IntKind.i64.wrap (t3_n + 1)) w1 ∧
      m0 t0_a (IntKind.i64.wrap (t3_n + 1)) w1 < m0 t0_a t3_n w_)
     (R (.returned (Value.int .i64 t3_n)) w1))) :
    Calls Tryd.prog 38 #[a0_a.v] w R := by
  refine calls_of_vc (surdref01_Num_Tail_cut J0 m0) (by kernel_rfl) Tryd.func38 rfl ?_ ?_
  · refine kcast h ?_; kernel_rfl
  · exact (obl_seq rfl (obl_reg (obl_seq rfl (obl_seq rfl (obl_reg (obl_cond (obl_seq rfl (obl_reg (obl_ret (obl_skip (obl_seq rfl (obl_reg (obl_seq rfl (obl_loop _ rfl (fun a_ w_ hL_ => (by
    obtain ⟨hz_, hd_, hL_⟩ := atSz_out hL_
    obtain ⟨t0_a, h0_, hL_⟩ := atS_out hL_
    obtain ⟨t3_n, h3_, hL_⟩ := atI_out hL_
    obtain ⟨g0, rfl⟩ : ∃ g, a_ = Fr 14 [(0, t0_a.v), (3, Value.int .i64 t3_n)] g := ⟨_, fr_of hz_ hd_ [(0, t0_a.v), (3, Value.int .i64 t3_n)] (sel_cons h0_ (sel_cons h3_ sel_nil))⟩
    clear hz_ hd_ h0_ h3_
    have hJ0_ := hL_
    refine ⟨(fun _ => none), kcast (h0 t0_a t3_n w_ hJ0_) ?_, ?_⟩
    · kernel_rfl
    · exact (obl_seq rfl (obl_seq rfl (obl_reg (obl_cond (obl_skip (obl_exit (obl_blk rfl (obl_reg trivial)))))))))) (obl_seq rfl (obl_reg (obl_ret trivial)))))))))))))))))

set_option maxRecDepth 100000 in
/-- surd/surdref08.Fits: function 18. -/
theorem surdref08_Fits_vc (a0_e : Int) (w : World) (R : Ending → World → Prop)
    
    (h : br (decide (a0_e ≥ (-1099511627776)))
    (R (.returned (Value.bool (decide (a0_e ≤ 1099511627776)))) w)
    (R (.returned (Value.bool false)) w)) :
    Calls Tryd.prog 18 #[Value.int .i64 a0_e] w R := by
  refine calls_of_vc (fun _ => none) (by kernel_rfl) Tryd.func18 rfl ?_ ?_
  · refine kcast h ?_; kernel_rfl
  · exact (obl_seq rfl (obl_reg (obl_seq rfl (obl_reg (obl_ret trivial)))))

set_option maxRecDepth 100000 in
/-- (surd/surdref08.D).Top: function 30. -/
theorem surdref08_D_Top_vc (a0_d_0 : Bool) (a0_d_1 : Slc) (a0_d_2 : Int) (w : World) (R : Ending → World → Prop)
    
    (h : newC w #[Value.bool a0_d_0, a0_d_1.v, Value.int .i64 a0_d_2] 35 fun ad1 w1 =>
    ldS (ad1.add 1) w1.drew fun s1 =>
    ldI .i64 (ad1.add 2) w1.drew fun x1 =>
    Calls Tryd.prog 35 #[s1.v] w1.drew fun e1 w2 =>
    ∃ x2 : Int, e1 = .returned (Value.int .i64 x2) ∧
    (Ahead w1.drew w2 ∧
     (R (.returned (Value.int .i64 (IntKind.i64.wrap ((IntKind.i64.wrap (x2 - 1)) + x1)))) w2))) :
    Calls Tryd.prog 30 #[Value.agg #[Value.bool a0_d_0, a0_d_1.v, Value.int .i64 a0_d_2]] w R := by
  refine calls_of_vc (fun _ => none) (by kernel_rfl) Tryd.func30 rfl ?_ ?_
  · refine kcast h ?_; kernel_rfl
  · exact (obl_seq rfl (obl_reg (obl_seq rfl (obl_held (by kernel_rfl) (by kernel_rfl) (by kernel_rfl) (obl_ret trivial)))))

set_option maxRecDepth 100000 in
/-- surd/surdref08.Cmp: function 12. -/
theorem surdref08_Cmp_vc (a0_a_0 : Bool) (a0_a_1 : Slc) (a0_a_2 : Int) (a1_b_0 : Bool) (a1_b_1 : Slc) (a1_b_2 : Int) (w : World) (R : Ending → World → Prop)
    
    (h : newC w #[Value.bool a0_a_0, a0_a_1.v, Value.int .i64 a0_a_2] 35 fun ad1 w1 =>
    newC w1 #[Value.bool a1_b_0, a1_b_1.v, Value.int .i64 a1_b_2] 35 fun ad2 w2 =>
    ldB ad1 w2.drew fun b1 =>
    ldS (ad1.add 1) w2.drew fun s1 =>
    ldB ad2 w2.drew fun b2 =>
    ldS (ad2.add 1) w2.drew fun s2 =>
    Calls Tryd.prog 29 #[Value.agg #[Value.bool b1, s1.v]] w2.drew fun e1 w3 =>
    ∃ x1 : Int, e1 = .returned (Value.int .i64 x1) ∧
    (Ahead w2.drew w3 ∧
     (Calls Tryd.prog 29 #[Value.agg #[Value.bool b2, s2.v]] w3 fun e2 w4 =>
      ∃ x2 : Int, e2 = .returned (Value.int .i64 x2) ∧
      (Ahead w3 w4 ∧
       (br (x1 != x2)
        (br (decide (x1 < x2))
         (R (.returned (Value.int .i64 (-1))) w4)
         (R (.returned (Value.int .i64 1)) w4))
        (br (x1 == 0)
         (R (.returned (Value.int .i64 0)) w4)
         (ldB ad1 w4.drew fun b3 =>
          ldS (ad1.add 1) w4.drew fun s3 =>
          ldI .i64 (ad1.add 2) w4.drew fun x3 =>
          ldB ad2 w4.drew fun b4 =>
          ldS (ad2.add 1) w4.drew fun s4 =>
          ldI .i64 (ad2.add 2) w4.drew fun x4 =>
          Calls Tryd.prog 30 #[Value.agg #[Value.bool b3, s3.v, Value.int .i64 x3]] w4.drew fun e3 w5 =>
          ∃ x5 : Int, e3 = .returned (Value.int .i64 x5) ∧
          (Ahead w4.drew w5 ∧
           (Calls Tryd.prog 30 #[Value.agg #[Value.bool b4, s4.v, Value.int .i64 x4]] w5 fun e4 w6 =>
            ∃ x6 : Int, e4 = .returned (Value.int .i64 x6) ∧
            (Ahead w5 w6 ∧
             (br (x5 != x6)
              (ldB ad1 w6.drew fun b5 =>
               ldS (ad1.add 1) w6.drew fun s5 =>
               ldI .i64 (ad1.add 2) w6.drew fun x7 =>
               ldB ad2 w6.drew fun b6 =>
               ldS (ad2.add 1) w6.drew fun s6 =>
               ldI .i64 (ad2.add 2) w6.drew fun x8 =>
               Calls Tryd.prog 30 #[Value.agg #[Value.bool b5, s5.v, Value.int .i64 x7]] w6.drew fun e5 w7 =>
               ∃ x9 : Int, e5 = .returned (Value.int .i64 x9) ∧
               (Ahead w6.drew w7 ∧
                (Calls Tryd.prog 30 #[Value.agg #[Value.bool b6, s6.v, Value.int .i64 x8]] w7 fun e6 w8 =>
                 ∃ x10 : Int, e6 = .returned (Value.int .i64 x10) ∧
                 (Ahead w7 w8 ∧
                  (br (decide (x9 < x10))
                   (R (.returned (Value.int .i64 (IntKind.i64.wrap (0 - x1)))) w8)
                   (R (.returned (Value.int .i64 x1)) w8))))))
              (ldI .i64 (ad1.add 2) w6 fun x11 =>
               ldI .i64 (ad2.add 2) w6 fun x12 =>
               br (decide (x11 ≤ x12))
               (ldB ad1 w6.drew fun b7 =>
                ldS (ad1.add 1) w6.drew fun s7 =>
                ldB ad2 w6.drew fun b8 =>
                ldS (ad2.add 1) w6.drew fun s8 =>
                ldI .i64 (ad2.add 2) w6.drew fun x13 =>
                ldI .i64 (ad1.add 2) w6.drew fun x14 =>
                Calls Tryd.prog 32 #[Value.agg #[Value.bool b8, s8.v], Value.int .i64 (IntKind.i64.wrap (x13 - x14))] w6.drew fun e7 w9 =>
                ∃ b9 : Bool, ∃ s9 : Slc, e7 = .returned (Value.agg #[Value.bool b9, s9.v]) ∧
                (Ahead w6.drew w9 ∧
                 (Calls Tryd.prog 31 #[Value.agg #[Value.bool b7, s7.v], Value.agg #[Value.bool b9, s9.v]] w9 fun e8 w10 =>
                  ∃ x15 : Int, e8 = .returned (Value.int .i64 x15) ∧
                  (Ahead w9 w10 ∧
                   (R (.returned (Value.int .i64 x15)) w10)))))
               (ldB ad1 w6.drew fun b10 =>
                ldS (ad1.add 1) w6.drew fun s10 =>
                ldI .i64 (ad1.add 2) w6.drew fun x16 =>
                ldI .i64 (ad2.add 2) w6.drew fun x17 =>
                ldB ad2 w6.drew fun b11 =>
                ldS (ad2.add 1) w6.drew fun s11 =>
                Calls Tryd.prog 32 #[Value.agg #[Value.bool b10, s10.v], Value.int .i64 (IntKind.i64.wrap (x16 - x17))] w6.drew fun e9 w11 =>
                ∃ b12 : Bool, ∃ s12 : Slc, e9 = .returned (Value.agg #[Value.bool b12, s12.v]) ∧
                (Ahead w6.drew w11 ∧
                 (Calls Tryd.prog 31 #[Value.agg #[Value.bool b12, s12.v], Value.agg #[Value.bool b11, s11.v]] w11 fun e10 w12 =>
                  ∃ x18 : Int, e10 = .returned (Value.int .i64 x18) ∧
                  (Ahead w11 w12 ∧
                   (R (.returned (Value.int .i64 x18)) w12))))))))))))))))) :
    Calls Tryd.prog 12 #[Value.agg #[Value.bool a0_a_0, a0_a_1.v, Value.int .i64 a0_a_2], Value.agg #[Value.bool a1_b_0, a1_b_1.v, Value.int .i64 a1_b_2]] w R := by
  refine calls_of_vc (fun _ => none) (by kernel_rfl) Tryd.func12 rfl ?_ ?_
  · refine kcast h ?_; kernel_rfl
  · exact (obl_seq rfl (obl_reg (obl_seq rfl (obl_held (by kernel_rfl) (by kernel_rfl) (by kernel_rfl) (obl_seq rfl (obl_seq rfl (obl_reg (obl_cond (obl_seq rfl (obl_seq rfl (obl_reg (obl_cond (obl_seq rfl (obl_reg (obl_ret (obl_skip (obl_seq rfl (obl_reg (obl_ret (obl_skip (obl_seq rfl (obl_seq rfl (obl_reg (obl_cond (obl_seq rfl (obl_reg (obl_ret (obl_skip (obl_seq rfl (obl_seq rfl (obl_held (by kernel_rfl) (by kernel_rfl) (by kernel_rfl) (obl_cond (obl_seq rfl (obl_seq rfl (obl_held (by kernel_rfl) (by kernel_rfl) (by kernel_rfl) (obl_cond (obl_seq rfl (obl_reg (obl_ret (obl_skip (obl_seq rfl (obl_reg (obl_ret (obl_skip (obl_seq rfl (obl_seq rfl (obl_reg (obl_cond (obl_seq rfl (obl_held (by kernel_rfl) (by kernel_rfl) (by kernel_rfl) (obl_ret (obl_skip (obl_seq rfl (obl_held (by kernel_rfl) (by kernel_rfl) (by kernel_rfl) (obl_ret trivial)))))))))))))))))))))))))))))))))))))))))))))))))))))))

set_option maxRecDepth 100000 in
/-- surd/surdref08.Add: function 16. -/
theorem surdref08_Add_vc (a0_a_0 : Bool) (a0_a_1 : Slc) (a0_a_2 : Int) (a1_b_0 : Bool) (a1_b_1 : Slc) (a1_b_2 : Int) (w : World) (R : Ending → World → Prop)
    
    (h : newC w #[Value.bool a0_a_0, a0_a_1.v, Value.int .i64 a0_a_2] 35 fun ad1 w1 =>
    newC w1 #[Value.bool a1_b_0, a1_b_1.v, Value.int .i64 a1_b_2] 35 fun ad2 w2 =>
    newC w2 #[Value.bool false, (⟨none, 0, 0⟩ : Slc).v, Value.int .i64 0] 35 fun ad3 w3 =>
    ldB ad1 w3 fun b1 =>
    ldS (ad1.add 1) w3 fun s1 =>
    Calls Tryd.prog 29 #[Value.agg #[Value.bool b1, s1.v]] w3 fun e1 w4 =>
    ∃ x1 : Int, e1 = .returned (Value.int .i64 x1) ∧
    (br (x1 == 0)
     (ldB ad2 w4 fun b2 =>
      ldS (ad2.add 1) w4 fun s2 =>
      ldI .i64 (ad2.add 2) w4 fun x2 =>
      stC ad3 (Value.bool b2) w4 fun w5 =>
      stC (ad3.add 1) s2.v w5 fun w6 =>
      stC (ad3.add 2) (Value.int .i64 x2) w6 fun w7 =>
      ldB ad3 w7 fun b3 =>
      ldS (ad3.add 1) w7 fun s3 =>
      ldI .i64 (ad3.add 2) w7 fun x3 =>
      R (.returned (Value.tuple #[Value.agg #[Value.bool b3, s3.v, Value.int .i64 x3], Value.bool true])) w7)
     (ldB ad2 w4 fun b4 =>
      ldS (ad2.add 1) w4 fun s4 =>
      Calls Tryd.prog 29 #[Value.agg #[Value.bool b4, s4.v]] w4 fun e2 w8 =>
      ∃ x4 : Int, e2 = .returned (Value.int .i64 x4) ∧
      (br (x4 == 0)
       (ldB ad1 w8 fun b5 =>
        ldS (ad1.add 1) w8 fun s5 =>
        ldI .i64 (ad1.add 2) w8 fun x5 =>
        stC ad3 (Value.bool b5) w8 fun w9 =>
        stC (ad3.add 1) s5.v w9 fun w10 =>
        stC (ad3.add 2) (Value.int .i64 x5) w10 fun w11 =>
        ldB ad3 w11 fun b6 =>
        ldS (ad3.add 1) w11 fun s6 =>
        ldI .i64 (ad3.add 2) w11 fun x6 =>
        R (.returned (Value.tuple #[Value.agg #[Value.bool b6, s6.v, Value.int .i64 x6], Value.bool true])) w11)
       (ldI .i64 (ad1.add 2) w8 fun x7 =>
        ldI .i64 (ad2.add 2) w8 fun x8 =>
        br (decide (x7 < x8))
        (ldB ad2 w8 fun b7 =>
         ldS (ad2.add 1) w8 fun s7 =>
         ldI .i64 (ad2.add 2) w8 fun x9 =>
         ldB ad1 w8 fun b8 =>
         ldS (ad1.add 1) w8 fun s8 =>
         ldI .i64 (ad1.add 2) w8 fun x10 =>
         stC ad1 (Value.bool b7) w8 fun w12 =>
         stC (ad1.add 1) s7.v w12 fun w13 =>
         stC (ad1.add 2) (Value.int .i64 x9) w13 fun w14 =>
         stC ad2 (Value.bool b8) w14 fun w15 =>
         stC (ad2.add 1) s8.v w15 fun w16 =>
         stC (ad2.add 2) (Value.int .i64 x10) w16 fun w17 =>
         ldI .i64 (ad1.add 2) w17 fun x11 =>
         ldI .i64 (ad2.add 2) w17 fun x12 =>
         ldS (ad2.add 1) w17 fun s9 =>
         Calls Tryd.prog 35 #[s9.v] w17 fun e3 w18 =>
         ∃ x13 : Int, e3 = .returned (Value.int .i64 x13) ∧
         (br (decide ((IntKind.i64.wrap (x11 - x12)) > (IntKind.i64.wrap ((IntKind.i64.wrap (67108864 + x13)) + 2))))
          (stC ad3 (Value.bool false) w18 fun w19 =>
           stC (ad3.add 1) ((⟨none, 0, 0⟩ : Slc).v) w19 fun w20 =>
           stC (ad3.add 2) (Value.int .i64 0) w20 fun w21 =>
           ldB ad3 w21 fun b9 =>
           ldS (ad3.add 1) w21 fun s10 =>
           ldI .i64 (ad3.add 2) w21 fun x14 =>
           R (.returned (Value.tuple #[Value.agg #[Value.bool b9, s10.v, Value.int .i64 x14], Value.bool false])) w21)
          (ldB ad1 w18.drew fun b10 =>
           ldS (ad1.add 1) w18.drew fun s11 =>
           ldB ad2 w18.drew fun b11 =>
           ldS (ad2.add 1) w18.drew fun s12 =>
           ldI .i64 (ad2.add 2) w18.drew fun x15 =>
           Calls Tryd.prog 32 #[Value.agg #[Value.bool b10, s11.v], Value.int .i64 (IntKind.i64.wrap (x11 - x12))] w18.drew fun e4 w22 =>
           ∃ b12 : Bool, ∃ s13 : Slc, e4 = .returned (Value.agg #[Value.bool b12, s13.v]) ∧
           (Ahead w18.drew w22 ∧
            (Calls Tryd.prog 36 #[Value.agg #[Value.bool b12, s13.v], Value.agg #[Value.bool b11, s12.v]] w22 fun e5 w23 =>
             ∃ b13 : Bool, ∃ s14 : Slc, e5 = .returned (Value.agg #[Value.bool b13, s14.v]) ∧
             (Ahead w22 w23 ∧
              (Calls Tryd.prog 19 #[Value.agg #[Value.bool b13, s14.v], Value.int .i64 x15] w23 fun e6 w24 =>
               ∃ b14 : Bool, ∃ s15 : Slc, ∃ x16 : Int, e6 = .returned (Value.agg #[Value.bool b14, s15.v, Value.int .i64 x16]) ∧
               (Ahead w23 w24 ∧
                (stC ad3 (Value.bool b14) w24 fun w25 =>
                 stC (ad3.add 1) s15.v w25 fun w26 =>
                 stC (ad3.add 2) (Value.int .i64 x16) w26 fun w27 =>
                 ldB ad3 w27 fun b15 =>
                 ldS (ad3.add 1) w27 fun s16 =>
                 ldI .i64 (ad3.add 2) w27 fun x17 =>
                 R (.returned (Value.tuple #[Value.agg #[Value.bool b15, s16.v, Value.int .i64 x17], Value.bool true])) w27)))))))))
        (ldI .i64 (ad1.add 2) w8 fun x18 =>
         ldI .i64 (ad2.add 2) w8 fun x19 =>
         ldS (ad2.add 1) w8 fun s17 =>
         Calls Tryd.prog 35 #[s17.v] w8 fun e7 w28 =>
         ∃ x20 : Int, e7 = .returned (Value.int .i64 x20) ∧
         (br (decide ((IntKind.i64.wrap (x18 - x19)) > (IntKind.i64.wrap ((IntKind.i64.wrap (67108864 + x20)) + 2))))
          (stC ad3 (Value.bool false) w28 fun w29 =>
           stC (ad3.add 1) ((⟨none, 0, 0⟩ : Slc).v) w29 fun w30 =>
           stC (ad3.add 2) (Value.int .i64 0) w30 fun w31 =>
           ldB ad3 w31 fun b16 =>
           ldS (ad3.add 1) w31 fun s18 =>
           ldI .i64 (ad3.add 2) w31 fun x21 =>
           R (.returned (Value.tuple #[Value.agg #[Value.bool b16, s18.v, Value.int .i64 x21], Value.bool false])) w31)
          (ldB ad1 w28.drew fun b17 =>
           ldS (ad1.add 1) w28.drew fun s19 =>
           ldB ad2 w28.drew fun b18 =>
           ldS (ad2.add 1) w28.drew fun s20 =>
           ldI .i64 (ad2.add 2) w28.drew fun x22 =>
           Calls Tryd.prog 32 #[Value.agg #[Value.bool b17, s19.v], Value.int .i64 (IntKind.i64.wrap (x18 - x19))] w28.drew fun e8 w32 =>
           ∃ b19 : Bool, ∃ s21 : Slc, e8 = .returned (Value.agg #[Value.bool b19, s21.v]) ∧
           (Ahead w28.drew w32 ∧
            (Calls Tryd.prog 36 #[Value.agg #[Value.bool b19, s21.v], Value.agg #[Value.bool b18, s20.v]] w32 fun e9 w33 =>
             ∃ b20 : Bool, ∃ s22 : Slc, e9 = .returned (Value.agg #[Value.bool b20, s22.v]) ∧
             (Ahead w32 w33 ∧
              (Calls Tryd.prog 19 #[Value.agg #[Value.bool b20, s22.v], Value.int .i64 x22] w33 fun e10 w34 =>
               ∃ b21 : Bool, ∃ s23 : Slc, ∃ x23 : Int, e10 = .returned (Value.agg #[Value.bool b21, s23.v, Value.int .i64 x23]) ∧
               (Ahead w33 w34 ∧
                (stC ad3 (Value.bool b21) w34 fun w35 =>
                 stC (ad3.add 1) s23.v w35 fun w36 =>
                 stC (ad3.add 2) (Value.int .i64 x23) w36 fun w37 =>
                 ldB ad3 w37 fun b22 =>
                 ldS (ad3.add 1) w37 fun s24 =>
                 ldI .i64 (ad3.add 2) w37 fun x24 =>
                 R (.returned (Value.tuple #[Value.agg #[Value.bool b22, s24.v, Value.int .i64 x24], Value.bool true])) w37)))))))))))))) :
    Calls Tryd.prog 16 #[Value.agg #[Value.bool a0_a_0, a0_a_1.v, Value.int .i64 a0_a_2], Value.agg #[Value.bool a1_b_0, a1_b_1.v, Value.int .i64 a1_b_2]] w R := by
  refine calls_of_vc (fun _ => none) (by kernel_rfl) Tryd.func16 rfl ?_ ?_
  · refine kcast h ?_; kernel_rfl
  · exact (obl_seq rfl (obl_reg (obl_seq rfl (obl_seq rfl (obl_reg (obl_cond (obl_seq rfl (obl_reg (obl_ret (obl_skip (obl_seq rfl (obl_seq rfl (obl_reg (obl_cond (obl_seq rfl (obl_reg (obl_ret (obl_skip (obl_seq rfl (obl_seq rfl (obl_reg (obl_cond (obl_reg (obl_skip (obl_seq rfl (obl_reg (obl_seq rfl (obl_seq rfl (obl_reg (obl_cond (obl_seq rfl (obl_reg (obl_ret (obl_skip (obl_seq rfl (obl_held (by kernel_rfl) (by kernel_rfl) (by kernel_rfl) (obl_ret trivial)))))))))))))))))))))))))))))))))))))

set_option maxRecDepth 100000 in
/-- surd/surdref08.Neg: function 17. -/
theorem surdref08_Neg_vc (a0_a_0 : Bool) (a0_a_1 : Slc) (a0_a_2 : Int) (w : World) (R : Ending → World → Prop)
    
    (h : newC w #[Value.bool a0_a_0, a0_a_1.v, Value.int .i64 a0_a_2] 35 fun ad1 w1 =>
    newC w1 #[Value.bool false, (⟨none, 0, 0⟩ : Slc).v, Value.int .i64 0] 35 fun ad2 w2 =>
    ldB ad1 w2.drew fun b1 =>
    ldS (ad1.add 1) w2.drew fun s1 =>
    ldI .i64 (ad1.add 2) w2.drew fun x1 =>
    Calls Tryd.prog 37 #[Value.agg #[Value.bool b1, s1.v]] w2.drew fun e1 w3 =>
    ∃ b2 : Bool, ∃ s2 : Slc, e1 = .returned (Value.agg #[Value.bool b2, s2.v]) ∧
    (Ahead w2.drew w3 ∧
     (stC ad2 (Value.bool b2) w3 fun w4 =>
      stC (ad2.add 1) s2.v w4 fun w5 =>
      stC (ad2.add 2) (Value.int .i64 x1) w5 fun w6 =>
      ldB ad2 w6 fun b3 =>
      ldS (ad2.add 1) w6 fun s3 =>
      ldI .i64 (ad2.add 2) w6 fun x2 =>
      R (.returned (Value.agg #[Value.bool b3, s3.v, Value.int .i64 x2])) w6))) :
    Calls Tryd.prog 17 #[Value.agg #[Value.bool a0_a_0, a0_a_1.v, Value.int .i64 a0_a_2]] w R := by
  refine calls_of_vc (fun _ => none) (by kernel_rfl) Tryd.func17 rfl ?_ ?_
  · refine kcast h ?_; kernel_rfl
  · exact (obl_seq rfl (obl_reg (obl_seq rfl (obl_held (by kernel_rfl) (by kernel_rfl) (by kernel_rfl) (obl_ret trivial)))))

set_option maxRecDepth 100000 in
/-- surd/surdref06.Add: function 36. -/
theorem surdref06_Add_vc (a0_a_0 : Bool) (a0_a_1 : Slc) (a1_b_0 : Bool) (a1_b_1 : Slc) (w : World) (R : Ending → World → Prop)
    
    (h : newC w #[Value.bool a0_a_0, a0_a_1.v] 33 fun ad1 w1 =>
    newC w1 #[Value.bool a1_b_0, a1_b_1.v] 33 fun ad2 w2 =>
    newC w2 #[Value.bool false, (⟨none, 0, 0⟩ : Slc).v] 33 fun ad3 w3 =>
    ldB ad1 w3 fun b1 =>
    ldB ad2 w3 fun b2 =>
    br (b1 == b2)
    (ldB ad1 w3.drew fun b3 =>
     ldS (ad1.add 1) w3.drew fun s1 =>
     ldS (ad2.add 1) w3.drew fun s2 =>
     Calls Tryd.prog 52 #[s1.v, s2.v] w3.drew fun e1 w4 =>
     ∃ s3 : Slc, e1 = .returned s3.v ∧
     (Ahead w3.drew w4 ∧
      (Calls Tryd.prog 40 #[Value.bool b3, s3.v] w4 fun e2 w5 =>
       ∃ b4 : Bool, ∃ s4 : Slc, e2 = .returned (Value.agg #[Value.bool b4, s4.v]) ∧
       (Ahead w4 w5 ∧
        (stC ad3 (Value.bool b4) w5 fun w6 =>
         stC (ad3.add 1) s4.v w6 fun w7 =>
         ldB ad3 w7 fun b5 =>
         ldS (ad3.add 1) w7 fun s5 =>
         R (.returned (Value.agg #[Value.bool b5, s5.v])) w7)))))
    (ldS (ad1.add 1) w3 fun s6 =>
     ldS (ad2.add 1) w3 fun s7 =>
     Calls Tryd.prog 47 #[s6.v, s7.v] w3 fun e3 w8 =>
     ∃ x1 : Int, e3 = .returned (Value.int .i64 x1) ∧
     (br (decide (x1 ≥ 0))
      (ldB ad1 w8.drew fun b6 =>
       ldS (ad1.add 1) w8.drew fun s8 =>
       ldS (ad2.add 1) w8.drew fun s9 =>
       Calls Tryd.prog 53 #[s8.v, s9.v] w8.drew fun e4 w9 =>
       ∃ s10 : Slc, e4 = .returned s10.v ∧
       (Ahead w8.drew w9 ∧
        (Calls Tryd.prog 40 #[Value.bool b6, s10.v] w9 fun e5 w10 =>
         ∃ b7 : Bool, ∃ s11 : Slc, e5 = .returned (Value.agg #[Value.bool b7, s11.v]) ∧
         (Ahead w9 w10 ∧
          (stC ad3 (Value.bool b7) w10 fun w11 =>
           stC (ad3.add 1) s11.v w11 fun w12 =>
           ldB ad3 w12 fun b8 =>
           ldS (ad3.add 1) w12 fun s12 =>
           R (.returned (Value.agg #[Value.bool b8, s12.v])) w12)))))
      (ldB ad2 w8.drew fun b9 =>
       ldS (ad2.add 1) w8.drew fun s13 =>
       ldS (ad1.add 1) w8.drew fun s14 =>
       Calls Tryd.prog 53 #[s13.v, s14.v] w8.drew fun e6 w13 =>
       ∃ s15 : Slc, e6 = .returned s15.v ∧
       (Ahead w8.drew w13 ∧
        (Calls Tryd.prog 40 #[Value.bool b9, s15.v] w13 fun e7 w14 =>
         ∃ b10 : Bool, ∃ s16 : Slc, e7 = .returned (Value.agg #[Value.bool b10, s16.v]) ∧
         (Ahead w13 w14 ∧
          (stC ad3 (Value.bool b10) w14 fun w15 =>
           stC (ad3.add 1) s16.v w15 fun w16 =>
           ldB ad3 w16 fun b11 =>
           ldS (ad3.add 1) w16 fun s17 =>
           R (.returned (Value.agg #[Value.bool b11, s17.v])) w16)))))))) :
    Calls Tryd.prog 36 #[Value.agg #[Value.bool a0_a_0, a0_a_1.v], Value.agg #[Value.bool a1_b_0, a1_b_1.v]] w R := by
  refine calls_of_vc (fun _ => none) (by kernel_rfl) Tryd.func36 rfl ?_ ?_
  · refine kcast h ?_; kernel_rfl
  · exact (obl_seq rfl (obl_reg (obl_seq rfl (obl_seq rfl (obl_reg (obl_cond (obl_seq rfl (obl_held (by kernel_rfl) (by kernel_rfl) (by kernel_rfl) (obl_ret (obl_skip (obl_seq rfl (obl_seq rfl (obl_reg (obl_cond (obl_seq rfl (obl_held (by kernel_rfl) (by kernel_rfl) (by kernel_rfl) (obl_ret (obl_skip (obl_seq rfl (obl_held (by kernel_rfl) (by kernel_rfl) (by kernel_rfl) (obl_ret trivial)))))))))))))))))))))

set_option maxRecDepth 100000 in
/-- surd/surdref06.Cmp: function 31. -/
theorem surdref06_Cmp_vc (a0_a_0 : Bool) (a0_a_1 : Slc) (a1_b_0 : Bool) (a1_b_1 : Slc) (w : World) (R : Ending → World → Prop)
    
    (h : newC w #[Value.bool a0_a_0, a0_a_1.v] 33 fun ad1 w1 =>
    newC w1 #[Value.bool a1_b_0, a1_b_1.v] 33 fun ad2 w2 =>
    ldB ad1 w2 fun b1 =>
    ldB ad2 w2 fun b2 =>
    br (!(b1 == b2))
    (ldB ad1 w2 fun b3 =>
     br b3
     (R (.returned (Value.int .i64 (-1))) w2)
     (R (.returned (Value.int .i64 1)) w2))
    (ldS (ad1.add 1) w2 fun s1 =>
     ldS (ad2.add 1) w2 fun s2 =>
     Calls Tryd.prog 47 #[s1.v, s2.v] w2 fun e1 w3 =>
     ∃ x1 : Int, e1 = .returned (Value.int .i64 x1) ∧
     (ldB ad1 w3 fun b4 =>
      br b4
      (R (.returned (Value.int .i64 (IntKind.i64.wrap (0 - x1)))) w3)
      (R (.returned (Value.int .i64 x1)) w3)))) :
    Calls Tryd.prog 31 #[Value.agg #[Value.bool a0_a_0, a0_a_1.v], Value.agg #[Value.bool a1_b_0, a1_b_1.v]] w R := by
  refine calls_of_vc (fun _ => none) (by kernel_rfl) Tryd.func31 rfl ?_ ?_
  · refine kcast h ?_; kernel_rfl
  · exact (obl_seq rfl (obl_reg (obl_seq rfl (obl_seq rfl (obl_reg (obl_cond (obl_seq rfl (obl_seq rfl (obl_reg (obl_cond (obl_seq rfl (obl_reg (obl_ret (obl_skip (obl_seq rfl (obl_reg (obl_ret (obl_skip (obl_seq rfl (obl_reg (obl_seq rfl (obl_seq rfl (obl_reg (obl_cond (obl_seq rfl (obl_reg (obl_ret (obl_skip (obl_seq rfl (obl_reg (obl_ret trivial)))))))))))))))))))))))))))))))

set_option maxRecDepth 100000 in
/-- surd/surdref06.Neg: function 37. -/
theorem surdref06_Neg_vc (a0_a_0 : Bool) (a0_a_1 : Slc) (w : World) (R : Ending → World → Prop)
    
    (h : newC w #[Value.bool a0_a_0, a0_a_1.v] 33 fun ad1 w1 =>
    newC w1 #[Value.bool false, (⟨none, 0, 0⟩ : Slc).v] 33 fun ad2 w2 =>
    ldB ad1 w2 fun b1 =>
    ldS (ad1.add 1) w2 fun s1 =>
    Calls Tryd.prog 40 #[Value.bool (!b1), s1.v] w2 fun e1 w3 =>
    ∃ b2 : Bool, ∃ s2 : Slc, e1 = .returned (Value.agg #[Value.bool b2, s2.v]) ∧
    (stC ad2 (Value.bool b2) w3 fun w4 =>
     stC (ad2.add 1) s2.v w4 fun w5 =>
     ldB ad2 w5 fun b3 =>
     ldS (ad2.add 1) w5 fun s3 =>
     R (.returned (Value.agg #[Value.bool b3, s3.v])) w5)) :
    Calls Tryd.prog 37 #[Value.agg #[Value.bool a0_a_0, a0_a_1.v]] w R := by
  refine calls_of_vc (fun _ => none) (by kernel_rfl) Tryd.func37 rfl ?_ ?_
  · refine kcast h ?_; kernel_rfl
  · exact (obl_seq rfl (obl_reg (obl_seq rfl (obl_reg (obl_ret trivial)))))

end Go.Proofs.YtlkjgafnjmfgiaaDoor
namespace Go.Proofs.YtlkjgafnjmfgiaaDoor
open Go Go.RowKit Eng Sp Dg
set_option linter.unusedVariables false
set_option linter.unusedSimpArgs false
set_option maxRecDepth 100000
namespace Nat

/-- A law's answer. -/
def Yes (w : World) (e : Ending) (w' : World) : Prop := e = .returned (.bool true) ∧ Ahead w w'

end Nat
end Go.Proofs.YtlkjgafnjmfgiaaDoor
namespace Go.Proofs.YtlkjgafnjmfgiaaDoor
open Go Go.RowKit Eng Sp Dg
set_option linter.unusedVariables false
set_option linter.unusedSimpArgs false
set_option maxRecDepth 100000
namespace Dy
open _root_.Go.Proofs.YtlkjgafnjmfgiaaDoor.Nat (ldN OwnNil Num Num.bl OwnNil.mono bigC semShr digs_len_bl Yes andI_nat num_of)
open _root_.Go.Proofs.YtlkjgafnjmfgiaaDoor.Ref (RN RN.nil Of_spec Is_spec Len_spec zero_spec Int_spec tdiv32 tmod32)
open Sb

theorem bit_digit (U s : Nat) (hs : s < 32) : U % 2 ^ 32 / 2 ^ s % 2 = U / 2 ^ s % 2 := by
  have h : (2 : Nat) ^ 32 = 2 ^ s * (2 * 2 ^ (31 - s)) := by rw [← Nat.pow_succ', ← Nat.pow_add]; congr 1; omega
  rw [h, Nat.mod_mul_right_div_self, Nat.mod_mul_right_mod]
theorem Bit_spec {w : World} {s : Slc} {x : Nat} {i : Nat} (h : RN w s x) (hl : (digs B32 x).length ≤ 2 ^ 46) (hi : i ≤ 9223372036854775807) :
    Calls pr surdref01_Num_Bit_id #[s.v, .int .i64 (i : Int)] w fun e w' => w' = w ∧ e = .returned (.int .i64 ((x / 2 ^ i % 2 : Nat) : Int)) := by
  have hn := h.n
  have ox := ok_digs two32 x
  have vx := val_digs two32 x
  have hB := B32v
  have hp2 : B32 ^ (i / 32) * 2 ^ (i % 32) = 2 ^ i := (pow_split i 32).symm
  have hx : x / 2 ^ i % 2 = (digs B32 x).getD (i / 32) 0 / 2 ^ (i % 32) % 2 := by
    rw [digit (by omega : 0 < B32) _ ox (i / 32), vx, ← hp2, ← Nat.div_div_eq_div_mul, show B32 = 2 ^ 32 from rfl, bit_digit _ _ (Nat.mod_lt _ (by omega))]
  have e0 : ((i : Int)).toNat = i := by omega
  unfold RN at h
  refine surdref01_Num_Bit_vc s i w _ (br_false (by simp) ?_)
  rw [tdiv32 (by omega) (by omega), tmod32 (by omega), e0]
  refine br_intro (fun hb => ?_) (fun hb => ?_)
  · refine ⟨rfl, ?_⟩
    have hb' : (digs B32 x).length ≤ i / 32 := by simp at hb; omega
    rw [hx, getD_ge _ 0 hb']
    simp
  · have hb' : i / 32 < (digs B32 x).length := by simp at hb; omega
    refine ldN h (by omega) (by omega) ?_
    refine semShr (by omega) ?_
    rw [Int.toNat_natCast]
    have hlt := ok_getD ox (by omega : 0 < B32) (i / 32)
    generalize (digs B32 x).getD (i / 32) 0 = d at *
    have hd : d / 2 ^ (i % 32) < B64 := Nat.lt_of_le_of_lt (Nat.div_le_self _ _) (by rw [B64v]; omega)
    rw [show (1 : Int) = ((1 : Nat) : Int) from rfl, andI_nat hd (by rw [B64v]; omega), Nat.and_one_is_mod, hx, wrap_i64 (by omega) (by omega)]
    exact ⟨rfl, rfl⟩

theorem rTail_spec {w : World} {s : Slc} {x : Nat} (h : RN w s x) (hl : (digs B32 x).length ≤ 2 ^ 46) :
    Calls pr surdref01_Num_Tail_id #[s.v] w fun e w' => w' = w ∧ e = .returned (.int .i64 (tz x)) := by
  have hn := h.n
  have hbl : bl x ≤ 2 ^ 51 := by
    have := Ref.bl_len32 (ok_digs two32 x)
    rw [val_digs two32] at this
    omega
  refine surdref01_Num_Tail_vc s w _ (fun t n w' => t = s ∧ w' = w ∧ x ≠ 0 ∧ ∃ j : Nat, n = (j : Int) ∧ j ≤ tz x) (fun _ n _ => (tz x - n).toNat) ?_ ?_
  · refine br_intro (fun hz => ?_) (fun hz => ?_)
    · have hx : x = 0 := by
        have : (digs B32 x).length = 0 := by simp at hz; omega
        rw [← val_digs two32 x, List.length_eq_zero_iff.1 this]; rfl
      subst hx
      exact ⟨rfl, by rw [tz_zero]; rfl⟩
    · refine ⟨rfl, rfl, fun e => ?_, 0, rfl, Nat.zero_le _⟩
      rw [e, digs_zero] at hn
      rw [hn] at hz
      simp at hz
  · rintro t n w1 ⟨rfl, rfl, hx, j, rfl, hj⟩
    have htz := tz_lt hx
    refine Calls.mono (Bit_spec h hl (by omega)) ?_
    rintro e w2 ⟨rfl, rfl⟩
    have e8 : IntKind.i64.wrap ((j : Int) + 1) = ((j + 1 : Nat) : Int) := by rw [wrap_i64 (by omega) (by omega)]; omega
    have hxj : x / 2 ^ j = 2 ^ (tz x - j) * od x := by
      have h1 := od_mul x
      have hp : 0 < 2 ^ j := Nat.pow_pos (by omega)
      conv => lhs; rw [← h1, show tz x = j + (tz x - j) by omega, Nat.pow_add, Nat.mul_assoc]
      rw [Nat.mul_div_cancel_left _ hp]
    refine ⟨_, rfl, br_intro (fun hb => ?_) (fun hb => ?_)⟩
    · have hne : j ≠ tz x := by
        intro he
        rw [hxj, he, Nat.sub_self, Nat.pow_zero, Nat.one_mul, od_odd hx] at hb
        simp at hb
      exact ⟨⟨rfl, rfl, hx, j + 1, e8, by omega⟩, by rw [e8]; omega⟩
    · have he : j = tz x := by
        rcases Nat.lt_or_ge j (tz x) with hlt | hge
        · exfalso
          rw [hxj, show tz x - j = (tz x - j - 1) + 1 by omega, Nat.pow_succ, Nat.mul_comm (2 ^ _), Nat.mul_assoc, Nat.mul_mod_right] at hb
          simp at hb
        · omega
      subst he
      exact ⟨rfl, rfl⟩

theorem make1_spec {w : World} {neg : Bool} {s : Slc} {x : Nat} (h : RN w s x) :
    Calls pr surdref06_make1_id #[.bool neg, s.v] w fun e w' => Ahead w w' ∧ e = .returned (.agg (c2 (nD neg x) s)) ∧ RN w' s x := by
  refine surdref06_make1_vc neg s w _ (newC_b fun b w1 hb h1 hs1 B1 => br_intro (fun hn => ?_) (fun hn => ?_))
  · refine Calls.mono (zero_spec (h.ahead h1)) ?_
    rintro e w2 ⟨rfl, rfl⟩
    refine ⟨_, rfl, ret2 B1 fun w' u _ => ⟨u.ahead h1 (by omega), ?_, u.rd _ _ (h.ahead h1)⟩⟩
    rw [nD, hn]; simp
  · refine ret2 B1 fun w' u _ => ⟨u.ahead h1 (by omega), ?_, u.rd _ _ (h.ahead h1)⟩
    rw [nD, hn]; rfl
theorem zOf_spec {w : World} {neg : Bool} {s : Slc} {l : List Nat} (h : Rd .u64 w s (nn l)) (hl : l.length * 8 ≤ 140737488351232) (ol : ok B64 l) :
    Calls pr surdref06_Of_id #[.bool neg, s.v] w fun e w' => Ahead w w' ∧ ∃ s', e = .returned (.agg (c2 (nD neg (val B64 l)) s')) ∧ RN w' s' (val B64 l) := by
  refine surdref06_Of_vc neg s w _ (newC_b fun b w1 hb h1 hs1 B1 => Calls.mono (Of_spec (h.ahead h1) hl ol) ?_)
  rintro e w2 ⟨h2, s1, rfl, r1⟩
  refine ⟨_, rfl, Calls.mono (make1_spec r1) ?_⟩
  rintro e w3 ⟨h3, rfl, r3⟩
  refine ⟨_, _, rfl, ret2 ((B1.ahead h2).ahead h3) fun w' u _ => ⟨u.ahead ((h1.trans h2).trans h3) (by omega), s1, rfl, u.rd _ _ r3⟩⟩
theorem zSign_spec {w : World} {neg : Bool} {s : Slc} {x : Nat} (h : RN w s x) :
    Calls pr surdref06_Z_Sign_id #[.agg (c2 (nD neg x) s)] w fun e w' => Ahead w w' ∧ e = .returned (.int .i64 (sgn neg x)) := by
  refine surdref06_Z_Sign_vc (nD neg x) s w _ (newC_b fun b w1 hb h1 hs1 B1 => ldB_b 0 B1 rfl (br_intro (fun hn => ?_) (fun hn => ?_)))
  · refine ⟨h1, ?_⟩
    unfold nD at hn
    simp only [Bool.and_eq_true, decide_eq_true_eq] at hn
    rw [sgn, if_neg hn.2, hn.1]; rfl
  · refine ldS_b 1 B1 rfl (Calls.mono (zero_spec (h.ahead h1)) ?_)
    rintro e w2 ⟨rfl, rfl⟩
    refine ⟨_, rfl, br_intro (fun hz => ?_) (fun hz => ?_)⟩
    · exact ⟨h1, by rw [sgn, if_pos (by simpa using hz)]⟩
    · have hx : x ≠ 0 := by simpa using hz
      rw [nD_ne hx] at hn
      exact ⟨h1, by rw [sgn, if_neg hx, hn]; rfl⟩
theorem zIs_spec {w : World} {neg : Bool} {s t : Slc} {x : Nat} (h : RN w s x) (ht : Rd .u64 w t (nn (digs B64 x))) (hl : (digs B64 x).length ≤ 2 ^ 44) :
    Calls pr surdref06_Z_Is_id #[.agg (c2 neg s), .bool neg, t.v] w fun e w' => Ahead w w' ∧ e = .returned (.bool true) := by
  refine surdref06_Z_Is_vc neg s neg t w _ (newC_b fun b w1 hb h1 hs1 B1 => ldB_b 0 B1 rfl (br_true (by simp) ?_))
  refine ldS_b 1 B1 rfl (Calls.mono (Is_spec (h.ahead h1) (ht.ahead h1) hl) ?_)
  rintro e w2 ⟨h2, rfl⟩
  exact ⟨_, rfl, h1.trans h2, rfl⟩
theorem zInt_spec {w : World} {v : Int} (h0 : -9223372036854775808 ≤ v) (h1 : v ≤ 9223372036854775807) :
    Calls pr surdref06_Int_id #[.int .i64 v] w fun e w' => Ahead w w' ∧ ∃ s, e = .returned (.agg (c2 (nD (decide (v < 0)) v.natAbs) s)) ∧ RN w' s v.natAbs := by
  have hB := B64v
  refine surdref06_Int_vc v w _ (newC_b fun b w1 hb h1' hs1 B1 => br_intro (fun hn => ?_) (fun hn => ?_))
  · have hn' : v < 0 := by simpa using hn
    have e1 : IntKind.u64.wrap (IntKind.u64.wrap (IntKind.i64.wrap (0 - IntKind.i64.wrap (v + 1))) + 1) = ((v.natAbs : Nat) : Int) := by
      rw [wrap_i64 (x := v + 1) (by omega) (by omega), wrap_i64 (by omega) (by omega), wrap_u64' (x := 0 - (v + 1)) (by omega) (by omega), wrap_u64' (by omega) (by omega)]
      omega
    rw [e1]
    refine newC_b fun b2 w2 hb2 h2 hs2 B2 => ?_
    have hrd : Rd .u64 w2 ⟨some ⟨b2, 0, none⟩, 1, 1⟩ (nn [v.natAbs]) := by
      obtain ⟨t, hm⟩ := B2
      exact ⟨rfl, Nat.le_refl _, fun i hi => ⟨_, rfl, by
        have : i = 0 := by simpa using hi
        subst this
        simp [World.cell?, Addr.add, hm, nn]⟩⟩
    refine Calls.mono (Of_spec hrd (by simp) (fun z hz => by simp at hz; omega)) ?_
    rintro e w3 ⟨h3, s1, rfl, r1⟩
    have ev : val B64 [v.natAbs] = v.natAbs := by simp [val]
    rw [ev] at r1
    refine ⟨_, rfl, Calls.mono (make1_spec r1) ?_⟩
    rintro e w4 ⟨h4, rfl, r4⟩
    refine ⟨_, _, rfl, ret2 (((B1.ahead h2).ahead h3).ahead h4) fun w' u _ => ⟨u.ahead (((h1'.trans h2).trans h3).trans h4) (by omega), s1, ?_, u.rd _ _ r4⟩⟩
    simp [hn']
  · have hn' : ¬ v < 0 := by simpa using hn
    obtain ⟨m, rfl⟩ : ∃ m : Nat, v = (m : Int) := ⟨v.toNat, by omega⟩
    refine Calls.mono (Int_spec (v := m) (by omega)) ?_
    rintro e w3 ⟨h3, s1, rfl, r1⟩
    refine ⟨_, rfl, Calls.mono (make1_spec r1) ?_⟩
    rintro e w4 ⟨h4, rfl, r4⟩
    refine ⟨_, _, rfl, ret2 ((B1.ahead h3).ahead h4) fun w' u _ => ⟨u.ahead ((h1'.trans h3).trans h4) (by omega), s1, ?_, u.rd _ _ r4⟩⟩
    simp [hn']

theorem dOf_specN {w : World} {neg : Bool} {s : Slc} {x : Nat} {e : Int} (h : RN w s x) (hl : (digs B32 x).length ≤ 2 ^ 45) (he : -4611686018427387904 ≤ e ∧ e ≤ 4611686018427387904) :
    Calls pr surdref08_Of_id #[.agg (c2 (nD neg x) s), .int .i64 e] w fun en w' => Ahead w w' ∧ ∃ s', en = .returned (.agg (c3 (nD neg x) s' (eD x e))) ∧ RN w' s' (od x) ∧ ∀ ad, s'.A = some ad → w.heap.size ≤ ad.block := by
  refine surdref08_Of_vc (nD neg x) s e w _ (newC_b fun b1 w1 hb1 h1 hs1 B1 => newC_b fun b2 w2 hb2 h2 hs2 B2 => ?_)
  have h12 := h1.trans h2
  have hb : w.heap.size ≤ b2 := by have := h1.size; omega
  have hbl : bl x ≤ 2 ^ 50 := by
    have := Ref.bl_len32 (ok_digs two32 x)
    rw [val_digs two32] at this
    omega
  refine get2 (B1.ahead h2) rfl rfl (Calls.mono (zSign_spec (h.ahead h12)) ?_)
  rintro en w3 ⟨h3, rfl⟩
  have h13 := h12.trans h3
  have B13 := (B1.ahead h2).ahead h3
  have B23 := B2.ahead h3
  refine ⟨_, rfl, br_intro (fun hz => ?_) (fun hz => ?_)⟩
  · have hx : x = 0 := sgn_zero_iff.1 (by simpa using hz)
    subst hx
    refine ret3 B23 fun w' u _ => ⟨u.ahead h13 hb, _, by rw [nD_zero, eD_zero], by rw [od_zero]; exact RN.nil, fun ad h => by cases h⟩
  · have hx : x ≠ 0 := fun e0 => by rw [e0] at hz; simp [sgn] at hz
    have htz := tz_lt hx
    refine ldS_b 1 B13 rfl (Calls.mono (rTail_spec (h.ahead h13) (by omega)) ?_)
    rintro en w7 ⟨rfl, rfl⟩
    have hd := Ahead.drew w7
    refine ⟨_, rfl, get2 (B13.ahead hd) rfl rfl (Calls.mono (Ref.Shr_specN ((h.ahead h13).ahead hd) (by omega) (by omega) (by omega)) ?_)⟩
    rintro en w8 ⟨h8, s5, rfl, r5, q5⟩
    rw [Int.toNat_natCast] at r5
    have h78 := hd.trans h8
    refine ⟨_, rfl, h8, ret3 (B23.ahead h78) fun w' u _ => ⟨u.ahead (h13.trans h78) hb, s5, ?_, u.rd _ _ r5, fun ad had => by have := q5 ad had; have := h13.size; have := hd.size; omega⟩⟩
    rw [eD, if_neg hx, wrap_i64 (by omega) (by omega)]
theorem dOf_spec {w : World} {neg : Bool} {s : Slc} {x : Nat} {e : Int} (h : RN w s x) (hl : (digs B32 x).length ≤ 2 ^ 45) (he : -4611686018427387904 ≤ e ∧ e ≤ 4611686018427387904) :
    Calls pr surdref08_Of_id #[.agg (c2 (nD neg x) s), .int .i64 e] w fun en w' => Ahead w w' ∧ ∃ s', en = .returned (.agg (c3 (nD neg x) s' (eD x e))) ∧ RN w' s' (od x) :=
  Calls.mono (dOf_specN h hl he) fun en w' ⟨h1, s', h2, h3, _⟩ => ⟨h1, s', h2, h3⟩
theorem dInt_spec {w : World} {v e : Int} (h0 : -9223372036854775808 ≤ v) (h1 : v ≤ 9223372036854775807) (he : -4611686018427387904 ≤ e ∧ e ≤ 4611686018427387904) :
    Calls pr surdref08_Int_id #[.int .i64 v, .int .i64 e] w fun en w' => Ahead w w' ∧ ∃ s', en = .returned (.agg (c3 (nD (decide (v < 0)) v.natAbs) s' (eD v.natAbs e))) ∧ RN w' s' (od v.natAbs) := by
  refine surdref08_Int_vc v e w _ (newC_b fun b1 w1 hb1 h1' hs1 B1 => Calls.mono (zInt_spec h0 h1) ?_)
  rintro en w2 ⟨h2, s1, rfl, r1⟩
  have hl : (digs B32 v.natAbs).length ≤ 2 := digs_length_le two32 (by rw [B32v]; omega)
  refine ⟨_, _, rfl, Calls.mono (dOf_spec r1 (by omega) he) ?_⟩
  rintro en w3 ⟨h3, s2, rfl, r2⟩
  exact ⟨_, _, _, rfl, ret3 ((B1.ahead h2).ahead h3) fun w' u _ => ⟨u.ahead ((h1'.trans h2).trans h3) (by omega), s2, rfl, u.rd _ _ r2⟩⟩
theorem dIs_spec {w : World} {neg : Bool} {s t : Slc} {x : Nat} {e : Int} (h : RN w s x) (ht : Rd .u64 w t (nn (digs B64 x))) (hl : (digs B64 x).length ≤ 2 ^ 44) :
    Calls pr surdref08_D_Is_id #[.agg (c3 neg s e), .bool neg, t.v, .int .i64 e] w fun en w' => Ahead w w' ∧ en = .returned (.bool true) := by
  refine surdref08_D_Is_vc neg s e neg t e w _ (newC_b fun b w1 hb h1 hs1 B1 => get2 B1 rfl rfl (Calls.mono (zIs_spec (h.ahead h1) (ht.ahead h1) hl) ?_))
  rintro en w2 ⟨h2, rfl⟩
  exact ⟨_, rfl, br_true rfl (ldI_b 2 (B1.ahead h2) rfl ⟨h1.trans h2, by simp⟩)⟩
theorem Fits_spec {w : World} {e : Int} : Calls pr surdref08_Fits_id #[.int .i64 e] w fun en w' => w' = w ∧ en = .returned (.bool (decide (wi e))) := by
  refine surdref08_Fits_vc e w _ (br_intro (fun h => ⟨rfl, ?_⟩) (fun h => ⟨rfl, ?_⟩))
  · have h1 : -1099511627776 ≤ e := by simpa using h
    congr 2
    simp [wi, h1]
  · have h1 : ¬ -1099511627776 ≤ e := by simpa using h
    congr 2
    simp [wi, h1]
theorem fit_spec {w : World} {e : Int} : Calls pr surdlaw08_fit_id #[.int .i64 e] w fun en w' => w' = w ∧ en = .returned (.bool (decide (wi e))) := by
  refine surdlaw08_fit_vc e w _ (br_intro (fun h => ⟨rfl, ?_⟩) (fun h => ⟨rfl, ?_⟩))
  · have h1 : -1099511627776 ≤ e := by simpa using h
    congr 2
    simp [wi, h1]
  · have h1 : ¬ -1099511627776 ≤ e := by simpa using h
    congr 2
    simp [wi, h1]
/-- Told, of a dyadic in lowest terms. -/
def tK (n : Nat) (e : Int) : Int := if 67108864 < bl n then 3 else if wi e then 0 else 80

theorem num_spec {w : World} {c : Int} : Calls pr surdlaw08_num_id #[.int .i64 c] w fun e w' => w' = w ∧ e = .returned (.int .i64 c) :=
  surdlaw08_num_vc c w _ ⟨rfl, rfl⟩

theorem awake_spec {w : World} (hT : Tab w) : Calls pr surdlaw08_awake_id #[] w (Yes w) := by
  have hB := B64v
  refine surdlaw08_awake_vc w _ (newC_b fun b1 w1 hb1 h1 hs1 B1 => ?_)
  have hrd : Rd .u64 w1 ⟨some ⟨b1, 0, none⟩, 1, 1⟩ (nn [12]) := by
    obtain ⟨t, hm⟩ := B1
    exact ⟨rfl, Nat.le_refl _, fun i hi => ⟨_, rfl, by
      have : i = 0 := by simpa using hi
      subst this
      simp [World.cell?, Addr.add, hm, nn]⟩⟩
  have hnum : Num w1 ⟨some ⟨b1, 0, none⟩, 1, 1⟩ 12 := ⟨[12], hrd, by simp, fun z hz => by simp at hz; omega, by simp [val]⟩
  refine Calls.mono (Make_spec (e := -3) (hT.ahead h1) hnum) ?_
  have htz : tz 12 = 2 := tz_eq (k := 2) (m := 1) rfl
  have hod : od 12 = 3 := by rw [od, htz]
  have hwi : wi (-3) := by unfold wi; omega
  have htc : tC 12 (-3) = 0 := by
    have : bl 3 ≤ 2 := bl_le (by omega)
    rw [tC, hod, if_neg (by omega), if_pos (by rw [eD, if_neg (by omega), htz]; unfold wi; omega)]
  rw [if_pos hwi, htc]
  rintro en w2 ⟨h2, s1, rfl, o1⟩
  rw [if_pos rfl, hod] at o1
  have hnD : nD false 12 = false := rfl
  have heD : eD 12 (-3) = -1 := by rw [eD, if_neg (by omega), htz]; rfl
  rw [if_pos rfl, if_pos rfl, hnD, heD]
  refine ⟨_, _, _, _, rfl, newC_b fun b2 w3 hb2 h3 hs3 B2 => set3 B2 fun w6 u C2 => ?_⟩
  have h06 : Ahead w w6 := u.ahead ((h1.trans h2).trans h3) (by have := (h1.trans h2).size; omega)
  have hd := Ahead.drew w6
  refine Calls.mono num_spec ?_
  rintro en w7 ⟨rfl, rfl⟩
  refine ⟨_, rfl, Ahead.refl _, br_true rfl (get3 (C2.ahead hd) (Calls.mono (dInt_spec (v := 3) (e := -1) (by omega) (by omega) (by omega)) ?_))⟩
  rintro en w8 ⟨h8, s3, rfl, r3⟩
  have o3 : od (3 : Int).natAbs = 3 := od_of_odd rfl
  have t3 : tz 3 = 0 := tz_odd rfl
  have n3 : nD (decide ((3 : Int) < 0)) (3 : Int).natAbs = false := rfl
  have e3 : eD (3 : Int).natAbs (-1) = -1 := by show eD 3 (-1) = -1; rw [eD, if_neg (by omega), t3]; rfl
  rw [o3] at r3
  rw [n3, e3]
  have o6 := u.own2 o1 h3 (by omega)
  have hl : (digs B64 3).length ≤ 1 := digs_length_le two64 (by rw [B64v]; omega)
  refine ⟨_, _, _, rfl, h8, Calls.mono (dIs_spec r3 ((o6.ahead hd).ahead h8).rd (by omega)) ?_⟩
  rintro en w9 ⟨h9, rfl⟩
  exact ⟨_, rfl, h9, rfl, ((h06.trans hd).trans h8).trans h9⟩

end Dy
end Go.Proofs.YtlkjgafnjmfgiaaDoor
namespace Go.Proofs.YtlkjgafnjmfgiaaDoor
open Go Go.RowKit Eng Sp Dg
set_option linter.unusedVariables false
set_option linter.unusedSimpArgs false
set_option maxRecDepth 100000
namespace Dy
open _root_.Go.Proofs.YtlkjgafnjmfgiaaDoor.Nat (ldN OwnNil Num Num.bl OwnNil.mono bigC digs_len_bl Yes num_of)
open _root_.Go.Proofs.YtlkjgafnjmfgiaaDoor.Ref (RN RN.nil Of_spec Is_spec Len_spec zero_spec)
open Sb

theorem tC_zero {x : Nat} {e : Int} (h : tC x e = 0) : bl (od x) ≤ 67108864 ∧ wi (eD x e) := by
  unfold tC at h
  split at h
  · omega
  · split at h
    · exact ⟨by omega, by assumption⟩
    · omega

end Dy
end Go.Proofs.YtlkjgafnjmfgiaaDoor
namespace Go.Proofs.YtlkjgafnjmfgiaaDoor
open Go Go.RowKit Eng Sp Dg
set_option linter.unusedVariables false
set_option linter.unusedSimpArgs false
namespace L2

/-- Types of rows: no local variable's block has such a type. -/
def rowTy (t : TypeId) : Bool := t == tU64 || t == tInt || t == tU64s || t == tInts || t == 43 || t == 40
def noU (cs : Array Value) : Bool := cs.toList.all fun v => match v with
  | .int .u64 _ => false
  | _ => true
/-- The block's cells. -/
def Blt (w : World) (b : Nat) (t : TypeId) (cs : Array Value) : Prop := w.heap[b]? = some (Obj.cells cs t (0, 0))
/-- Rows of numbers stay, and every limb. -/
structure Ext (w w' : World) : Prop where
  size : w.heap.size ≤ w'.heap.size
  row : ∀ (k : Nat) (cs : Array Value) (t : TypeId) (m : Nat × Nat), w.heap[k]? = some (Obj.cells cs t m) → rowTy t = true → w'.heap[k]? = some (Obj.cells cs t m)
  cell : ∀ (ad : Addr) (x : Int), w.cell? ad = some (.int .u64 x) → w'.cell? ad = some (.int .u64 x)
theorem Ext.refl (w : World) : Ext w w := ⟨Nat.le_refl _, fun _ _ _ _ h _ => h, fun _ _ h => h⟩
theorem Ext.trans {a b c : World} (h : Ext a b) (k : Ext b c) : Ext a c :=
  ⟨Nat.le_trans h.size k.size, fun i cs t m hi ht => k.row i cs t m (h.row i cs t m hi ht) ht, fun ad x hx => k.cell ad x (h.cell ad x hx)⟩
theorem Ext.of_ahead {a b : World} (h : Ahead a b) : Ext a b :=
  ⟨h.size, fun k cs t m hk _ => by rw [Below.block h k (Array.getElem?_eq_some_iff.1 hk).1]; exact hk, fun ad x hx => h.cell hx⟩
theorem _root_.Go.Proofs.YtlkjgafnjmfgiaaDoor.Eng.Ahead.ext {a b : World} (h : Ahead a b) : Ext a b := Ext.of_ahead h

theorem Blt.lt {w : World} {b : Nat} {t : TypeId} {cs : Array Value} (h : Blt w b t cs) : b < w.heap.size := (Array.getElem?_eq_some_iff.1 h).1
theorem Blt.ahead {w w' : World} {b : Nat} {t : TypeId} {cs : Array Value} (h : Blt w b t cs) (ha : Ahead w w') : Blt w' b t cs := by
  unfold Blt; rw [Below.block ha b h.lt]; exact h
theorem Blt.cell {w : World} {b i : Nat} {t : TypeId} {cs : Array Value} {v : Value} (h : Blt w b t cs) (hc : cs[i]? = some v) : w.cell? ⟨b, i, none⟩ = some v := by
  unfold Blt at h
  simp [World.cell?, h, hc]

theorem newC_t {w : World} {cs : Array Value} {t : TypeId} {K : Addr → World → Prop} (h : ∀ b w', b = w.heap.size → Ahead w w' → w'.heap.size = b + 1 → Blt w' b t cs → K ⟨b, 0, none⟩ w') : newC w cs t K :=
  h _ _ rfl (Ahead.alloc _ _) (size_alloc _ _) (get_alloc _ _)
theorem newC_map {w : World} {cs : Array Value} {t : TypeId} {K K' : Addr → World → Prop} (h : newC w cs t K) (hk : ∀ ad w', Ahead w w' → K ad w' → K' ad w') : newC w cs t K' :=
  hk _ _ (Ahead.alloc _ _) h

/-- Nothing but the block has changed; it holds no limb, before and behind. -/
structure Upt (b : Nat) (w w' : World) : Prop where
  os : w'.os = w.os
  tape : w'.tape = w.tape
  output : w'.output = w.output
  size : w'.heap.size = w.heap.size
  block : ∀ k, k ≠ b → w'.heap[k]? = w.heap[k]?
  ext : Ext w w'
theorem Upt.trans {b : Nat} {x y z : World} (h : Upt b x y) (k : Upt b y z) : Upt b x z :=
  ⟨k.os.trans h.os, k.tape.trans h.tape, k.output.trans h.output, k.size.trans h.size, fun i hi => (k.block i hi).trans (h.block i hi), h.ext.trans k.ext⟩
theorem Upt.ahead {b : Nat} {w0 w w' : World} (h : Upt b w w') (ha : Ahead w0 w) (hb : w0.heap.size ≤ b) : Ahead w0 w' :=
  Below.trans ha ⟨h.os, h.tape, h.output, Nat.le_of_eq h.size.symm, fun k hk => h.block k (by omega)⟩
theorem Upt.blt {b k : Nat} {w w' : World} {t : TypeId} {cs : Array Value} (h : Upt k w w') (hr : Blt w b t cs) (hne : b ≠ k) : Blt w' b t cs := by
  unfold Blt; rw [h.block b hne]; exact hr

theorem no_limb {w : World} {b : Nat} {t : TypeId} {cs : Array Value} (h : Blt w b t cs) (hn : noU cs = true) (ad : Addr) (x : Int) (hc : w.cell? ad = some (.int .u64 x)) : ad.block ≠ b := by
  intro hb
  unfold Blt at h
  rw [World.cell?, hb, h] at hc
  simp only at hc
  split at hc
  · cases hc
  · have hm := Array.mem_of_getElem? hc
    unfold noU at hn
    have := List.all_eq_true.1 hn _ (Array.mem_toList_iff.2 hm)
    simp at this

theorem stC_t (i : Nat) {w : World} {b : Nat} {t : TypeId} {cs : Array Value} {ad : Addr} {v : Value} {K : World → Prop} (h : Blt w b t cs) (hi : Nat.blt i cs.size = true) (hn : noU cs = true) (ht : rowTy t = false)
    (hk : ∀ w', Upt b w w' → Blt w' b t (cs.setIfInBounds i v) → K w') (hA : ad = ⟨b, i, none⟩ := by first | rfl | exact add_off) : stC ad v w K := by
  subst hA
  have hi' : i < cs.size := by simpa [Nat.blt_eq] using hi
  have hh : w.heap[b]? = some (Obj.cells cs t (0, 0)) := h
  have hlt := (Array.getElem?_eq_some_iff.1 hh).1
  have hget := (Array.getElem?_eq_some_iff.1 hh).2
  have hblk : ∀ k, k ≠ b → (w.setCell ⟨b, i, none⟩ v).heap[k]? = w.heap[k]? := fun k hk => Below.heap_setCell _ _ _ _ hk
  refine ⟨⟨cs[i], by simp [World.cell?, hh, hi']⟩, by simp [World.frozen?, hh], hk _ ⟨rfl, rfl, rfl, by simp [World.setCell], hblk, ⟨by simp [World.setCell], fun k cs' t' m hk' ht' => ?_, fun ad x hx => ?_⟩⟩ ?_⟩
  · by_cases e : k = b
    · subst e
      rw [hh] at hk'
      have := Option.some.inj hk'
      injection this with h1 h2 h3
      subst h2
      rw [ht] at ht'
      cases ht'
    · rw [hblk k e]; exact hk'
  · have hne := no_limb h hn ad x hx
    rw [World.cell?_of_block (hblk _ hne)]; exact hx
  · unfold Blt
    simp [World.setCell, Array.getElem?_modify, hh]

theorem nl {a b : Nat} (h : a < b) : a ≠ b := Nat.ne_of_lt h
theorem ng {a b : Nat} (h : b < a) : a ≠ b := Nat.ne_of_gt h
theorem exE {α : Sort _} {p : α → Prop} {G : Prop} (f : ∀ x, p x → G) : (∃ x, p x) → G := fun ⟨x, h⟩ => f x h
theorem anE {a b G : Prop} (f : a → b → G) : a ∧ b → G := fun ⟨x, h⟩ => f x h
theorem nd {a b : Nat} {P : Prop} (h : P) (d : a ≠ b := by first | exact nl (by assumption) | exact ng (by assumption) | assumption | exact Ne.symm (by assumption) | omega) : a ≠ b ∧ P := ⟨d, h⟩
theorem up1 {k : Nat} {w w' : World} (u : Upt k w w') {b1 : Nat} {t1 : TypeId} {c1 : Array Value} (h1 : Blt w b1 t1 c1) (d : b1 ≠ k := by first | exact nl (by assumption) | exact ng (by assumption) | assumption | exact Ne.symm (by assumption) | omega) : Blt w' b1 t1 c1 := u.blt h1 d
theorem lt1 {b : Nat} {w : World} (e : b = w.heap.size) {b1 : Nat} {t1 : TypeId} {c1 : Array Value} (h1 : Blt w b1 t1 c1) : b1 < b := by
  subst e
  exact h1.lt
theorem ah2 {w w' : World} (a : Ahead w w') {b1 b2 : Nat} {t1 t2 : TypeId} {c1 c2 : Array Value} (h1 : Blt w b1 t1 c1) (h2 : Blt w b2 t2 c2) : Blt w' b1 t1 c1 ∧ Blt w' b2 t2 c2 := ⟨h1.ahead a, h2.ahead a⟩
theorem up2 {k : Nat} {w w' : World} (u : Upt k w w') {b1 b2 : Nat} {t1 t2 : TypeId} {c1 c2 : Array Value} (h1 : Blt w b1 t1 c1) (h2 : Blt w b2 t2 c2) (d : b1 ≠ k ∧ b2 ≠ k := by refine ⟨?_, ?_⟩ <;> first | exact nl (by assumption) | exact ng (by assumption) | assumption | exact Ne.symm (by assumption) | omega) : Blt w' b1 t1 c1 ∧ Blt w' b2 t2 c2 := by
  obtain ⟨d1, d2⟩ := d
  exact ⟨u.blt h1 d1, u.blt h2 d2⟩
theorem lt2 {b : Nat} {w : World} (e : b = w.heap.size) {b1 b2 : Nat} {t1 t2 : TypeId} {c1 c2 : Array Value} (h1 : Blt w b1 t1 c1) (h2 : Blt w b2 t2 c2) : b1 < b ∧ b2 < b := by
  subst e
  exact ⟨h1.lt, h2.lt⟩
theorem ah3 {w w' : World} (a : Ahead w w') {b1 b2 b3 : Nat} {t1 t2 t3 : TypeId} {c1 c2 c3 : Array Value} (h1 : Blt w b1 t1 c1) (h2 : Blt w b2 t2 c2) (h3 : Blt w b3 t3 c3) : Blt w' b1 t1 c1 ∧ Blt w' b2 t2 c2 ∧ Blt w' b3 t3 c3 := ⟨h1.ahead a, h2.ahead a, h3.ahead a⟩
theorem up3 {k : Nat} {w w' : World} (u : Upt k w w') {b1 b2 b3 : Nat} {t1 t2 t3 : TypeId} {c1 c2 c3 : Array Value} (h1 : Blt w b1 t1 c1) (h2 : Blt w b2 t2 c2) (h3 : Blt w b3 t3 c3) (d : b1 ≠ k ∧ b2 ≠ k ∧ b3 ≠ k := by refine ⟨?_, ?_, ?_⟩ <;> first | exact nl (by assumption) | exact ng (by assumption) | assumption | exact Ne.symm (by assumption) | omega) : Blt w' b1 t1 c1 ∧ Blt w' b2 t2 c2 ∧ Blt w' b3 t3 c3 := by
  obtain ⟨d1, d2, d3⟩ := d
  exact ⟨u.blt h1 d1, u.blt h2 d2, u.blt h3 d3⟩
theorem lt3 {b : Nat} {w : World} (e : b = w.heap.size) {b1 b2 b3 : Nat} {t1 t2 t3 : TypeId} {c1 c2 c3 : Array Value} (h1 : Blt w b1 t1 c1) (h2 : Blt w b2 t2 c2) (h3 : Blt w b3 t3 c3) : b1 < b ∧ b2 < b ∧ b3 < b := by
  subst e
  exact ⟨h1.lt, h2.lt, h3.lt⟩
theorem ah4 {w w' : World} (a : Ahead w w') {b1 b2 b3 b4 : Nat} {t1 t2 t3 t4 : TypeId} {c1 c2 c3 c4 : Array Value} (h1 : Blt w b1 t1 c1) (h2 : Blt w b2 t2 c2) (h3 : Blt w b3 t3 c3) (h4 : Blt w b4 t4 c4) : Blt w' b1 t1 c1 ∧ Blt w' b2 t2 c2 ∧ Blt w' b3 t3 c3 ∧ Blt w' b4 t4 c4 := ⟨h1.ahead a, h2.ahead a, h3.ahead a, h4.ahead a⟩
theorem up4 {k : Nat} {w w' : World} (u : Upt k w w') {b1 b2 b3 b4 : Nat} {t1 t2 t3 t4 : TypeId} {c1 c2 c3 c4 : Array Value} (h1 : Blt w b1 t1 c1) (h2 : Blt w b2 t2 c2) (h3 : Blt w b3 t3 c3) (h4 : Blt w b4 t4 c4) (d : b1 ≠ k ∧ b2 ≠ k ∧ b3 ≠ k ∧ b4 ≠ k := by refine ⟨?_, ?_, ?_, ?_⟩ <;> first | exact nl (by assumption) | exact ng (by assumption) | assumption | exact Ne.symm (by assumption) | omega) : Blt w' b1 t1 c1 ∧ Blt w' b2 t2 c2 ∧ Blt w' b3 t3 c3 ∧ Blt w' b4 t4 c4 := by
  obtain ⟨d1, d2, d3, d4⟩ := d
  exact ⟨u.blt h1 d1, u.blt h2 d2, u.blt h3 d3, u.blt h4 d4⟩
theorem lt4 {b : Nat} {w : World} (e : b = w.heap.size) {b1 b2 b3 b4 : Nat} {t1 t2 t3 t4 : TypeId} {c1 c2 c3 c4 : Array Value} (h1 : Blt w b1 t1 c1) (h2 : Blt w b2 t2 c2) (h3 : Blt w b3 t3 c3) (h4 : Blt w b4 t4 c4) : b1 < b ∧ b2 < b ∧ b3 < b ∧ b4 < b := by
  subst e
  exact ⟨h1.lt, h2.lt, h3.lt, h4.lt⟩
theorem ah5 {w w' : World} (a : Ahead w w') {b1 b2 b3 b4 b5 : Nat} {t1 t2 t3 t4 t5 : TypeId} {c1 c2 c3 c4 c5 : Array Value} (h1 : Blt w b1 t1 c1) (h2 : Blt w b2 t2 c2) (h3 : Blt w b3 t3 c3) (h4 : Blt w b4 t4 c4) (h5 : Blt w b5 t5 c5) : Blt w' b1 t1 c1 ∧ Blt w' b2 t2 c2 ∧ Blt w' b3 t3 c3 ∧ Blt w' b4 t4 c4 ∧ Blt w' b5 t5 c5 := ⟨h1.ahead a, h2.ahead a, h3.ahead a, h4.ahead a, h5.ahead a⟩
theorem up5 {k : Nat} {w w' : World} (u : Upt k w w') {b1 b2 b3 b4 b5 : Nat} {t1 t2 t3 t4 t5 : TypeId} {c1 c2 c3 c4 c5 : Array Value} (h1 : Blt w b1 t1 c1) (h2 : Blt w b2 t2 c2) (h3 : Blt w b3 t3 c3) (h4 : Blt w b4 t4 c4) (h5 : Blt w b5 t5 c5) (d : b1 ≠ k ∧ b2 ≠ k ∧ b3 ≠ k ∧ b4 ≠ k ∧ b5 ≠ k := by refine ⟨?_, ?_, ?_, ?_, ?_⟩ <;> first | exact nl (by assumption) | exact ng (by assumption) | assumption | exact Ne.symm (by assumption) | omega) : Blt w' b1 t1 c1 ∧ Blt w' b2 t2 c2 ∧ Blt w' b3 t3 c3 ∧ Blt w' b4 t4 c4 ∧ Blt w' b5 t5 c5 := by
  obtain ⟨d1, d2, d3, d4, d5⟩ := d
  exact ⟨u.blt h1 d1, u.blt h2 d2, u.blt h3 d3, u.blt h4 d4, u.blt h5 d5⟩
theorem lt5 {b : Nat} {w : World} (e : b = w.heap.size) {b1 b2 b3 b4 b5 : Nat} {t1 t2 t3 t4 t5 : TypeId} {c1 c2 c3 c4 c5 : Array Value} (h1 : Blt w b1 t1 c1) (h2 : Blt w b2 t2 c2) (h3 : Blt w b3 t3 c3) (h4 : Blt w b4 t4 c4) (h5 : Blt w b5 t5 c5) : b1 < b ∧ b2 < b ∧ b3 < b ∧ b4 < b ∧ b5 < b := by
  subst e
  exact ⟨h1.lt, h2.lt, h3.lt, h4.lt, h5.lt⟩
theorem ah6 {w w' : World} (a : Ahead w w') {b1 b2 b3 b4 b5 b6 : Nat} {t1 t2 t3 t4 t5 t6 : TypeId} {c1 c2 c3 c4 c5 c6 : Array Value} (h1 : Blt w b1 t1 c1) (h2 : Blt w b2 t2 c2) (h3 : Blt w b3 t3 c3) (h4 : Blt w b4 t4 c4) (h5 : Blt w b5 t5 c5) (h6 : Blt w b6 t6 c6) : Blt w' b1 t1 c1 ∧ Blt w' b2 t2 c2 ∧ Blt w' b3 t3 c3 ∧ Blt w' b4 t4 c4 ∧ Blt w' b5 t5 c5 ∧ Blt w' b6 t6 c6 := ⟨h1.ahead a, h2.ahead a, h3.ahead a, h4.ahead a, h5.ahead a, h6.ahead a⟩
theorem up6 {k : Nat} {w w' : World} (u : Upt k w w') {b1 b2 b3 b4 b5 b6 : Nat} {t1 t2 t3 t4 t5 t6 : TypeId} {c1 c2 c3 c4 c5 c6 : Array Value} (h1 : Blt w b1 t1 c1) (h2 : Blt w b2 t2 c2) (h3 : Blt w b3 t3 c3) (h4 : Blt w b4 t4 c4) (h5 : Blt w b5 t5 c5) (h6 : Blt w b6 t6 c6) (d : b1 ≠ k ∧ b2 ≠ k ∧ b3 ≠ k ∧ b4 ≠ k ∧ b5 ≠ k ∧ b6 ≠ k := by refine ⟨?_, ?_, ?_, ?_, ?_, ?_⟩ <;> first | exact nl (by assumption) | exact ng (by assumption) | assumption | exact Ne.symm (by assumption) | omega) : Blt w' b1 t1 c1 ∧ Blt w' b2 t2 c2 ∧ Blt w' b3 t3 c3 ∧ Blt w' b4 t4 c4 ∧ Blt w' b5 t5 c5 ∧ Blt w' b6 t6 c6 := by
  obtain ⟨d1, d2, d3, d4, d5, d6⟩ := d
  exact ⟨u.blt h1 d1, u.blt h2 d2, u.blt h3 d3, u.blt h4 d4, u.blt h5 d5, u.blt h6 d6⟩
theorem lt6 {b : Nat} {w : World} (e : b = w.heap.size) {b1 b2 b3 b4 b5 b6 : Nat} {t1 t2 t3 t4 t5 t6 : TypeId} {c1 c2 c3 c4 c5 c6 : Array Value} (h1 : Blt w b1 t1 c1) (h2 : Blt w b2 t2 c2) (h3 : Blt w b3 t3 c3) (h4 : Blt w b4 t4 c4) (h5 : Blt w b5 t5 c5) (h6 : Blt w b6 t6 c6) : b1 < b ∧ b2 < b ∧ b3 < b ∧ b4 < b ∧ b5 < b ∧ b6 < b := by
  subst e
  exact ⟨h1.lt, h2.lt, h3.lt, h4.lt, h5.lt, h6.lt⟩
theorem ah7 {w w' : World} (a : Ahead w w') {b1 b2 b3 b4 b5 b6 b7 : Nat} {t1 t2 t3 t4 t5 t6 t7 : TypeId} {c1 c2 c3 c4 c5 c6 c7 : Array Value} (h1 : Blt w b1 t1 c1) (h2 : Blt w b2 t2 c2) (h3 : Blt w b3 t3 c3) (h4 : Blt w b4 t4 c4) (h5 : Blt w b5 t5 c5) (h6 : Blt w b6 t6 c6) (h7 : Blt w b7 t7 c7) : Blt w' b1 t1 c1 ∧ Blt w' b2 t2 c2 ∧ Blt w' b3 t3 c3 ∧ Blt w' b4 t4 c4 ∧ Blt w' b5 t5 c5 ∧ Blt w' b6 t6 c6 ∧ Blt w' b7 t7 c7 := ⟨h1.ahead a, h2.ahead a, h3.ahead a, h4.ahead a, h5.ahead a, h6.ahead a, h7.ahead a⟩
theorem up7 {k : Nat} {w w' : World} (u : Upt k w w') {b1 b2 b3 b4 b5 b6 b7 : Nat} {t1 t2 t3 t4 t5 t6 t7 : TypeId} {c1 c2 c3 c4 c5 c6 c7 : Array Value} (h1 : Blt w b1 t1 c1) (h2 : Blt w b2 t2 c2) (h3 : Blt w b3 t3 c3) (h4 : Blt w b4 t4 c4) (h5 : Blt w b5 t5 c5) (h6 : Blt w b6 t6 c6) (h7 : Blt w b7 t7 c7) (d : b1 ≠ k ∧ b2 ≠ k ∧ b3 ≠ k ∧ b4 ≠ k ∧ b5 ≠ k ∧ b6 ≠ k ∧ b7 ≠ k := by refine ⟨?_, ?_, ?_, ?_, ?_, ?_, ?_⟩ <;> first | exact nl (by assumption) | exact ng (by assumption) | assumption | exact Ne.symm (by assumption) | omega) : Blt w' b1 t1 c1 ∧ Blt w' b2 t2 c2 ∧ Blt w' b3 t3 c3 ∧ Blt w' b4 t4 c4 ∧ Blt w' b5 t5 c5 ∧ Blt w' b6 t6 c6 ∧ Blt w' b7 t7 c7 := by
  obtain ⟨d1, d2, d3, d4, d5, d6, d7⟩ := d
  exact ⟨u.blt h1 d1, u.blt h2 d2, u.blt h3 d3, u.blt h4 d4, u.blt h5 d5, u.blt h6 d6, u.blt h7 d7⟩
theorem lt7 {b : Nat} {w : World} (e : b = w.heap.size) {b1 b2 b3 b4 b5 b6 b7 : Nat} {t1 t2 t3 t4 t5 t6 t7 : TypeId} {c1 c2 c3 c4 c5 c6 c7 : Array Value} (h1 : Blt w b1 t1 c1) (h2 : Blt w b2 t2 c2) (h3 : Blt w b3 t3 c3) (h4 : Blt w b4 t4 c4) (h5 : Blt w b5 t5 c5) (h6 : Blt w b6 t6 c6) (h7 : Blt w b7 t7 c7) : b1 < b ∧ b2 < b ∧ b3 < b ∧ b4 < b ∧ b5 < b ∧ b6 < b ∧ b7 < b := by
  subst e
  exact ⟨h1.lt, h2.lt, h3.lt, h4.lt, h5.lt, h6.lt, h7.lt⟩
theorem ah8 {w w' : World} (a : Ahead w w') {b1 b2 b3 b4 b5 b6 b7 b8 : Nat} {t1 t2 t3 t4 t5 t6 t7 t8 : TypeId} {c1 c2 c3 c4 c5 c6 c7 c8 : Array Value} (h1 : Blt w b1 t1 c1) (h2 : Blt w b2 t2 c2) (h3 : Blt w b3 t3 c3) (h4 : Blt w b4 t4 c4) (h5 : Blt w b5 t5 c5) (h6 : Blt w b6 t6 c6) (h7 : Blt w b7 t7 c7) (h8 : Blt w b8 t8 c8) : Blt w' b1 t1 c1 ∧ Blt w' b2 t2 c2 ∧ Blt w' b3 t3 c3 ∧ Blt w' b4 t4 c4 ∧ Blt w' b5 t5 c5 ∧ Blt w' b6 t6 c6 ∧ Blt w' b7 t7 c7 ∧ Blt w' b8 t8 c8 := ⟨h1.ahead a, h2.ahead a, h3.ahead a, h4.ahead a, h5.ahead a, h6.ahead a, h7.ahead a, h8.ahead a⟩
theorem up8 {k : Nat} {w w' : World} (u : Upt k w w') {b1 b2 b3 b4 b5 b6 b7 b8 : Nat} {t1 t2 t3 t4 t5 t6 t7 t8 : TypeId} {c1 c2 c3 c4 c5 c6 c7 c8 : Array Value} (h1 : Blt w b1 t1 c1) (h2 : Blt w b2 t2 c2) (h3 : Blt w b3 t3 c3) (h4 : Blt w b4 t4 c4) (h5 : Blt w b5 t5 c5) (h6 : Blt w b6 t6 c6) (h7 : Blt w b7 t7 c7) (h8 : Blt w b8 t8 c8) (d : b1 ≠ k ∧ b2 ≠ k ∧ b3 ≠ k ∧ b4 ≠ k ∧ b5 ≠ k ∧ b6 ≠ k ∧ b7 ≠ k ∧ b8 ≠ k := by refine ⟨?_, ?_, ?_, ?_, ?_, ?_, ?_, ?_⟩ <;> first | exact nl (by assumption) | exact ng (by assumption) | assumption | exact Ne.symm (by assumption) | omega) : Blt w' b1 t1 c1 ∧ Blt w' b2 t2 c2 ∧ Blt w' b3 t3 c3 ∧ Blt w' b4 t4 c4 ∧ Blt w' b5 t5 c5 ∧ Blt w' b6 t6 c6 ∧ Blt w' b7 t7 c7 ∧ Blt w' b8 t8 c8 := by
  obtain ⟨d1, d2, d3, d4, d5, d6, d7, d8⟩ := d
  exact ⟨u.blt h1 d1, u.blt h2 d2, u.blt h3 d3, u.blt h4 d4, u.blt h5 d5, u.blt h6 d6, u.blt h7 d7, u.blt h8 d8⟩
theorem lt8 {b : Nat} {w : World} (e : b = w.heap.size) {b1 b2 b3 b4 b5 b6 b7 b8 : Nat} {t1 t2 t3 t4 t5 t6 t7 t8 : TypeId} {c1 c2 c3 c4 c5 c6 c7 c8 : Array Value} (h1 : Blt w b1 t1 c1) (h2 : Blt w b2 t2 c2) (h3 : Blt w b3 t3 c3) (h4 : Blt w b4 t4 c4) (h5 : Blt w b5 t5 c5) (h6 : Blt w b6 t6 c6) (h7 : Blt w b7 t7 c7) (h8 : Blt w b8 t8 c8) : b1 < b ∧ b2 < b ∧ b3 < b ∧ b4 < b ∧ b5 < b ∧ b6 < b ∧ b7 < b ∧ b8 < b := by
  subst e
  exact ⟨h1.lt, h2.lt, h3.lt, h4.lt, h5.lt, h6.lt, h7.lt, h8.lt⟩
theorem st2_t {w : World} {b : Nat} {t : TypeId} {c0 c1 v0 v1 : Value} {ad0 ad1 : Addr} {K : World → Prop} (h : Blt w b t #[c0, c1]) (n0 : noU #[c0, c1] = true) (n1 : noU #[v0, c1] = true) (ht : rowTy t = false)
    (hk : ∀ w', Upt b w w' → Blt w' b t #[v0, v1] → K w') (hA0 : ad0 = ⟨b, 0, none⟩ := by first | rfl | exact add_off) (hA1 : ad1 = ⟨b, 1, none⟩ := by first | rfl | exact add_off) : stC ad0 v0 w fun w1 => stC ad1 v1 w1 K :=
  stC_t 0 h rfl n0 ht (fun w1 u1 h1 => stC_t 1 (show Blt w1 b t #[v0, c1] from h1) rfl n1 ht (fun w2 u2 h2 => hk w2 (u1.trans u2) h2) hA1) hA0
theorem st3_t {w : World} {b : Nat} {t : TypeId} {c0 c1 c2 v0 v1 v2 : Value} {ad0 ad1 ad2 : Addr} {K : World → Prop} (h : Blt w b t #[c0, c1, c2]) (n0 : noU #[c0, c1, c2] = true) (n1 : noU #[v0, c1, c2] = true) (n2 : noU #[v0, v1, c2] = true) (ht : rowTy t = false)
    (hk : ∀ w', Upt b w w' → Blt w' b t #[v0, v1, v2] → K w') (hA0 : ad0 = ⟨b, 0, none⟩ := by first | rfl | exact add_off) (hA1 : ad1 = ⟨b, 1, none⟩ := by first | rfl | exact add_off) (hA2 : ad2 = ⟨b, 2, none⟩ := by first | rfl | exact add_off) : stC ad0 v0 w fun w1 => stC ad1 v1 w1 fun w2 => stC ad2 v2 w2 K :=
  stC_t 0 h rfl n0 ht (fun w1 u1 h1 => stC_t 1 (show Blt w1 b t #[v0, c1, c2] from h1) rfl n1 ht (fun w2 u2 h2 => stC_t 2 (show Blt w2 b t #[v0, v1, c2] from h2) rfl n2 ht (fun w3 u3 h3 => hk w3 ((u1.trans u2).trans u3) h3) hA2) hA1) hA0

theorem le_eq {a b c : Nat} (h : a ≤ b) (e : c = b) : a ≤ c := by omega
theorem bb2 {w w' : World} {V0 V1 : Nat → Prop} {P : Prop} (a : Ahead w w') (h : P) : Bar V0 w w' ∧ Bar V1 w w' ∧ P := ⟨Bar.of_ahead a, Bar.of_ahead a, h⟩
theorem axa2 {w0 t w w' : World} (a : Ahead w w') (A : Ahead w0 w) (X : Ext t w) : Ahead w0 w' ∧ Ext t w' := ⟨A.trans a, X.trans (Ext.of_ahead a)⟩
theorem axa3 {w0 t w w' : World} {n : Nat} (a : Ahead w w') (A : Ahead w0 w) (X : Ext t w) (Y : n ≤ w.heap.size) : Ahead w0 w' ∧ Ext t w' ∧ n ≤ w'.heap.size := ⟨A.trans a, X.trans (Ext.of_ahead a), Nat.le_trans Y a.size⟩
theorem axu2 {w0 t w w' : World} {k : Nat} (u : Upt k w w') (g : w0.heap.size ≤ k) (A : Ahead w0 w) (X : Ext t w) : Ahead w0 w' ∧ Ext t w' := ⟨u.ahead A g, X.trans u.ext⟩
theorem axu3 {w0 t w w' : World} {k n : Nat} (u : Upt k w w') (g : w0.heap.size ≤ k) (A : Ahead w0 w) (X : Ext t w) (Y : n ≤ w.heap.size) : Ahead w0 w' ∧ Ext t w' ∧ n ≤ w'.heap.size := ⟨u.ahead A g, X.trans u.ext, Nat.le_trans Y (Nat.le_of_eq u.size.symm)⟩
theorem ldB_t (i : Nat) {w : World} {b : Nat} {t : TypeId} {cs : Array Value} {ad : Addr} {x : Bool} {K : Bool → Prop} (h : Blt w b t cs) (hc : cs[i]? = some (.bool x)) (hk : K x) (hA : ad = ⟨b, i, none⟩ := by first | rfl | exact add_off) : ldB ad w K := by
  subst hA; exact ⟨x, h.cell hc, hk⟩
theorem ldS_t (i : Nat) {w : World} {b : Nat} {t : TypeId} {cs : Array Value} {ad : Addr} {x : Slc} {K : Slc → Prop} (h : Blt w b t cs) (hc : cs[i]? = some x.v) (hk : K x) (hA : ad = ⟨b, i, none⟩ := by first | rfl | exact add_off) : ldS ad w K := by
  subst hA; exact ⟨x, h.cell hc, hk⟩
theorem ldI_t (i : Nat) {w : World} {b : Nat} {t : TypeId} {cs : Array Value} {ad : Addr} {k : IntKind} {x : Int} {K : Int → Prop} (h : Blt w b t cs) (hc : cs[i]? = some (.int k x)) (hk : K x) (hA : ad = ⟨b, i, none⟩ := by first | rfl | exact add_off) : ldI k ad w K := by
  subst hA; exact ⟨x, h.cell hc, hk⟩

theorem out_t {V : Nat → Prop} {ad : Addr} {b i : Nat} {p : Prop} (hA : ad = ⟨b, i, none⟩) (hv : ¬ V b) (h : p) : Out V ad p := by subst hA; exact ⟨hv, h⟩
theorem br_map {b : Bool} {X Y X' Y' : Prop} (h : br b X Y) (hx : X → X') (hy : Y → Y') : br b X' Y' := by cases b; exact hy h; exact hx h
section
variable {P : Program} {e : Sem Value} {w : World}
end

theorem _root_.Go.Proofs.YtlkjgafnjmfgiaaDoor.Sp.Rd.ext {w w' : World} {s : Slc} {l : List Int} (h : Rd .u64 w s l) (x : Ext w w') : Rd .u64 w' s l :=
  ⟨h.n, h.c, fun i hi => by obtain ⟨ad, e, hc⟩ := h.get i hi; exact ⟨ad, e, x.cell _ _ hc⟩⟩
theorem _root_.Go.Proofs.YtlkjgafnjmfgiaaDoor.Sp.Own.ext {k : IntKind} {t : TypeId} {w w' : World} {s : Slc} {l : List Int} {b : Nat} (h : Own k t w s l b) (x : Ext w w') (ht : rowTy t = true := by rfl) : Own k t w' s l b := by
  obtain ⟨sp, h1, h2⟩ := h.mem
  exact ⟨h.hd, sp, h1, x.row _ _ _ _ h2 ht⟩

end L2
end Go.Proofs.YtlkjgafnjmfgiaaDoor
namespace Go.Proofs.YtlkjgafnjmfgiaaDoor
open Go Go.RowKit Eng Sp Dg
set_option linter.unusedVariables false
set_option linter.unusedSimpArgs false
set_option maxRecDepth 100000
namespace Ref
open _root_.Go.Proofs.YtlkjgafnjmfgiaaDoor.Nat (ldN OwnNil)

/-- The slice's row lies in this block. -/
def Bk (s : Slc) (k : Nat) : Prop := s.A = some ⟨k, 0, none⟩

/-- The state of a call of Own: the lists lie apart, in memory from base on; their heads stand in the block ab. -/
structure St (V : Nat → Prop) (base : Nat) (w0 : World) (ab n : Nat) (w : World) (S : Nat → Slc) (L : Nat → List Nat) : Prop where
  low : Below base w0 w
  hab : base ≤ ab
  hsz : base ≤ w.heap.size
  row : w.heap[ab]? = some (.cells ((List.range n).map fun j => (S j).v).toArray tU64s (0, 0))
  own : ∀ j, j < n → OwnNil base w (S j) (L j)
  nab : ∀ j, j < n → ¬ Bk (S j) ab
  apart : ∀ i j k, i < n → j < n → i ≠ j → Bk (S i) k → ¬ Bk (S j) k
  keepV : ∀ k, k < w0.heap.size → ¬ V k → w.heap[k]? = w0.heap[k]?
  vab : V ab
  vbig : ∀ k, w0.heap.size ≤ k → V k
  vS : ∀ j k, j < n → Bk (S j) k → V k

theorem St.ablt {V : Nat → Prop} {base : Nat} {w0 : World} {ab n : Nat} {w : World} {S : Nat → Slc} {L : Nat → List Nat} (h : St V base w0 ab n w S L) : ab < w.heap.size := (Array.getElem?_eq_some_iff.1 h.row).1

theorem OwnNil.block {base : Nat} {w w' : World} {s : Slc} {l : List Nat} (h : OwnNil base w s l) (hb : ∀ k, k < w.heap.size → Bk s k → w'.heap[k]? = w.heap[k]?) : OwnNil base w' s l := by
  rcases h with h | ⟨b, h1, h2, h3⟩
  · exact .inl h
  · refine .inr ⟨b, h1, h2, h3.hd, ?_⟩
    obtain ⟨sp, hc, hm⟩ := h3.mem
    exact ⟨sp, hc, by rw [hb b h3.lt h3.A]; exact hm⟩

theorem St.alloc {V : Nat → Prop} {base : Nat} {w0 : World} {ab n : Nat} {w : World} {S : Nat → Slc} {L : Nat → List Nat} (h : St V base w0 ab n w S L) (o : Obj) : St V base w0 ab n (w.alloc o) S L where
  low := Below.alloc h.low h.hsz o
  hab := h.hab
  hsz := by rw [size_alloc]; have := h.hsz; omega
  row := by rw [Below.heap_alloc _ _ _ h.ablt]; exact h.row
  own := fun j hj => OwnNil.block (h.own j hj) fun k hk _ => Below.heap_alloc _ _ _ hk
  nab := h.nab
  apart := h.apart
  keepV := fun k hk hv => by rw [Below.heap_alloc _ _ _ (Nat.lt_of_lt_of_le hk h.low.size)]; exact h.keepV k hk hv
  vab := h.vab
  vbig := h.vbig
  vS := h.vS

end Ref
end Go.Proofs.YtlkjgafnjmfgiaaDoor
namespace Go.Proofs.YtlkjgafnjmfgiaaDoor
open Go Go.RowKit Eng Sp Dg
set_option linter.unusedVariables false
set_option linter.unusedSimpArgs false
set_option maxRecDepth 100000
namespace Ref
open _root_.Go.Proofs.YtlkjgafnjmfgiaaDoor.Nat (OwnNil Num Ret bigC Yes num_of digs_len_bl)

theorem len32 {l : List Nat} (h : ok B64 l) : (digs B32 (val B64 l)).length ≤ 2 * l.length := by
  refine digs_length_le two32 ?_
  rw [← b64_sq]
  exact val_lt h

end Ref
end Go.Proofs.YtlkjgafnjmfgiaaDoor
namespace Go.Proofs.YtlkjgafnjmfgiaaDoor
open Go Go.RowKit Eng Sp Dg L2
set_option linter.unusedVariables false
namespace Nat
theorem OwnNil.ext {base : Nat} {w w' : World} {s : Slc} {l : List Nat} (h : OwnNil base w s l) (x : Ext w w') : OwnNil base w' s l := by
  rcases h with h | ⟨b, h1, h2, h3⟩
  · exact .inl h
  · exact .inr ⟨b, h1, h2, h3.ext x⟩
theorem Num.ext {w w' : World} {s : Slc} {n : Nat} (h : Num w s n) (x : Ext w w') : Num w' s n := by
  obtain ⟨l, h1, h2⟩ := h
  exact ⟨l, h1.ext x, h2⟩
end Nat
namespace Ref
theorem Lent.ext {base : Nat} {w w' : World} {s t : Slc} {l : List Nat} (h : Lent base w s t l) (x : Ext w w') : Lent base w' s t l := by
  obtain ⟨b, h1, h2, h3, h4⟩ := h
  exact ⟨b, h1, h2, h3.ext x, h4⟩
theorem RN.ext {w w' : World} {s : Slc} {n : Nat} (h : RN w s n) (x : Ext w w') : RN w' s n := Sp.Rd.ext h x
end Ref
end Go.Proofs.YtlkjgafnjmfgiaaDoor
