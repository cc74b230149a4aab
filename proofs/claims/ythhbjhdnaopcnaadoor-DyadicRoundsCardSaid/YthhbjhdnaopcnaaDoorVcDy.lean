/- Verification conditions of some of the program's functions, printed by a program of this session. No condition. -/
import Derived.Test.YthhbjhdnaopcnaaDoorProg
import Derived.Test.YthhbjhdnaopcnaaDoorEng
namespace Go.Proofs.YthhbjhdnaopcnaaDoor
open Go Go.RowKit Eng
set_option linter.unusedVariables false

def nat_Tail_cut (J0 : Slc → Int → Int → World → Prop) (m0 : Slc → Int → Int → World → Nat) : Nat → Option ((Act → World → Prop) × (Act → World → Nat))
  | 0 => some (fun a_ w_ => atSz a_ 20 (atS a_ 5 fun t5 => atI .i64 a_ 6 fun t6 => atI .i64 a_ 7 fun t7 => J0 t5 t6 t7 w_), fun a_ w_ => mS a_ 5 fun t5 => mI a_ 6 fun t6 => mI a_ 7 fun t7 => m0 t5 t6 t7 w_)
  | _ => none

set_option maxRecDepth 100000 in
/-- surd/nat.Tail: function 110. -/
theorem nat_Tail_vc (a0_a : Slc) (w : World) (R : Ending → World → Prop)
    (J0 : Slc → Int → Int → World → Prop) (m0 : Slc → Int → Int → World → Nat)
    (h : J0 a0_a (a0_a.n : Int) 0 w)
    (h0 : ∀ (t5 : Slc) (t6 : Int) (t7 : Int) (w_ : World), J0 t5 t6 t7 w_ → 
    br (decide (t7 < t6))
    (semA Tryd.prog (Instr.indexAt 29 t5.v (Value.int .i64 t7)) w_ fun ad1 w1 =>
      ldI .u64 ad1 w1 fun x1 =>
      br (x1 != 0)
      (Calls Tryd.prog 130 #[Value.int .u64 x1] w1 fun e1 w2 =>
        ∃ x2 : Int, e1 = .returned (Value.int .i64 x2) ∧
        (R (.returned (Value.int .i64 (IntKind.i64.wrap ((IntKind.i64.wrap (64 * t7)) + x2)))) w2))
      (J0 t5 t6 (IntKind.i64.wrap (t7 + 1)) w1 ∧
        m0 t5 t6 (IntKind.i64.wrap (t7 + 1)) w1 < m0 t5 t6 t7 w_))
    (R (.returned (Value.int .i64 0)) w_)) :
    Calls Tryd.prog 110 #[a0_a.v] w R := by
  refine calls_of_vc (nat_Tail_cut J0 m0) (by kernel_rfl) Tryd.func110 rfl ?_ ?_
  · refine kcast h ?_; kernel_rfl
  · exact (obl_seq rfl (obl_reg (obl_seq rfl (obl_seq rfl (obl_reg (obl_loop _ rfl (fun a_ w_ hL_ => (by
    obtain ⟨hz_, hd_, hL_⟩ := atSz_out hL_
    obtain ⟨t5, h5_, hL_⟩ := atS_out hL_
    obtain ⟨t6, h6_, hL_⟩ := atI_out hL_
    obtain ⟨t7, h7_, hL_⟩ := atI_out hL_
    obtain ⟨g0, rfl⟩ : ∃ g, a_ = Fr 20 [(5, t5.v), (6, Value.int .i64 t6), (7, Value.int .i64 t7)] g := ⟨_, fr_of hz_ hd_ [(5, t5.v), (6, Value.int .i64 t6), (7, Value.int .i64 t7)] (sel_cons h5_ (sel_cons h6_ (sel_cons h7_ sel_nil)))⟩
    clear hz_ hd_ h5_ h6_ h7_
    have hJ0_ := hL_
    refine ⟨(fun _ => none), kcast (h0 t5 t6 t7 w_ hJ0_) ?_, ?_⟩
    · kernel_rfl
    · exact (obl_seq rfl (obl_reg (obl_seq rfl (obl_cond (obl_skip (obl_exit (obl_seq rfl (obl_blk rfl (obl_seq rfl (obl_reg (obl_seq rfl (obl_reg (obl_cond (obl_seq rfl (obl_reg (obl_ret (obl_skip (obl_reg trivial)))))))))))))))))))) (obl_seq rfl (obl_reg (obl_ret trivial)))))))))

set_option maxRecDepth 100000 in
/-- surd/nat.Bit: function 109. -/
theorem nat_Bit_vc (a0_a : Slc) (a1_i : Int) (w : World) (R : Ending → World → Prop)
    
    (h : br (decide (a1_i < 0))
    (R (.returned (Value.int .i64 0)) w)
    (br (decide ((IntKind.i64.wrap (Int.tdiv a1_i 64)) ≥ (a0_a.n : Int)))
      (R (.returned (Value.int .i64 0)) w)
      (semA Tryd.prog (Instr.indexAt 29 a0_a.v (Value.int .i64 (IntKind.i64.wrap (Int.tdiv a1_i 64)))) w fun ad1 w1 =>
        ldI .u64 ad1 w1 fun x1 =>
        semI Tryd.prog .u64 (binOp .shr 94 (Value.int .u64 x1) (Value.int .u64 (IntKind.u64.wrap (Int.tmod a1_i 64)))) w1 fun x2 w2 =>
        R (.returned (Value.int .i64 (IntKind.i64.wrap (andI .u64 x2 1)))) w2))) :
    Calls Tryd.prog 109 #[a0_a.v, Value.int .i64 a1_i] w R := by
  refine calls_of_vc (fun _ => none) (by kernel_rfl) Tryd.func109 rfl ?_ ?_
  · refine kcast h ?_; kernel_rfl
  · exact (obl_seq rfl (obl_reg (obl_seq rfl (obl_seq rfl (obl_reg (obl_cond (obl_seq rfl (obl_reg (obl_ret (obl_skip (obl_seq rfl (obl_reg (obl_ret trivial)))))))))))))

set_option maxRecDepth 100000 in
/-- surd/nat.From: function 101. -/
theorem nat_From_vc (a0_v : Int) (w : World) (R : Ending → World → Prop)
    
    (h : br (a0_v == 0)
    (R (.returned ((⟨none, 0, 0⟩ : Slc).v)) w)
    (newC w #[Value.int .u64 a0_v] 94 fun ad1 w1 =>
      R (.returned ((⟨some ad1, 1, 1⟩ : Slc).v)) w1)) :
    Calls Tryd.prog 101 #[Value.int .u64 a0_v] w R := by
  refine calls_of_vc (fun _ => none) (by kernel_rfl) Tryd.func101 rfl ?_ ?_
  · refine kcast h ?_; kernel_rfl
  · exact (obl_seq rfl (obl_reg (obl_seq rfl (obl_seq rfl (obl_reg (obl_cond (obl_seq rfl (obl_reg (obl_ret (obl_skip (obl_seq rfl (obl_reg (obl_ret trivial)))))))))))))

set_option maxRecDepth 100000 in
/-- surd/dyadic.odd: function 98. -/
theorem dyadic_odd_vc (a0_m_0 : Bool) (a0_m_1 : Slc) (a1_e : Int) (w : World) (R : Ending → World → Prop)
    
    (h : newC w #[Value.bool a0_m_0, a0_m_1.v] 31 fun ad1 w1 =>
    newC w1 #[Value.bool false, (⟨none, 0, 0⟩ : Slc).v, Value.int .i64 0] 98 fun ad2 w2 =>
    ldB ad1 w2 fun b1 =>
    ldS (ad1.add 1) w2 fun s1 =>
    Calls Tryd.prog 75 #[Value.agg #[Value.bool b1, s1.v]] w2 fun e1 w3 =>
    ∃ x1 : Int, e1 = .returned (Value.int .i64 x1) ∧
    (br (x1 == 0)
      (stC ad2 (Value.bool false) w3 fun w4 =>
        stC (ad2.add 1) ((⟨none, 0, 0⟩ : Slc).v) w4 fun w5 =>
        stC (ad2.add 2) (Value.int .i64 0) w5 fun w6 =>
        ldB ad2 w6 fun b2 =>
        ldS (ad2.add 1) w6 fun s2 =>
        ldI .i64 (ad2.add 2) w6 fun x2 =>
        R (.returned (Value.agg #[Value.bool b2, s2.v, Value.int .i64 x2])) w6)
      (ldS (ad1.add 1) w3 fun s3 =>
        Calls Tryd.prog 126 #[s3.v] w3 fun e2 w7 =>
        ∃ s4 : Slc, e2 = .returned s4.v ∧
        (stC (ad1.add 1) s4.v w7 fun w8 =>
          ldS (ad1.add 1) w8 fun s5 =>
          Calls Tryd.prog 110 #[s5.v] w8 fun e3 w9 =>
          ∃ x3 : Int, e3 = .returned (Value.int .i64 x3) ∧
          (br (decide (x3 > 0))
            (ldS (ad1.add 1) w9 fun s6 =>
              Calls Tryd.prog 108 #[s6.v, Value.int .i64 x3] w9 fun e4 w10 =>
              ∃ s7 : Slc, e4 = .returned s7.v ∧
              (stC (ad1.add 1) s7.v w10 fun w11 =>
                ldB ad1 w11 fun b3 =>
                ldS (ad1.add 1) w11 fun s8 =>
                stC ad2 (Value.bool b3) w11 fun w12 =>
                stC (ad2.add 1) s8.v w12 fun w13 =>
                stC (ad2.add 2) (Value.int .i64 (IntKind.i64.wrap (a1_e + x3))) w13 fun w14 =>
                ldB ad2 w14 fun b4 =>
                ldS (ad2.add 1) w14 fun s9 =>
                ldI .i64 (ad2.add 2) w14 fun x4 =>
                R (.returned (Value.agg #[Value.bool b4, s9.v, Value.int .i64 x4])) w14))
            (ldB ad1 w9 fun b5 =>
              ldS (ad1.add 1) w9 fun s10 =>
              stC ad2 (Value.bool b5) w9 fun w15 =>
              stC (ad2.add 1) s10.v w15 fun w16 =>
              stC (ad2.add 2) (Value.int .i64 (IntKind.i64.wrap (a1_e + x3))) w16 fun w17 =>
              ldB ad2 w17 fun b6 =>
              ldS (ad2.add 1) w17 fun s11 =>
              ldI .i64 (ad2.add 2) w17 fun x5 =>
              R (.returned (Value.agg #[Value.bool b6, s11.v, Value.int .i64 x5])) w17)))))) :
    Calls Tryd.prog 98 #[Value.agg #[Value.bool a0_m_0, a0_m_1.v], Value.int .i64 a1_e] w R := by
  refine calls_of_vc (fun _ => none) (by kernel_rfl) Tryd.func98 rfl ?_ ?_
  · refine kcast h ?_; kernel_rfl
  · exact (obl_seq rfl (obl_reg (obl_seq rfl (obl_seq rfl (obl_reg (obl_cond (obl_seq rfl (obl_reg (obl_ret (obl_skip (obl_seq rfl (obl_reg (obl_seq rfl (obl_reg (obl_seq rfl (obl_seq rfl (obl_reg (obl_cond (obl_reg (obl_skip (obl_seq rfl (obl_reg (obl_ret trivial)))))))))))))))))))))))

def dyadic_shifted_cut (J0 : Slc → Int → Int → Slc → Int → Int → World → Prop) (m0 : Slc → Int → Int → Slc → Int → Int → World → Nat) : Nat → Option ((Act → World → Prop) × (Act → World → Nat))
  | 0 => some (fun a_ w_ => atSz a_ 76 (atS a_ 0 fun t0 => atI .i64 a_ 7 fun t7 => atI .u64 a_ 8 fun t8 => atS a_ 9 fun t9 => atI .i64 a_ 31 fun t31 => atI .i64 a_ 32 fun t32 => J0 t0 t7 t8 t9 t31 t32 w_), fun a_ w_ => mS a_ 0 fun t0 => mI a_ 7 fun t7 => mI a_ 8 fun t8 => mS a_ 9 fun t9 => mI a_ 31 fun t31 => mI a_ 32 fun t32 => m0 t0 t7 t8 t9 t31 t32 w_)
  | _ => none

set_option maxRecDepth 100000 in
/-- surd/dyadic.shifted: function 108. -/
theorem dyadic_shifted_vc (a0 : Slc) (a1 : Int) (w : World) (R : Ending → World → Prop)
    (J0 : Slc → Int → Int → Slc → Int → Int → World → Prop) (m0 : Slc → Int → Int → Slc → Int → Int → World → Nat)
    (h : Calls Tryd.prog 121 #[a0.v, Value.int .i64 a1] w fun e1 w1 =>
    ∃ s1 : Slc, ∃ x1 : Int, e1 = .returned (Value.tuple #[s1.v, Value.int .i64 x1]) ∧
    (br (x1 == 0)
      (R (.returned s1.v) w1)
      (semS Tryd.prog (Instr.makeSlice 29 (Value.int .i64 (IntKind.i64.wrap ((a0.n : Int) - (IntKind.i64.wrap (Int.tdiv a1 64))))) (Value.int .i64 (IntKind.i64.wrap ((a0.n : Int) - (IntKind.i64.wrap (Int.tdiv a1 64)))))) w1 fun s2 w2 =>
        J0 a0 (IntKind.i64.wrap (Int.tdiv a1 64)) (IntKind.u64.wrap (Int.tmod a1 64)) s2 (s2.n : Int) 0 w2)))
    (h0 : ∀ (t0 : Slc) (t7 : Int) (t8 : Int) (t9 : Slc) (t31 : Int) (t32 : Int) (w_ : World), J0 t0 t7 t8 t9 t31 t32 w_ → 
    br (decide (t32 < t31))
    (semA Tryd.prog (Instr.indexAt 29 t0.v (Value.int .i64 (IntKind.i64.wrap (t32 + t7)))) w_ fun ad1 w3 =>
      ldI .u64 ad1 w3 fun x2 =>
      semI Tryd.prog .u64 (binOp .shr 94 (Value.int .u64 x2) (Value.int .u64 t8)) w3 fun x3 w4 =>
      semA Tryd.prog (Instr.indexAt 29 t9.v (Value.int .i64 t32)) w4 fun ad2 w5 =>
      stC ad2 (Value.int .u64 x3) w5 fun w6 =>
      br (decide (t8 > 0))
      (br (decide ((IntKind.i64.wrap ((IntKind.i64.wrap (t32 + t7)) + 1)) < (t0.n : Int)))
        (fixA Tryd.prog (Instr.indexAt 29 t9.v (Value.int .i64 t32)) w6 fun ad3 =>
          ldI .u64 ad3 w6 fun x4 =>
          fixA Tryd.prog (Instr.indexAt 29 t0.v (Value.int .i64 (IntKind.i64.wrap ((IntKind.i64.wrap (t32 + t7)) + 1)))) w6 fun ad4 =>
          ldI .u64 ad4 w6 fun x5 =>
          fixI Tryd.prog .u64 (binOp .shl 94 (Value.int .u64 x5) (Value.int .u64 (IntKind.u64.wrap (64 - t8)))) w6 fun x6 =>
          fixA Tryd.prog (Instr.indexAt 29 t9.v (Value.int .i64 t32)) w6 fun ad5 =>
          stC ad5 (Value.int .u64 (orI .u64 x4 x6)) w6.drew fun w7 =>
          J0 t0 t7 t8 t9 t31 (IntKind.i64.wrap (t32 + 1)) w7 ∧
          m0 t0 t7 t8 t9 t31 (IntKind.i64.wrap (t32 + 1)) w7 < m0 t0 t7 t8 t9 t31 t32 w_)
        (J0 t0 t7 t8 t9 t31 (IntKind.i64.wrap (t32 + 1)) w6 ∧
          m0 t0 t7 t8 t9 t31 (IntKind.i64.wrap (t32 + 1)) w6 < m0 t0 t7 t8 t9 t31 t32 w_))
      (J0 t0 t7 t8 t9 t31 (IntKind.i64.wrap (t32 + 1)) w6 ∧
        m0 t0 t7 t8 t9 t31 (IntKind.i64.wrap (t32 + 1)) w6 < m0 t0 t7 t8 t9 t31 t32 w_))
    (Calls Tryd.prog 126 #[t9.v] w_ fun e2 w8 =>
      ∃ s3 : Slc, e2 = .returned s3.v ∧
      (R (.returned s3.v) w8))) :
    Calls Tryd.prog 108 #[a0.v, Value.int .i64 a1] w R := by
  refine calls_of_vc (dyadic_shifted_cut J0 m0) (by kernel_rfl) Tryd.func108 rfl ?_ ?_
  · refine kcast h ?_; kernel_rfl
  · exact (obl_seq rfl (obl_reg (obl_seq rfl (obl_reg (obl_seq rfl (obl_seq rfl (obl_reg (obl_cond (obl_seq rfl (obl_reg (obl_ret (obl_skip (obl_seq rfl (obl_reg (obl_seq rfl (obl_reg (obl_seq rfl (obl_seq rfl (obl_reg (obl_loop _ rfl (fun a_ w_ hL_ => (by
    obtain ⟨hz_, hd_, hL_⟩ := atSz_out hL_
    obtain ⟨t0, h0_, hL_⟩ := atS_out hL_
    obtain ⟨t7, h7_, hL_⟩ := atI_out hL_
    obtain ⟨t8, h8_, hL_⟩ := atI_out hL_
    obtain ⟨t9, h9_, hL_⟩ := atS_out hL_
    obtain ⟨t31, h31_, hL_⟩ := atI_out hL_
    obtain ⟨t32, h32_, hL_⟩ := atI_out hL_
    obtain ⟨g0, rfl⟩ : ∃ g, a_ = Fr 76 [(0, t0.v), (7, Value.int .i64 t7), (8, Value.int .u64 t8), (9, t9.v), (31, Value.int .i64 t31), (32, Value.int .i64 t32)] g := ⟨_, fr_of hz_ hd_ [(0, t0.v), (7, Value.int .i64 t7), (8, Value.int .u64 t8), (9, t9.v), (31, Value.int .i64 t31), (32, Value.int .i64 t32)] (sel_cons h0_ (sel_cons h7_ (sel_cons h8_ (sel_cons h9_ (sel_cons h31_ (sel_cons h32_ sel_nil))))))⟩
    clear hz_ hd_ h0_ h7_ h8_ h9_ h31_ h32_
    have hJ0_ := hL_
    refine ⟨(fun _ => none), kcast (h0 t0 t7 t8 t9 t31 t32 w_ hJ0_) ?_, ?_⟩
    · kernel_rfl
    · exact (obl_seq rfl (obl_reg (obl_seq rfl (obl_cond (obl_skip (obl_exit (obl_seq rfl (obl_blk rfl (obl_seq rfl (obl_reg (obl_seq rfl (obl_reg (obl_seq rfl (obl_reg (obl_cond (obl_tail 16 (by kernel_rfl) (by kernel_rfl) (by kernel_rfl) (by kernel_rfl) (by kernel_rfl) (obl_skip (obl_reg trivial)))))))))))))))))))) (obl_seq rfl (obl_reg (obl_ret trivial)))))))))))))))))))))))

set_option maxRecDepth 100000 in
/-- surd/dyadic.told: function 64. -/
theorem dyadic_told_vc (a0_m_0 : Bool) (a0_m_1 : Slc) (a1_e : Int) (w : World) (R : Ending → World → Prop)
    
    (h : newC w #[Value.bool a0_m_0, a0_m_1.v] 31 fun ad1 w1 =>
    newC w1 #[Value.bool false, (⟨none, 0, 0⟩ : Slc).v, Value.int .i64 0] 33 fun ad2 w2 =>
    ldB ad1 w2 fun b1 =>
    ldS (ad1.add 1) w2 fun s1 =>
    Calls Tryd.prog 98 #[Value.agg #[Value.bool b1, s1.v], Value.int .i64 a1_e] w2 fun e1 w3 =>
    ∃ b2 : Bool, ∃ s2 : Slc, ∃ x1 : Int, e1 = .returned (Value.agg #[Value.bool b2, s2.v, Value.int .i64 x1]) ∧
    (newC w3 #[Value.bool false, (⟨none, 0, 0⟩ : Slc).v, Value.int .i64 0] 98 fun ad3 w4 =>
      stC ad3 (Value.bool b2) w4 fun w5 =>
      stC (ad3.add 1) s2.v w5 fun w6 =>
      stC (ad3.add 2) (Value.int .i64 x1) w6 fun w7 =>
      ldB ad3 w7 fun b3 =>
      ldS (ad3.add 1) w7 fun s3 =>
      Calls Tryd.prog 71 #[Value.agg #[Value.bool b3, s3.v]] w7 fun e2 w8 =>
      ∃ x2 : Int, e2 = .returned (Value.int .i64 x2) ∧
      (br (x2 == 0)
        (stC ad2 (Value.bool false) w8 fun w9 =>
          stC (ad2.add 1) ((⟨none, 0, 0⟩ : Slc).v) w9 fun w10 =>
          stC (ad2.add 2) (Value.int .i64 0) w10 fun w11 =>
          ldB ad2 w11 fun b4 =>
          ldS (ad2.add 1) w11 fun s4 =>
          ldI .i64 (ad2.add 2) w11 fun x3 =>
          R (.returned (Value.tuple #[Value.agg #[Value.bool b4, s4.v, Value.int .i64 x3], Value.int .i64 0])) w11)
        (ldB ad3 w8 fun b5 =>
          ldS (ad3.add 1) w8 fun s5 =>
          Calls Tryd.prog 73 #[Value.agg #[Value.bool b5, s5.v]] w8 fun e3 w12 =>
          ∃ x4 : Int, e3 = .returned (Value.int .i64 x4) ∧
          (br (decide (x4 > 67108864))
            (stC ad2 (Value.bool false) w12 fun w13 =>
              stC (ad2.add 1) ((⟨none, 0, 0⟩ : Slc).v) w13 fun w14 =>
              stC (ad2.add 2) (Value.int .i64 0) w14 fun w15 =>
              ldB ad2 w15 fun b6 =>
              ldS (ad2.add 1) w15 fun s6 =>
              ldI .i64 (ad2.add 2) w15 fun x5 =>
              R (.returned (Value.tuple #[Value.agg #[Value.bool b6, s6.v, Value.int .i64 x5], Value.int .i64 3])) w15)
            (ldI .i64 (ad3.add 2) w12 fun x6 =>
              Calls Tryd.prog 63 #[Value.int .i64 x6] w12 fun e4 w16 =>
              ∃ b7 : Bool, e4 = .returned (Value.bool b7) ∧
              (br (!b7)
                (stC ad2 (Value.bool false) w16 fun w17 =>
                  stC (ad2.add 1) ((⟨none, 0, 0⟩ : Slc).v) w17 fun w18 =>
                  stC (ad2.add 2) (Value.int .i64 0) w18 fun w19 =>
                  ldB ad2 w19 fun b8 =>
                  ldS (ad2.add 1) w19 fun s7 =>
                  ldI .i64 (ad2.add 2) w19 fun x7 =>
                  R (.returned (Value.tuple #[Value.agg #[Value.bool b8, s7.v, Value.int .i64 x7], Value.int .i64 80])) w19)
                (ldB ad3 w16 fun b9 =>
                  ldS (ad3.add 1) w16 fun s8 =>
                  ldI .i64 (ad3.add 2) w16 fun x8 =>
                  stC ad2 (Value.bool b9) w16 fun w20 =>
                  stC (ad2.add 1) s8.v w20 fun w21 =>
                  stC (ad2.add 2) (Value.int .i64 x8) w21 fun w22 =>
                  ldB ad2 w22 fun b10 =>
                  ldS (ad2.add 1) w22 fun s9 =>
                  ldI .i64 (ad2.add 2) w22 fun x9 =>
                  R (.returned (Value.tuple #[Value.agg #[Value.bool b10, s9.v, Value.int .i64 x9], Value.int .i64 0])) w22)))))))) :
    Calls Tryd.prog 64 #[Value.agg #[Value.bool a0_m_0, a0_m_1.v], Value.int .i64 a1_e] w R := by
  refine calls_of_vc (fun _ => none) (by kernel_rfl) Tryd.func64 rfl ?_ ?_
  · refine kcast h ?_; kernel_rfl
  · exact (obl_seq rfl (obl_reg (obl_seq rfl (obl_reg (obl_seq rfl (obl_blk rfl (obl_seq rfl (obl_reg (obl_cond (obl_seq rfl (obl_reg (obl_ret (obl_seq rfl (obl_reg (obl_cond (obl_seq rfl (obl_reg (obl_ret (obl_seq rfl (obl_reg (obl_cond (obl_seq rfl (obl_reg (obl_ret (obl_skip (obl_seq rfl (obl_reg (obl_ret trivial))))))))))))))))))))))))))))

set_option maxRecDepth 100000 in
/-- surd/dyadic.read: function 62. -/
theorem dyadic_read_vc (a0_a_0 : Bool) (a0_a_1 : Slc) (a0_a_2 : Int) (w : World) (R : Ending → World → Prop)
    
    (h : newC w #[Value.bool a0_a_0, a0_a_1.v, Value.int .i64 a0_a_2] 33 fun ad1 w1 =>
    newC w1 #[Value.bool false, (⟨none, 0, 0⟩ : Slc).v, Value.int .i64 0] 98 fun ad2 w2 =>
    ldI .i64 (ad1.add 2) w2 fun x1 =>
    Calls Tryd.prog 63 #[Value.int .i64 x1] w2 fun e1 w3 =>
    ∃ b1 : Bool, e1 = .returned (Value.bool b1) ∧
    (br (!b1)
      (stC ad2 (Value.bool false) w3 fun w4 =>
        stC (ad2.add 1) ((⟨none, 0, 0⟩ : Slc).v) w4 fun w5 =>
        stC (ad2.add 2) (Value.int .i64 0) w5 fun w6 =>
        ldB ad2 w6 fun b2 =>
        ldS (ad2.add 1) w6 fun s1 =>
        ldI .i64 (ad2.add 2) w6 fun x2 =>
        R (.returned (Value.tuple #[Value.agg #[Value.bool b2, s1.v, Value.int .i64 x2], Value.int .i64 80])) w6)
      (ldB ad1 w3 fun b3 =>
        ldS (ad1.add 1) w3 fun s2 =>
        ldI .i64 (ad1.add 2) w3 fun x3 =>
        Calls Tryd.prog 98 #[Value.agg #[Value.bool b3, s2.v], Value.int .i64 x3] w3 fun e2 w7 =>
        ∃ b4 : Bool, ∃ s3 : Slc, ∃ x4 : Int, e2 = .returned (Value.agg #[Value.bool b4, s3.v, Value.int .i64 x4]) ∧
        (stC ad2 (Value.bool b4) w7 fun w8 =>
          stC (ad2.add 1) s3.v w8 fun w9 =>
          stC (ad2.add 2) (Value.int .i64 x4) w9 fun w10 =>
          ldB ad2 w10 fun b5 =>
          ldS (ad2.add 1) w10 fun s4 =>
          ldI .i64 (ad2.add 2) w10 fun x5 =>
          R (.returned (Value.tuple #[Value.agg #[Value.bool b5, s4.v, Value.int .i64 x5], Value.int .i64 0])) w10)))) :
    Calls Tryd.prog 62 #[Value.agg #[Value.bool a0_a_0, a0_a_1.v, Value.int .i64 a0_a_2]] w R := by
  refine calls_of_vc (fun _ => none) (by kernel_rfl) Tryd.func62 rfl ?_ ?_
  · refine kcast h ?_; kernel_rfl
  · exact (obl_seq rfl (obl_reg (obl_seq rfl (obl_seq rfl (obl_reg (obl_cond (obl_seq rfl (obl_reg (obl_ret (obl_skip (obl_seq rfl (obl_reg (obl_ret trivial)))))))))))))

set_option maxRecDepth 100000 in
/-- surd/dyadic.Make: function 20. -/
theorem dyadic_Make_vc (a0_m_0 : Bool) (a0_m_1 : Slc) (a1_e : Int) (w : World) (R : Ending → World → Prop)
    
    (h : newC w #[Value.bool a0_m_0, a0_m_1.v] 31 fun ad1 w1 =>
    newC w1 #[Value.bool false, (⟨none, 0, 0⟩ : Slc).v, Value.int .i64 0] 33 fun ad2 w2 =>
    Calls Tryd.prog 63 #[Value.int .i64 a1_e] w2 fun e1 w3 =>
    ∃ b1 : Bool, e1 = .returned (Value.bool b1) ∧
    (br (!b1)
      (stC ad2 (Value.bool false) w3 fun w4 =>
        stC (ad2.add 1) ((⟨none, 0, 0⟩ : Slc).v) w4 fun w5 =>
        stC (ad2.add 2) (Value.int .i64 0) w5 fun w6 =>
        ldB ad2 w6 fun b2 =>
        ldS (ad2.add 1) w6 fun s1 =>
        ldI .i64 (ad2.add 2) w6 fun x1 =>
        R (.returned (Value.tuple #[Value.agg #[Value.bool b2, s1.v, Value.int .i64 x1], Value.int .i64 1])) w6)
      (ldB ad1 w3 fun b3 =>
        ldS (ad1.add 1) w3 fun s2 =>
        Calls Tryd.prog 64 #[Value.agg #[Value.bool b3, s2.v], Value.int .i64 a1_e] w3 fun e2 w7 =>
        ∃ b4 : Bool, ∃ s3 : Slc, ∃ x2 : Int, ∃ x3 : Int, e2 = .returned (Value.tuple #[Value.agg #[Value.bool b4, s3.v, Value.int .i64 x2], Value.int .i64 x3]) ∧
        (stC ad2 (Value.bool b4) w7 fun w8 =>
          stC (ad2.add 1) s3.v w8 fun w9 =>
          stC (ad2.add 2) (Value.int .i64 x2) w9 fun w10 =>
          ldB ad2 w10 fun b5 =>
          ldS (ad2.add 1) w10 fun s4 =>
          ldI .i64 (ad2.add 2) w10 fun x4 =>
          R (.returned (Value.tuple #[Value.agg #[Value.bool b5, s4.v, Value.int .i64 x4], Value.int .i64 x3])) w10)))) :
    Calls Tryd.prog 20 #[Value.agg #[Value.bool a0_m_0, a0_m_1.v], Value.int .i64 a1_e] w R := by
  refine calls_of_vc (fun _ => none) (by kernel_rfl) Tryd.func20 rfl ?_ ?_
  · refine kcast h ?_; kernel_rfl
  · exact (obl_seq rfl (obl_reg (obl_seq rfl (obl_seq rfl (obl_reg (obl_cond (obl_seq rfl (obl_reg (obl_ret (obl_skip (obl_seq rfl (obl_reg (obl_ret trivial)))))))))))))

set_option maxRecDepth 100000 in
/-- surd/dyadic.Of: function 23. -/
theorem dyadic_Of_vc (a0_n : Int) (w : World) (R : Ending → World → Prop)
    
    (h : newC w #[Value.bool false, (⟨none, 0, 0⟩ : Slc).v, Value.int .i64 0] 33 fun ad1 w1 =>
    Calls Tryd.prog 70 #[Value.int .i64 a0_n] w1 fun e1 w2 =>
    ∃ b1 : Bool, ∃ s1 : Slc, e1 = .returned (Value.agg #[Value.bool b1, s1.v]) ∧
    (Calls Tryd.prog 64 #[Value.agg #[Value.bool b1, s1.v], Value.int .i64 0] w2 fun e2 w3 =>
      ∃ b2 : Bool, ∃ s2 : Slc, ∃ x1 : Int, ∃ x2 : Int, e2 = .returned (Value.tuple #[Value.agg #[Value.bool b2, s2.v, Value.int .i64 x1], Value.int .i64 x2]) ∧
      (newC w3 #[Value.bool false, (⟨none, 0, 0⟩ : Slc).v, Value.int .i64 0] 33 fun ad2 w4 =>
        stC ad2 (Value.bool b2) w4 fun w5 =>
        stC (ad2.add 1) s2.v w5 fun w6 =>
        stC (ad2.add 2) (Value.int .i64 x1) w6 fun w7 =>
        ldB ad2 w7 fun b3 =>
        ldS (ad2.add 1) w7 fun s3 =>
        ldI .i64 (ad2.add 2) w7 fun x3 =>
        stC ad1 (Value.bool b3) w7 fun w8 =>
        stC (ad1.add 1) s3.v w8 fun w9 =>
        stC (ad1.add 2) (Value.int .i64 x3) w9 fun w10 =>
        ldB ad1 w10 fun b4 =>
        ldS (ad1.add 1) w10 fun s4 =>
        ldI .i64 (ad1.add 2) w10 fun x4 =>
        R (.returned (Value.agg #[Value.bool b4, s4.v, Value.int .i64 x4])) w10))) :
    Calls Tryd.prog 23 #[Value.int .i64 a0_n] w R := by
  refine calls_of_vc (fun _ => none) (by kernel_rfl) Tryd.func23 rfl ?_ ?_
  · refine kcast h ?_; kernel_rfl
  · exact (obl_seq rfl (obl_reg (obl_seq rfl (obl_reg (obl_seq rfl (obl_reg (obl_ret trivial)))))))

set_option maxRecDepth 100000 in
/-- surd/dyadic.within: function 63. -/
theorem dyadic_within_vc (a0_n : Int) (w : World) (R : Ending → World → Prop)
    
    (h : br (decide (a0_n ≥ (-1099511627776)))
    (R (.returned (Value.bool (decide (a0_n ≤ 1099511627776)))) w)
    (R (.returned (Value.bool false)) w)) :
    Calls Tryd.prog 63 #[Value.int .i64 a0_n] w R := by
  refine calls_of_vc (fun _ => none) (by kernel_rfl) Tryd.func63 rfl ?_ ?_
  · refine kcast h ?_; kernel_rfl
  · exact (obl_seq rfl (obl_reg (obl_seq rfl (obl_reg (obl_ret trivial)))))

set_option maxRecDepth 100000 in
/-- surd/whole.Sign: function 75. -/
theorem whole_Sign_vc (a0_a_0 : Bool) (a0_a_1 : Slc) (w : World) (R : Ending → World → Prop)
    
    (h : newC w #[Value.bool a0_a_0, a0_a_1.v] 31 fun ad1 w1 =>
    ldS (ad1.add 1) w1 fun s1 =>
    Calls Tryd.prog 102 #[s1.v] w1 fun e1 w2 =>
    ∃ x1 : Int, e1 = .returned (Value.int .i64 x1) ∧
    (br (x1 == 0)
      (R (.returned (Value.int .i64 0)) w2)
      (ldB ad1 w2 fun b1 =>
        br b1
        (R (.returned (Value.int .i64 (-1))) w2)
        (R (.returned (Value.int .i64 1)) w2)))) :
    Calls Tryd.prog 75 #[Value.agg #[Value.bool a0_a_0, a0_a_1.v]] w R := by
  refine calls_of_vc (fun _ => none) (by kernel_rfl) Tryd.func75 rfl ?_ ?_
  · refine kcast h ?_; kernel_rfl
  · exact (obl_seq rfl (obl_reg (obl_seq rfl (obl_blk rfl (obl_seq rfl (obl_reg (obl_cond (obl_seq rfl (obl_reg (obl_ret (obl_seq rfl (obl_reg (obl_cond (obl_seq rfl (obl_reg (obl_ret (obl_skip (obl_seq rfl (obl_reg (obl_ret trivial))))))))))))))))))))

set_option maxRecDepth 100000 in
/-- surd/whole.Of: function 70. -/
theorem whole_Of_vc (a0_n : Int) (w : World) (R : Ending → World → Prop)
    
    (h : newC w #[Value.bool false, (⟨none, 0, 0⟩ : Slc).v] 31 fun ad1 w1 =>
    br (decide (a0_n < 0))
    (Calls Tryd.prog 101 #[Value.int .u64 (IntKind.u64.wrap (0 - (IntKind.u64.wrap a0_n)))] w1 fun e1 w2 =>
      ∃ s1 : Slc, e1 = .returned s1.v ∧
      (stC ad1 (Value.bool true) w2 fun w3 =>
        stC (ad1.add 1) s1.v w3 fun w4 =>
        ldB ad1 w4 fun b1 =>
        ldS (ad1.add 1) w4 fun s2 =>
        R (.returned (Value.agg #[Value.bool b1, s2.v])) w4))
    (Calls Tryd.prog 101 #[Value.int .u64 (IntKind.u64.wrap a0_n)] w1 fun e2 w5 =>
      ∃ s3 : Slc, e2 = .returned s3.v ∧
      (stC ad1 (Value.bool false) w5 fun w6 =>
        stC (ad1.add 1) s3.v w6 fun w7 =>
        ldB ad1 w7 fun b2 =>
        ldS (ad1.add 1) w7 fun s4 =>
        R (.returned (Value.agg #[Value.bool b2, s4.v])) w7))) :
    Calls Tryd.prog 70 #[Value.int .i64 a0_n] w R := by
  refine calls_of_vc (fun _ => none) (by kernel_rfl) Tryd.func70 rfl ?_ ?_
  · refine kcast h ?_; kernel_rfl
  · exact (obl_seq rfl (obl_reg (obl_seq rfl (obl_seq rfl (obl_reg (obl_cond (obl_seq rfl (obl_reg (obl_ret (obl_skip (obl_seq rfl (obl_reg (obl_ret trivial)))))))))))))

set_option maxRecDepth 100000 in
/-- surd/whole.Make: function 85. -/
theorem whole_Make_vc (a0_neg : Bool) (a1_n : Slc) (w : World) (R : Ending → World → Prop)
    
    (h : newC w #[Value.bool false, (⟨none, 0, 0⟩ : Slc).v] 31 fun ad1 w1 =>
    Calls Tryd.prog 112 #[Value.agg #[Value.bool a0_neg, a1_n.v]] w1 fun e1 w2 =>
    ∃ b1 : Bool, ∃ s1 : Slc, ∃ x1 : Int, e1 = .returned (Value.tuple #[Value.agg #[Value.bool b1, s1.v], Value.int .i64 x1]) ∧
    (stC ad1 (Value.bool b1) w2 fun w3 =>
      stC (ad1.add 1) s1.v w3 fun w4 =>
      ldB ad1 w4 fun b2 =>
      ldS (ad1.add 1) w4 fun s2 =>
      R (.returned (Value.tuple #[Value.agg #[Value.bool b2, s2.v], Value.int .i64 x1])) w4)) :
    Calls Tryd.prog 85 #[Value.bool a0_neg, a1_n.v] w R := by
  refine calls_of_vc (fun _ => none) (by kernel_rfl) Tryd.func85 rfl ?_ ?_
  · refine kcast h ?_; kernel_rfl
  · exact (obl_seq rfl (obl_reg (obl_seq rfl (obl_reg (obl_ret trivial)))))

set_option maxRecDepth 100000 in
/-- surd/whole.Add: function 115. -/
theorem whole_Add_vc (a0_a_0 : Bool) (a0_a_1 : Slc) (a1_b_0 : Bool) (a1_b_1 : Slc) (w : World) (R : Ending → World → Prop)
    
    (h : newC w #[Value.bool a0_a_0, a0_a_1.v] 31 fun ad1 w1 =>
    newC w1 #[Value.bool a1_b_0, a1_b_1.v] 31 fun ad2 w2 =>
    newC w2 #[Value.bool false, (⟨none, 0, 0⟩ : Slc).v] 31 fun ad3 w3 =>
    ∃ V1 : Nat → Nat → Prop, Out (V1 0) ad1 (ldB ad1 w3.drew fun b1 =>
      ldS (ad1.add 1) w3.drew fun s1 =>
      Out (V1 2) ad2 (ldB ad2 w3.drew fun b2 =>
        ldS (ad2.add 1) w3.drew fun s2 =>
        Calls Tryd.prog 118 #[Value.agg #[Value.bool b1, s1.v]] w3.drew fun e1 w4 =>
        ∃ b3 : Bool, ∃ s3 : Slc, e1 = .returned (Value.agg #[Value.bool b3, s3.v]) ∧
        (Bar (V1 2) w3.drew w4 ∧
          (Calls Tryd.prog 118 #[Value.agg #[Value.bool b2, s2.v]] w4 fun e2 w5 =>
            ∃ b4 : Bool, ∃ s4 : Slc, e2 = .returned (Value.agg #[Value.bool b4, s4.v]) ∧
            (stC ad1 (Value.bool b3) w5 fun w6 =>
              stC (ad1.add 1) s3.v w6 fun w7 =>
              stC ad2 (Value.bool b4) w7 fun w8 =>
              stC (ad2.add 1) s4.v w8 fun w9 =>
              ldB ad1 w9 fun b5 =>
              ldB ad2 w9 fun b6 =>
              br (b5 == b6)
              (ldS (ad1.add 1) w9 fun s5 =>
                ldS (ad2.add 1) w9 fun s6 =>
                Calls Tryd.prog 122 #[s5.v, s6.v] w9 fun e3 w10 =>
                ∃ s7 : Slc, ∃ x1 : Int, e3 = .returned (Value.tuple #[s7.v, Value.int .i64 x1]) ∧
                (ldB ad1 w10 fun b7 =>
                  Calls Tryd.prog 120 #[Value.bool b7, s7.v, Value.int .i64 x1] w10 fun e4 w11 =>
                  ∃ b8 : Bool, ∃ s8 : Slc, ∃ x2 : Int, e4 = .returned (Value.tuple #[Value.agg #[Value.bool b8, s8.v], Value.int .i64 x2]) ∧
                  (stC ad3 (Value.bool b8) w11 fun w12 =>
                    stC (ad3.add 1) s8.v w12 fun w13 =>
                    ldB ad3 w13 fun b9 =>
                    ldS (ad3.add 1) w13 fun s9 =>
                    R (.returned (Value.tuple #[Value.agg #[Value.bool b9, s9.v], Value.int .i64 x2])) w13)))
              (ldS (ad1.add 1) w9 fun s10 =>
                ldS (ad2.add 1) w9 fun s11 =>
                Calls Tryd.prog 113 #[s10.v, s11.v] w9 fun e5 w14 =>
                ∃ x3 : Int, e5 = .returned (Value.int .i64 x3) ∧
                (br (decide (x3 < 0))
                  (ldB ad2 w14 fun b10 =>
                    ldS (ad2.add 1) w14 fun s12 =>
                    ldB ad1 w14 fun b11 =>
                    ldS (ad1.add 1) w14 fun s13 =>
                    stC ad1 (Value.bool b10) w14 fun w15 =>
                    stC (ad1.add 1) s12.v w15 fun w16 =>
                    stC ad2 (Value.bool b11) w16 fun w17 =>
                    stC (ad2.add 1) s13.v w17 fun w18 =>
                    ldS (ad1.add 1) w18 fun s14 =>
                    ldS (ad2.add 1) w18 fun s15 =>
                    Calls Tryd.prog 133 #[s14.v, s15.v] w18 fun e6 w19 =>
                    ∃ s16 : Slc, ∃ x4 : Int, e6 = .returned (Value.tuple #[s16.v, Value.int .i64 x4]) ∧
                    (ldB ad1 w19 fun b12 =>
                      Calls Tryd.prog 120 #[Value.bool b12, s16.v, Value.int .i64 x4] w19 fun e7 w20 =>
                      ∃ b13 : Bool, ∃ s17 : Slc, ∃ x5 : Int, e7 = .returned (Value.tuple #[Value.agg #[Value.bool b13, s17.v], Value.int .i64 x5]) ∧
                      (stC ad3 (Value.bool b13) w20 fun w21 =>
                        stC (ad3.add 1) s17.v w21 fun w22 =>
                        ldB ad3 w22 fun b14 =>
                        ldS (ad3.add 1) w22 fun s18 =>
                        R (.returned (Value.tuple #[Value.agg #[Value.bool b14, s18.v], Value.int .i64 x5])) w22)))
                  (ldS (ad1.add 1) w14 fun s19 =>
                    ldS (ad2.add 1) w14 fun s20 =>
                    Calls Tryd.prog 133 #[s19.v, s20.v] w14 fun e8 w23 =>
                    ∃ s21 : Slc, ∃ x6 : Int, e8 = .returned (Value.tuple #[s21.v, Value.int .i64 x6]) ∧
                    (ldB ad1 w23 fun b15 =>
                      Calls Tryd.prog 120 #[Value.bool b15, s21.v, Value.int .i64 x6] w23 fun e9 w24 =>
                      ∃ b16 : Bool, ∃ s22 : Slc, ∃ x7 : Int, e9 = .returned (Value.tuple #[Value.agg #[Value.bool b16, s22.v], Value.int .i64 x7]) ∧
                      (stC ad3 (Value.bool b16) w24 fun w25 =>
                        stC (ad3.add 1) s22.v w25 fun w26 =>
                        ldB ad3 w26 fun b17 =>
                        ldS (ad3.add 1) w26 fun s23 =>
                        R (.returned (Value.tuple #[Value.agg #[Value.bool b17, s23.v], Value.int .i64 x7])) w26))))))))))) :
    Calls Tryd.prog 115 #[Value.agg #[Value.bool a0_a_0, a0_a_1.v], Value.agg #[Value.bool a1_b_0, a1_b_1.v]] w R := by
  refine calls_of_vc (marks [2000001] (fun _ => none)) (by kernel_rfl) Tryd.func115 rfl ?_ ?_
  · refine kcast h ?_; kernel_rfl
  · exact (obl_seq rfl (obl_reg (obl_seq rfl (obl_store _ rfl (by kernel_rfl) (obl_seq rfl (obl_seq rfl (obl_reg (obl_cond (obl_seq rfl (obl_reg (obl_seq rfl (obl_reg (obl_ret (obl_skip (obl_seq rfl (obl_seq rfl (obl_reg (obl_cond (obl_reg (obl_skip (obl_seq rfl (obl_reg (obl_seq rfl (obl_reg (obl_ret trivial)))))))))))))))))))))))))

set_option maxRecDepth 100000 in
/-- (surd/dyadic.part).sign: function 71. -/
theorem dyadic_part_sign_vc (a0_p_0 : Bool) (a0_p_1 : Slc) (w : World) (R : Ending → World → Prop)
    
    (h : newC w #[Value.bool a0_p_0, a0_p_1.v] 96 fun ad1 w1 =>
    ldB ad1 w1 fun b1 =>
    ldS (ad1.add 1) w1 fun s1 =>
    Calls Tryd.prog 75 #[Value.agg #[Value.bool b1, s1.v]] w1 fun e1 w2 =>
    ∃ x1 : Int, e1 = .returned (Value.int .i64 x1) ∧
    (R (.returned (Value.int .i64 x1)) w2)) :
    Calls Tryd.prog 71 #[Value.agg #[Value.bool a0_p_0, a0_p_1.v]] w R := by
  refine calls_of_vc (fun _ => none) (by kernel_rfl) Tryd.func71 rfl ?_ ?_
  · refine kcast h ?_; kernel_rfl
  · exact (obl_seq rfl (obl_reg (obl_seq rfl (obl_reg (obl_ret trivial)))))

set_option maxRecDepth 100000 in
/-- (surd/dyadic.part).length: function 73. -/
theorem dyadic_part_length_vc (a0_p_0 : Bool) (a0_p_1 : Slc) (w : World) (R : Ending → World → Prop)
    
    (h : newC w #[Value.bool a0_p_0, a0_p_1.v] 96 fun ad1 w1 =>
    ldS (ad1.add 1) w1 fun s1 =>
    Calls Tryd.prog 102 #[s1.v] w1 fun e1 w2 =>
    ∃ x1 : Int, e1 = .returned (Value.int .i64 x1) ∧
    (R (.returned (Value.int .i64 x1)) w2)) :
    Calls Tryd.prog 73 #[Value.agg #[Value.bool a0_p_0, a0_p_1.v]] w R := by
  refine calls_of_vc (fun _ => none) (by kernel_rfl) Tryd.func73 rfl ?_ ?_
  · refine kcast h ?_; kernel_rfl
  · exact (obl_seq rfl (obl_reg (obl_seq rfl (obl_reg (obl_ret trivial)))))

set_option maxRecDepth 100000 in
/-- (surd/dyadic.number).top: function 72. -/
theorem dyadic_number_top_vc (a0_n_0 : Bool) (a0_n_1 : Slc) (a0_n_2 : Int) (w : World) (R : Ending → World → Prop)
    
    (h : newC w #[Value.bool a0_n_0, a0_n_1.v, Value.int .i64 a0_n_2] 98 fun ad1 w1 =>
    ldI .i64 (ad1.add 2) w1.drew fun x1 =>
    ldB ad1 w1.drew fun b1 =>
    ldS (ad1.add 1) w1.drew fun s1 =>
    Calls Tryd.prog 73 #[Value.agg #[Value.bool b1, s1.v]] w1.drew fun e1 w2 =>
    ∃ x2 : Int, e1 = .returned (Value.int .i64 x2) ∧
    (Ahead w1.drew w2 ∧
      (R (.returned (Value.int .i64 (IntKind.i64.wrap ((IntKind.i64.wrap (x1 + x2)) - 1)))) w2))) :
    Calls Tryd.prog 72 #[Value.agg #[Value.bool a0_n_0, a0_n_1.v, Value.int .i64 a0_n_2]] w R := by
  refine calls_of_vc (fun _ => none) (by kernel_rfl) Tryd.func72 rfl ?_ ?_
  · refine kcast h ?_; kernel_rfl
  · exact (obl_seq rfl (obl_reg (obl_seq rfl (obl_held (by kernel_rfl) (by kernel_rfl) (by kernel_rfl) (obl_ret trivial)))))

set_option maxRecDepth 100000 in
/-- surd/dyadic.Scale: function 16. -/
theorem dyadic_Scale_vc (a0_a_0 : Bool) (a0_a_1 : Slc) (a0_a_2 : Int) (a1_k : Int) (w : World) (R : Ending → World → Prop)
    
    (h : newC w #[Value.bool a0_a_0, a0_a_1.v, Value.int .i64 a0_a_2] 33 fun ad1 w1 =>
    newC w1 #[Value.bool false, (⟨none, 0, 0⟩ : Slc).v, Value.int .i64 0] 33 fun ad2 w2 =>
    ldB ad1 w2 fun b1 =>
    ldS (ad1.add 1) w2 fun s1 =>
    ldI .i64 (ad1.add 2) w2 fun x1 =>
    Calls Tryd.prog 62 #[Value.agg #[Value.bool b1, s1.v, Value.int .i64 x1]] w2 fun e1 w3 =>
    ∃ b2 : Bool, ∃ s2 : Slc, ∃ x2 : Int, ∃ x3 : Int, e1 = .returned (Value.tuple #[Value.agg #[Value.bool b2, s2.v, Value.int .i64 x2], Value.int .i64 x3]) ∧
    (newC w3 #[Value.bool false, (⟨none, 0, 0⟩ : Slc).v, Value.int .i64 0] 98 fun ad3 w4 =>
      stC ad3 (Value.bool b2) w4 fun w5 =>
      stC (ad3.add 1) s2.v w5 fun w6 =>
      stC (ad3.add 2) (Value.int .i64 x2) w6 fun w7 =>
      br (x3 != 0)
      (stC ad2 (Value.bool false) w7 fun w8 =>
        stC (ad2.add 1) ((⟨none, 0, 0⟩ : Slc).v) w8 fun w9 =>
        stC (ad2.add 2) (Value.int .i64 0) w9 fun w10 =>
        ldB ad2 w10 fun b3 =>
        ldS (ad2.add 1) w10 fun s3 =>
        ldI .i64 (ad2.add 2) w10 fun x4 =>
        R (.returned (Value.tuple #[Value.agg #[Value.bool b3, s3.v, Value.int .i64 x4], Value.int .i64 x3])) w10)
      (Calls Tryd.prog 63 #[Value.int .i64 a1_k] w7 fun e2 w11 =>
        ∃ b4 : Bool, e2 = .returned (Value.bool b4) ∧
        (br (!b4)
          (stC ad2 (Value.bool false) w11 fun w12 =>
            stC (ad2.add 1) ((⟨none, 0, 0⟩ : Slc).v) w12 fun w13 =>
            stC (ad2.add 2) (Value.int .i64 0) w13 fun w14 =>
            ldB ad2 w14 fun b5 =>
            ldS (ad2.add 1) w14 fun s4 =>
            ldI .i64 (ad2.add 2) w14 fun x5 =>
            R (.returned (Value.tuple #[Value.agg #[Value.bool b5, s4.v, Value.int .i64 x5], Value.int .i64 1])) w14)
          (ldB ad3 w11 fun b6 =>
            ldS (ad3.add 1) w11 fun s5 =>
            ldI .i64 (ad3.add 2) w11 fun x6 =>
            Calls Tryd.prog 64 #[Value.agg #[Value.bool b6, s5.v], Value.int .i64 (IntKind.i64.wrap (x6 + a1_k))] w11 fun e3 w15 =>
            ∃ b7 : Bool, ∃ s6 : Slc, ∃ x7 : Int, ∃ x8 : Int, e3 = .returned (Value.tuple #[Value.agg #[Value.bool b7, s6.v, Value.int .i64 x7], Value.int .i64 x8]) ∧
            (stC ad2 (Value.bool b7) w15 fun w16 =>
              stC (ad2.add 1) s6.v w16 fun w17 =>
              stC (ad2.add 2) (Value.int .i64 x7) w17 fun w18 =>
              ldB ad2 w18 fun b8 =>
              ldS (ad2.add 1) w18 fun s7 =>
              ldI .i64 (ad2.add 2) w18 fun x9 =>
              R (.returned (Value.tuple #[Value.agg #[Value.bool b8, s7.v, Value.int .i64 x9], Value.int .i64 x8])) w18)))))) :
    Calls Tryd.prog 16 #[Value.agg #[Value.bool a0_a_0, a0_a_1.v, Value.int .i64 a0_a_2], Value.int .i64 a1_k] w R := by
  refine calls_of_vc (fun _ => none) (by kernel_rfl) Tryd.func16 rfl ?_ ?_
  · refine kcast h ?_; kernel_rfl
  · exact (obl_seq rfl (obl_reg (obl_seq rfl (obl_reg (obl_seq rfl (obl_seq rfl (obl_reg (obl_cond (obl_seq rfl (obl_reg (obl_ret (obl_skip (obl_seq rfl (obl_seq rfl (obl_reg (obl_cond (obl_seq rfl (obl_reg (obl_ret (obl_skip (obl_seq rfl (obl_reg (obl_ret trivial)))))))))))))))))))))))

set_option maxRecDepth 100000 in
/-- surd/dyadic.Sign: function 27. -/
theorem dyadic_Sign_vc (a0_a_0 : Bool) (a0_a_1 : Slc) (a0_a_2 : Int) (w : World) (R : Ending → World → Prop)
    
    (h : newC w #[Value.bool a0_a_0, a0_a_1.v, Value.int .i64 a0_a_2] 33 fun ad1 w1 =>
    ldB ad1 w1 fun b1 =>
    ldS (ad1.add 1) w1 fun s1 =>
    Calls Tryd.prog 75 #[Value.agg #[Value.bool b1, s1.v]] w1 fun e1 w2 =>
    ∃ x1 : Int, e1 = .returned (Value.int .i64 x1) ∧
    (R (.returned (Value.int .i64 x1)) w2)) :
    Calls Tryd.prog 27 #[Value.agg #[Value.bool a0_a_0, a0_a_1.v, Value.int .i64 a0_a_2]] w R := by
  refine calls_of_vc (fun _ => none) (by kernel_rfl) Tryd.func27 rfl ?_ ?_
  · refine kcast h ?_; kernel_rfl
  · exact (obl_seq rfl (obl_reg (obl_seq rfl (obl_reg (obl_ret trivial)))))

set_option maxRecDepth 100000 in
/-- surd/dyadic.Top: function 24. -/
theorem dyadic_Top_vc (a0_a_0 : Bool) (a0_a_1 : Slc) (a0_a_2 : Int) (w : World) (R : Ending → World → Prop)
    
    (h : newC w #[Value.bool a0_a_0, a0_a_1.v, Value.int .i64 a0_a_2] 33 fun ad1 w1 =>
    ldB ad1 w1 fun b1 =>
    ldS (ad1.add 1) w1 fun s1 =>
    ldI .i64 (ad1.add 2) w1 fun x1 =>
    Calls Tryd.prog 62 #[Value.agg #[Value.bool b1, s1.v, Value.int .i64 x1]] w1 fun e1 w2 =>
    ∃ b2 : Bool, ∃ s2 : Slc, ∃ x2 : Int, ∃ x3 : Int, e1 = .returned (Value.tuple #[Value.agg #[Value.bool b2, s2.v, Value.int .i64 x2], Value.int .i64 x3]) ∧
    (newC w2 #[Value.bool false, (⟨none, 0, 0⟩ : Slc).v, Value.int .i64 0] 98 fun ad2 w3 =>
      stC ad2 (Value.bool b2) w3 fun w4 =>
      stC (ad2.add 1) s2.v w4 fun w5 =>
      stC (ad2.add 2) (Value.int .i64 x2) w5 fun w6 =>
      br (x3 != 0)
      (R (.returned (Value.tuple #[Value.int .i64 0, Value.int .i64 x3])) w6)
      (ldB ad2 w6 fun b3 =>
        ldS (ad2.add 1) w6 fun s3 =>
        Calls Tryd.prog 71 #[Value.agg #[Value.bool b3, s3.v]] w6 fun e2 w7 =>
        ∃ x4 : Int, e2 = .returned (Value.int .i64 x4) ∧
        (br (x4 == 0)
          (R (.returned (Value.tuple #[Value.int .i64 0, Value.int .i64 1])) w7)
          (ldB ad2 w7 fun b4 =>
            ldS (ad2.add 1) w7 fun s4 =>
            ldI .i64 (ad2.add 2) w7 fun x5 =>
            Calls Tryd.prog 72 #[Value.agg #[Value.bool b4, s4.v, Value.int .i64 x5]] w7 fun e3 w8 =>
            ∃ x6 : Int, e3 = .returned (Value.int .i64 x6) ∧
            (R (.returned (Value.tuple #[Value.int .i64 x6, Value.int .i64 0])) w8)))))) :
    Calls Tryd.prog 24 #[Value.agg #[Value.bool a0_a_0, a0_a_1.v, Value.int .i64 a0_a_2]] w R := by
  refine calls_of_vc (fun _ => none) (by kernel_rfl) Tryd.func24 rfl ?_ ?_
  · refine kcast h ?_; kernel_rfl
  · exact (obl_seq rfl (obl_reg (obl_seq rfl (obl_reg (obl_seq rfl (obl_seq rfl (obl_reg (obl_cond (obl_seq rfl (obl_reg (obl_ret (obl_skip (obl_seq rfl (obl_seq rfl (obl_reg (obl_cond (obl_seq rfl (obl_reg (obl_ret (obl_skip (obl_seq rfl (obl_reg (obl_ret trivial)))))))))))))))))))))))

set_option maxRecDepth 100000 in
/-- surd/dyadic.Length: function 25. -/
theorem dyadic_Length_vc (a0_a_0 : Bool) (a0_a_1 : Slc) (a0_a_2 : Int) (w : World) (R : Ending → World → Prop)
    
    (h : newC w #[Value.bool a0_a_0, a0_a_1.v, Value.int .i64 a0_a_2] 33 fun ad1 w1 =>
    ldB ad1 w1 fun b1 =>
    ldS (ad1.add 1) w1 fun s1 =>
    ldI .i64 (ad1.add 2) w1 fun x1 =>
    Calls Tryd.prog 62 #[Value.agg #[Value.bool b1, s1.v, Value.int .i64 x1]] w1 fun e1 w2 =>
    ∃ b2 : Bool, ∃ s2 : Slc, ∃ x2 : Int, ∃ x3 : Int, e1 = .returned (Value.tuple #[Value.agg #[Value.bool b2, s2.v, Value.int .i64 x2], Value.int .i64 x3]) ∧
    (newC w2 #[Value.bool false, (⟨none, 0, 0⟩ : Slc).v, Value.int .i64 0] 98 fun ad2 w3 =>
      stC ad2 (Value.bool b2) w3 fun w4 =>
      stC (ad2.add 1) s2.v w4 fun w5 =>
      stC (ad2.add 2) (Value.int .i64 x2) w5 fun w6 =>
      ldB ad2 w6 fun b3 =>
      ldS (ad2.add 1) w6 fun s3 =>
      Calls Tryd.prog 73 #[Value.agg #[Value.bool b3, s3.v]] w6 fun e2 w7 =>
      ∃ x4 : Int, e2 = .returned (Value.int .i64 x4) ∧
      (R (.returned (Value.tuple #[Value.int .i64 x4, Value.int .i64 x3])) w7))) :
    Calls Tryd.prog 25 #[Value.agg #[Value.bool a0_a_0, a0_a_1.v, Value.int .i64 a0_a_2]] w R := by
  refine calls_of_vc (fun _ => none) (by kernel_rfl) Tryd.func25 rfl ?_ ?_
  · refine kcast h ?_; kernel_rfl
  · exact (obl_seq rfl (obl_reg (obl_seq rfl (obl_reg (obl_seq rfl (obl_reg (obl_ret trivial)))))))

def dyadic_left_cut (J0 : Int → Int → Slc → Slc → Int → Int → World → Prop) (m0 : Int → Int → Slc → Slc → Int → Int → World → Nat) : Nat → Option ((Act → World → Prop) × (Act → World → Nat))
  | 0 => some (fun a_ w_ => atSz a_ 65 (atI .i64 a_ 7 fun t7 => atI .u64 a_ 8 fun t8 => atS a_ 9 fun t9 => atS a_ 32 fun t32 => atI .i64 a_ 33 fun t33 => atI .i64 a_ 34 fun t34 => J0 t7 t8 t9 t32 t33 t34 w_), fun a_ w_ => mI a_ 7 fun t7 => mI a_ 8 fun t8 => mS a_ 9 fun t9 => mS a_ 32 fun t32 => mI a_ 33 fun t33 => mI a_ 34 fun t34 => m0 t7 t8 t9 t32 t33 t34 w_)
  | _ => none

set_option maxRecDepth 100000 in
/-- surd/dyadic.left: function 107. -/
theorem dyadic_left_vc (a0 : Slc) (a1 : Int) (w : World) (R : Ending → World → Prop)
    (J0 : Int → Int → Slc → Slc → Int → Int → World → Prop) (m0 : Int → Int → Slc → Slc → Int → Int → World → Nat)
    (h : Calls Tryd.prog 119 #[a0.v, Value.int .i64 a1] w fun e1 w1 =>
    ∃ s1 : Slc, ∃ x1 : Int, e1 = .returned (Value.tuple #[s1.v, Value.int .i64 x1]) ∧
    (br (x1 == 0)
      (R (.returned s1.v) w1)
      (semS Tryd.prog (Instr.makeSlice 29 (Value.int .i64 (IntKind.i64.wrap ((IntKind.i64.wrap ((a0.n : Int) + (IntKind.i64.wrap (Int.tdiv a1 64)))) + 1))) (Value.int .i64 (IntKind.i64.wrap ((IntKind.i64.wrap ((a0.n : Int) + (IntKind.i64.wrap (Int.tdiv a1 64)))) + 1)))) w1 fun s2 w2 =>
        J0 (IntKind.i64.wrap (Int.tdiv a1 64)) (IntKind.u64.wrap (Int.tmod a1 64)) s2 a0 (a0.n : Int) 0 w2)))
    (h0 : ∀ (t7 : Int) (t8 : Int) (t9 : Slc) (t32 : Slc) (t33 : Int) (t34 : Int) (w_ : World), J0 t7 t8 t9 t32 t33 t34 w_ → 
    br (decide (t34 < t33))
    (semA Tryd.prog (Instr.indexAt 29 t32.v (Value.int .i64 t34)) w_ fun ad1 w3 =>
      ldI .u64 ad1 w3 fun x2 =>
      semA Tryd.prog (Instr.indexAt 29 t9.v (Value.int .i64 (IntKind.i64.wrap (t34 + t7)))) w3 fun ad2 w4 =>
      ldI .u64 ad2 w4 fun x3 =>
      semI Tryd.prog .u64 (binOp .shl 94 (Value.int .u64 x2) (Value.int .u64 t8)) w4 fun x4 w5 =>
      semA Tryd.prog (Instr.indexAt 29 t9.v (Value.int .i64 (IntKind.i64.wrap (t34 + t7)))) w5 fun ad3 w6 =>
      stC ad3 (Value.int .u64 (orI .u64 x3 x4)) w6 fun w7 =>
      br (decide (t8 > 0))
      (semI Tryd.prog .u64 (binOp .shr 94 (Value.int .u64 x2) (Value.int .u64 (IntKind.u64.wrap (64 - t8)))) w7 fun x5 w8 =>
        semA Tryd.prog (Instr.indexAt 29 t9.v (Value.int .i64 (IntKind.i64.wrap ((IntKind.i64.wrap (t34 + t7)) + 1)))) w8 fun ad4 w9 =>
        stC ad4 (Value.int .u64 x5) w9 fun w10 =>
        J0 t7 t8 t9 t32 t33 (IntKind.i64.wrap (t34 + 1)) w10 ∧
        m0 t7 t8 t9 t32 t33 (IntKind.i64.wrap (t34 + 1)) w10 < m0 t7 t8 t9 t32 t33 t34 w_)
      (J0 t7 t8 t9 t32 t33 (IntKind.i64.wrap (t34 + 1)) w7 ∧
        m0 t7 t8 t9 t32 t33 (IntKind.i64.wrap (t34 + 1)) w7 < m0 t7 t8 t9 t32 t33 t34 w_))
    (Calls Tryd.prog 126 #[t9.v] w_ fun e2 w11 =>
      ∃ s3 : Slc, e2 = .returned s3.v ∧
      (R (.returned s3.v) w11))) :
    Calls Tryd.prog 107 #[a0.v, Value.int .i64 a1] w R := by
  refine calls_of_vc (dyadic_left_cut J0 m0) (by kernel_rfl) Tryd.func107 rfl ?_ ?_
  · refine kcast h ?_; kernel_rfl
  · exact (obl_seq rfl (obl_reg (obl_seq rfl (obl_reg (obl_seq rfl (obl_seq rfl (obl_reg (obl_cond (obl_seq rfl (obl_reg (obl_ret (obl_skip (obl_seq rfl (obl_reg (obl_seq rfl (obl_reg (obl_seq rfl (obl_seq rfl (obl_reg (obl_loop _ rfl (fun a_ w_ hL_ => (by
    obtain ⟨hz_, hd_, hL_⟩ := atSz_out hL_
    obtain ⟨t7, h7_, hL_⟩ := atI_out hL_
    obtain ⟨t8, h8_, hL_⟩ := atI_out hL_
    obtain ⟨t9, h9_, hL_⟩ := atS_out hL_
    obtain ⟨t32, h32_, hL_⟩ := atS_out hL_
    obtain ⟨t33, h33_, hL_⟩ := atI_out hL_
    obtain ⟨t34, h34_, hL_⟩ := atI_out hL_
    obtain ⟨g0, rfl⟩ : ∃ g, a_ = Fr 65 [(7, Value.int .i64 t7), (8, Value.int .u64 t8), (9, t9.v), (32, t32.v), (33, Value.int .i64 t33), (34, Value.int .i64 t34)] g := ⟨_, fr_of hz_ hd_ [(7, Value.int .i64 t7), (8, Value.int .u64 t8), (9, t9.v), (32, t32.v), (33, Value.int .i64 t33), (34, Value.int .i64 t34)] (sel_cons h7_ (sel_cons h8_ (sel_cons h9_ (sel_cons h32_ (sel_cons h33_ (sel_cons h34_ sel_nil))))))⟩
    clear hz_ hd_ h7_ h8_ h9_ h32_ h33_ h34_
    have hJ0_ := hL_
    refine ⟨(fun _ => none), kcast (h0 t7 t8 t9 t32 t33 t34 w_ hJ0_) ?_, ?_⟩
    · kernel_rfl
    · exact (obl_seq rfl (obl_reg (obl_seq rfl (obl_cond (obl_skip (obl_exit (obl_seq rfl (obl_blk rfl (obl_seq rfl (obl_reg (obl_seq rfl (obl_reg (obl_seq rfl (obl_reg (obl_cond (obl_reg (obl_skip (obl_reg trivial)))))))))))))))))))) (obl_seq rfl (obl_reg (obl_ret trivial)))))))))))))))))))))))

set_option maxRecDepth 100000 in
/-- surd/dyadic.compare: function 87. -/
theorem dyadic_compare_vc (a0_0 : Bool) (a0_1 : Slc) (a0_2 : Int) (a1_0 : Bool) (a1_1 : Slc) (a1_2 : Int) (w : World) (R : Ending → World → Prop)
    
    (h : newC w #[Value.bool a0_0, a0_1.v, Value.int .i64 a0_2] 98 fun ad1 w1 =>
    newC w1 #[Value.bool a1_0, a1_1.v, Value.int .i64 a1_2] 98 fun ad2 w2 =>
    ldB ad1 w2.drew fun b1 =>
    ldS (ad1.add 1) w2.drew fun s1 =>
    ldB ad2 w2.drew fun b2 =>
    ldS (ad2.add 1) w2.drew fun s2 =>
    Calls Tryd.prog 71 #[Value.agg #[Value.bool b1, s1.v]] w2.drew fun e1 w3 =>
    ∃ x1 : Int, e1 = .returned (Value.int .i64 x1) ∧
    (Ahead w2.drew w3 ∧
      (Calls Tryd.prog 71 #[Value.agg #[Value.bool b2, s2.v]] w3 fun e2 w4 =>
        ∃ x2 : Int, e2 = .returned (Value.int .i64 x2) ∧
        (Ahead w3 w4 ∧
          (br (decide (x1 < x2))
            (R (.returned (Value.int .i64 (-1))) w4)
            (br (decide (x1 > x2))
              (R (.returned (Value.int .i64 1)) w4)
              (br (x1 == 0)
                (R (.returned (Value.int .i64 0)) w4)
                (ldB ad1 w4.drew fun b3 =>
                  ldS (ad1.add 1) w4.drew fun s3 =>
                  ldI .i64 (ad1.add 2) w4.drew fun x3 =>
                  ldB ad2 w4.drew fun b4 =>
                  ldS (ad2.add 1) w4.drew fun s4 =>
                  ldI .i64 (ad2.add 2) w4.drew fun x4 =>
                  Calls Tryd.prog 72 #[Value.agg #[Value.bool b3, s3.v, Value.int .i64 x3]] w4.drew fun e3 w5 =>
                  ∃ x5 : Int, e3 = .returned (Value.int .i64 x5) ∧
                  (Ahead w4.drew w5 ∧
                    (Calls Tryd.prog 72 #[Value.agg #[Value.bool b4, s4.v, Value.int .i64 x4]] w5 fun e4 w6 =>
                      ∃ x6 : Int, e4 = .returned (Value.int .i64 x6) ∧
                      (Ahead w5 w6 ∧
                        (br (x5 != x6)
                          (ldB ad1 w6.drew fun b5 =>
                            ldS (ad1.add 1) w6.drew fun s5 =>
                            ldI .i64 (ad1.add 2) w6.drew fun x7 =>
                            ldB ad2 w6.drew fun b6 =>
                            ldS (ad2.add 1) w6.drew fun s6 =>
                            ldI .i64 (ad2.add 2) w6.drew fun x8 =>
                            Calls Tryd.prog 72 #[Value.agg #[Value.bool b5, s5.v, Value.int .i64 x7]] w6.drew fun e5 w7 =>
                            ∃ x9 : Int, e5 = .returned (Value.int .i64 x9) ∧
                            (Ahead w6.drew w7 ∧
                              (Calls Tryd.prog 72 #[Value.agg #[Value.bool b6, s6.v, Value.int .i64 x8]] w7 fun e6 w8 =>
                                ∃ x10 : Int, e6 = .returned (Value.int .i64 x10) ∧
                                (Ahead w7 w8 ∧
                                  (br (decide (x9 < x10))
                                    (R (.returned (Value.int .i64 (IntKind.i64.wrap (0 - x1)))) w8)
                                    (R (.returned (Value.int .i64 x1)) w8))))))
                          (ldS (ad1.add 1) w6 fun s7 =>
                            ldS (ad2.add 1) w6 fun s8 =>
                            ∀ w9, Ahead w6 w9 →
                            (ldI .i64 (ad1.add 2) w9 fun x11 =>
                              ldI .i64 (ad2.add 2) w9 fun x12 =>
                              br (decide (x11 > x12))
                              (ldI .i64 (ad1.add 2) w9 fun x13 =>
                                ldI .i64 (ad2.add 2) w9 fun x14 =>
                                Calls Tryd.prog 107 #[s7.v, Value.int .i64 (IntKind.i64.wrap (x13 - x14))] w9 fun e7 w10 =>
                                ∃ s9 : Slc, e7 = .returned s9.v ∧
                                (Calls Tryd.prog 113 #[s9.v, s8.v] w10 fun e8 w11 =>
                                  ∃ x15 : Int, e8 = .returned (Value.int .i64 x15) ∧
                                  (R (.returned (Value.int .i64 (IntKind.i64.wrap (x1 * x15)))) w11)))
                              (ldI .i64 (ad2.add 2) w9 fun x16 =>
                                ldI .i64 (ad1.add 2) w9 fun x17 =>
                                Calls Tryd.prog 107 #[s8.v, Value.int .i64 (IntKind.i64.wrap (x16 - x17))] w9 fun e9 w12 =>
                                ∃ s10 : Slc, e9 = .returned s10.v ∧
                                (Calls Tryd.prog 113 #[s7.v, s10.v] w12 fun e10 w13 =>
                                  ∃ x18 : Int, e10 = .returned (Value.int .i64 x18) ∧
                                  (R (.returned (Value.int .i64 (IntKind.i64.wrap (x1 * x18)))) w13))))))))))))))))) :
    Calls Tryd.prog 87 #[Value.agg #[Value.bool a0_0, a0_1.v, Value.int .i64 a0_2], Value.agg #[Value.bool a1_0, a1_1.v, Value.int .i64 a1_2]] w R := by
  refine calls_of_vc (fun _ => none) (by kernel_rfl) Tryd.func87 rfl ?_ ?_
  · refine kcast h ?_; kernel_rfl
  · exact (obl_seq rfl (obl_reg (obl_seq rfl (obl_held (by kernel_rfl) (by kernel_rfl) (by kernel_rfl) (obl_seq rfl (obl_blk rfl (obl_seq rfl (obl_reg (obl_cond (obl_seq rfl (obl_reg (obl_ret (obl_seq rfl (obl_reg (obl_cond (obl_seq rfl (obl_reg (obl_ret (obl_seq rfl (obl_reg (obl_cond (obl_seq rfl (obl_reg (obl_ret (obl_skip (obl_seq rfl (obl_seq rfl (obl_held (by kernel_rfl) (by kernel_rfl) (by kernel_rfl) (obl_cond (obl_seq rfl (obl_seq rfl (obl_held (by kernel_rfl) (by kernel_rfl) (by kernel_rfl) (obl_cond (obl_seq rfl (obl_reg (obl_ret (obl_skip (obl_seq rfl (obl_reg (obl_ret (obl_skip (obl_seq rfl (obl_quiet (by kernel_rfl) (by kernel_rfl) (by kernel_rfl) (by kernel_rfl) (obl_seq rfl (obl_seq rfl (obl_reg (obl_cond (obl_reg (obl_reg (obl_seq rfl (obl_reg (obl_ret trivial))))))))))))))))))))))))))))))))))))))))))))))))))))

set_option maxRecDepth 100000 in
/-- surd/dyadic.Compare: function 44. -/
theorem dyadic_Compare_vc (a0_a_0 : Bool) (a0_a_1 : Slc) (a0_a_2 : Int) (a1_b_0 : Bool) (a1_b_1 : Slc) (a1_b_2 : Int) (w : World) (R : Ending → World → Prop)
    
    (h : newC w #[Value.bool a0_a_0, a0_a_1.v, Value.int .i64 a0_a_2] 33 fun ad1 w1 =>
    newC w1 #[Value.bool a1_b_0, a1_b_1.v, Value.int .i64 a1_b_2] 33 fun ad2 w2 =>
    ldB ad1 w2 fun b1 =>
    ldS (ad1.add 1) w2 fun s1 =>
    ldI .i64 (ad1.add 2) w2 fun x1 =>
    ldB ad2 w2 fun b2 =>
    ldS (ad2.add 1) w2 fun s2 =>
    ldI .i64 (ad2.add 2) w2 fun x2 =>
    Calls Tryd.prog 86 #[Value.agg #[Value.bool b1, s1.v, Value.int .i64 x1], Value.agg #[Value.bool b2, s2.v, Value.int .i64 x2]] w2 fun e1 w3 =>
    ∃ b3 : Bool, ∃ s3 : Slc, ∃ x3 : Int, ∃ b4 : Bool, ∃ s4 : Slc, ∃ x4 : Int, ∃ x5 : Int, e1 = .returned (Value.tuple #[Value.agg #[Value.bool b3, s3.v, Value.int .i64 x3], Value.agg #[Value.bool b4, s4.v, Value.int .i64 x4], Value.int .i64 x5]) ∧
    (newC w3 #[Value.bool false, (⟨none, 0, 0⟩ : Slc).v, Value.int .i64 0] 98 fun ad3 w4 =>
      newC w4 #[Value.bool false, (⟨none, 0, 0⟩ : Slc).v, Value.int .i64 0] 98 fun ad4 w5 =>
      stC ad3 (Value.bool b3) w5 fun w6 =>
      stC (ad3.add 1) s3.v w6 fun w7 =>
      stC (ad3.add 2) (Value.int .i64 x3) w7 fun w8 =>
      stC ad4 (Value.bool b4) w8 fun w9 =>
      stC (ad4.add 1) s4.v w9 fun w10 =>
      stC (ad4.add 2) (Value.int .i64 x4) w10 fun w11 =>
      br (x5 != 0)
      (R (.returned (Value.tuple #[Value.int .i64 0, Value.int .i64 x5])) w11)
      (ldB ad3 w11 fun b5 =>
        ldS (ad3.add 1) w11 fun s5 =>
        ldI .i64 (ad3.add 2) w11 fun x6 =>
        ldB ad4 w11 fun b6 =>
        ldS (ad4.add 1) w11 fun s6 =>
        ldI .i64 (ad4.add 2) w11 fun x7 =>
        Calls Tryd.prog 87 #[Value.agg #[Value.bool b5, s5.v, Value.int .i64 x6], Value.agg #[Value.bool b6, s6.v, Value.int .i64 x7]] w11 fun e2 w12 =>
        ∃ x8 : Int, e2 = .returned (Value.int .i64 x8) ∧
        (R (.returned (Value.tuple #[Value.int .i64 x8, Value.int .i64 0])) w12)))) :
    Calls Tryd.prog 44 #[Value.agg #[Value.bool a0_a_0, a0_a_1.v, Value.int .i64 a0_a_2], Value.agg #[Value.bool a1_b_0, a1_b_1.v, Value.int .i64 a1_b_2]] w R := by
  refine calls_of_vc (fun _ => none) (by kernel_rfl) Tryd.func44 rfl ?_ ?_
  · refine kcast h ?_; kernel_rfl
  · exact (obl_seq rfl (obl_reg (obl_seq rfl (obl_reg (obl_seq rfl (obl_seq rfl (obl_reg (obl_cond (obl_seq rfl (obl_reg (obl_ret (obl_skip (obl_seq rfl (obl_reg (obl_ret trivial)))))))))))))))

set_option maxRecDepth 100000 in
/-- surd/dyadic.Min: function 45. -/
theorem dyadic_Min_vc (a0_a_0 : Bool) (a0_a_1 : Slc) (a0_a_2 : Int) (a1_b_0 : Bool) (a1_b_1 : Slc) (a1_b_2 : Int) (w : World) (R : Ending → World → Prop)
    
    (h : newC w #[Value.bool a0_a_0, a0_a_1.v, Value.int .i64 a0_a_2] 33 fun ad1 w1 =>
    newC w1 #[Value.bool a1_b_0, a1_b_1.v, Value.int .i64 a1_b_2] 33 fun ad2 w2 =>
    newC w2 #[Value.bool false, (⟨none, 0, 0⟩ : Slc).v, Value.int .i64 0] 33 fun ad3 w3 =>
    ldB ad1 w3 fun b1 =>
    ldS (ad1.add 1) w3 fun s1 =>
    ldI .i64 (ad1.add 2) w3 fun x1 =>
    ldB ad2 w3 fun b2 =>
    ldS (ad2.add 1) w3 fun s2 =>
    ldI .i64 (ad2.add 2) w3 fun x2 =>
    Calls Tryd.prog 88 #[Value.agg #[Value.bool b1, s1.v, Value.int .i64 x1], Value.agg #[Value.bool b2, s2.v, Value.int .i64 x2], Value.int .i64 (-1)] w3 fun e1 w4 =>
    ∃ b3 : Bool, ∃ s3 : Slc, ∃ x3 : Int, ∃ x4 : Int, e1 = .returned (Value.tuple #[Value.agg #[Value.bool b3, s3.v, Value.int .i64 x3], Value.int .i64 x4]) ∧
    (stC ad3 (Value.bool b3) w4 fun w5 =>
      stC (ad3.add 1) s3.v w5 fun w6 =>
      stC (ad3.add 2) (Value.int .i64 x3) w6 fun w7 =>
      ldB ad3 w7 fun b4 =>
      ldS (ad3.add 1) w7 fun s4 =>
      ldI .i64 (ad3.add 2) w7 fun x5 =>
      R (.returned (Value.tuple #[Value.agg #[Value.bool b4, s4.v, Value.int .i64 x5], Value.int .i64 x4])) w7)) :
    Calls Tryd.prog 45 #[Value.agg #[Value.bool a0_a_0, a0_a_1.v, Value.int .i64 a0_a_2], Value.agg #[Value.bool a1_b_0, a1_b_1.v, Value.int .i64 a1_b_2]] w R := by
  refine calls_of_vc (fun _ => none) (by kernel_rfl) Tryd.func45 rfl ?_ ?_
  · refine kcast h ?_; kernel_rfl
  · exact (obl_seq rfl (obl_reg (obl_seq rfl (obl_reg (obl_ret trivial)))))

set_option maxRecDepth 100000 in
/-- surd/dyadic.Max: function 46. -/
theorem dyadic_Max_vc (a0_a_0 : Bool) (a0_a_1 : Slc) (a0_a_2 : Int) (a1_b_0 : Bool) (a1_b_1 : Slc) (a1_b_2 : Int) (w : World) (R : Ending → World → Prop)
    
    (h : newC w #[Value.bool a0_a_0, a0_a_1.v, Value.int .i64 a0_a_2] 33 fun ad1 w1 =>
    newC w1 #[Value.bool a1_b_0, a1_b_1.v, Value.int .i64 a1_b_2] 33 fun ad2 w2 =>
    newC w2 #[Value.bool false, (⟨none, 0, 0⟩ : Slc).v, Value.int .i64 0] 33 fun ad3 w3 =>
    ldB ad1 w3 fun b1 =>
    ldS (ad1.add 1) w3 fun s1 =>
    ldI .i64 (ad1.add 2) w3 fun x1 =>
    ldB ad2 w3 fun b2 =>
    ldS (ad2.add 1) w3 fun s2 =>
    ldI .i64 (ad2.add 2) w3 fun x2 =>
    Calls Tryd.prog 88 #[Value.agg #[Value.bool b1, s1.v, Value.int .i64 x1], Value.agg #[Value.bool b2, s2.v, Value.int .i64 x2], Value.int .i64 1] w3 fun e1 w4 =>
    ∃ b3 : Bool, ∃ s3 : Slc, ∃ x3 : Int, ∃ x4 : Int, e1 = .returned (Value.tuple #[Value.agg #[Value.bool b3, s3.v, Value.int .i64 x3], Value.int .i64 x4]) ∧
    (stC ad3 (Value.bool b3) w4 fun w5 =>
      stC (ad3.add 1) s3.v w5 fun w6 =>
      stC (ad3.add 2) (Value.int .i64 x3) w6 fun w7 =>
      ldB ad3 w7 fun b4 =>
      ldS (ad3.add 1) w7 fun s4 =>
      ldI .i64 (ad3.add 2) w7 fun x5 =>
      R (.returned (Value.tuple #[Value.agg #[Value.bool b4, s4.v, Value.int .i64 x5], Value.int .i64 x4])) w7)) :
    Calls Tryd.prog 46 #[Value.agg #[Value.bool a0_a_0, a0_a_1.v, Value.int .i64 a0_a_2], Value.agg #[Value.bool a1_b_0, a1_b_1.v, Value.int .i64 a1_b_2]] w R := by
  refine calls_of_vc (fun _ => none) (by kernel_rfl) Tryd.func46 rfl ?_ ?_
  · refine kcast h ?_; kernel_rfl
  · exact (obl_seq rfl (obl_reg (obl_seq rfl (obl_reg (obl_ret trivial)))))

set_option maxRecDepth 100000 in
/-- surd/dyadic.Middle: function 47. -/
theorem dyadic_Middle_vc (a0_a_0 : Bool) (a0_a_1 : Slc) (a0_a_2 : Int) (a1_b_0 : Bool) (a1_b_1 : Slc) (a1_b_2 : Int) (w : World) (R : Ending → World → Prop)
    
    (h : newC w #[Value.bool a0_a_0, a0_a_1.v, Value.int .i64 a0_a_2] 33 fun ad1 w1 =>
    newC w1 #[Value.bool a1_b_0, a1_b_1.v, Value.int .i64 a1_b_2] 33 fun ad2 w2 =>
    newC w2 #[Value.bool false, (⟨none, 0, 0⟩ : Slc).v, Value.int .i64 0] 33 fun ad3 w3 =>
    ldB ad1 w3 fun b1 =>
    ldS (ad1.add 1) w3 fun s1 =>
    ldI .i64 (ad1.add 2) w3 fun x1 =>
    ldB ad2 w3 fun b2 =>
    ldS (ad2.add 1) w3 fun s2 =>
    ldI .i64 (ad2.add 2) w3 fun x2 =>
    Calls Tryd.prog 86 #[Value.agg #[Value.bool b1, s1.v, Value.int .i64 x1], Value.agg #[Value.bool b2, s2.v, Value.int .i64 x2]] w3 fun e1 w4 =>
    ∃ b3 : Bool, ∃ s3 : Slc, ∃ x3 : Int, ∃ b4 : Bool, ∃ s4 : Slc, ∃ x4 : Int, ∃ x5 : Int, e1 = .returned (Value.tuple #[Value.agg #[Value.bool b3, s3.v, Value.int .i64 x3], Value.agg #[Value.bool b4, s4.v, Value.int .i64 x4], Value.int .i64 x5]) ∧
    (newC w4 #[Value.bool false, (⟨none, 0, 0⟩ : Slc).v, Value.int .i64 0] 98 fun ad4 w5 =>
      newC w5 #[Value.bool false, (⟨none, 0, 0⟩ : Slc).v, Value.int .i64 0] 98 fun ad5 w6 =>
      stC ad4 (Value.bool b3) w6 fun w7 =>
      stC (ad4.add 1) s3.v w7 fun w8 =>
      stC (ad4.add 2) (Value.int .i64 x3) w8 fun w9 =>
      stC ad5 (Value.bool b4) w9 fun w10 =>
      stC (ad5.add 1) s4.v w10 fun w11 =>
      stC (ad5.add 2) (Value.int .i64 x4) w11 fun w12 =>
      br (x5 != 0)
      (stC ad3 (Value.bool false) w12 fun w13 =>
        stC (ad3.add 1) ((⟨none, 0, 0⟩ : Slc).v) w13 fun w14 =>
        stC (ad3.add 2) (Value.int .i64 0) w14 fun w15 =>
        ldB ad3 w15 fun b5 =>
        ldS (ad3.add 1) w15 fun s5 =>
        ldI .i64 (ad3.add 2) w15 fun x6 =>
        R (.returned (Value.tuple #[Value.agg #[Value.bool b5, s5.v, Value.int .i64 x6], Value.int .i64 x5])) w15)
      (ldB ad4 w12 fun b6 =>
        ldS (ad4.add 1) w12 fun s6 =>
        Calls Tryd.prog 71 #[Value.agg #[Value.bool b6, s6.v]] w12 fun e2 w16 =>
        ∃ x7 : Int, e2 = .returned (Value.int .i64 x7) ∧
        (br (x7 != 0)
          (ldI .i64 (ad4.add 2) w16 fun x8 =>
            stC (ad4.add 2) (Value.int .i64 (IntKind.i64.wrap (x8 - 1))) w16 fun w17 =>
            ldB ad5 w17 fun b7 =>
            ldS (ad5.add 1) w17 fun s7 =>
            Calls Tryd.prog 71 #[Value.agg #[Value.bool b7, s7.v]] w17 fun e3 w18 =>
            ∃ x9 : Int, e3 = .returned (Value.int .i64 x9) ∧
            (br (x9 != 0)
              (ldI .i64 (ad5.add 2) w18 fun x10 =>
                stC (ad5.add 2) (Value.int .i64 (IntKind.i64.wrap (x10 - 1))) w18 fun w19 =>
                ldB ad4 w19 fun b8 =>
                ldS (ad4.add 1) w19 fun s8 =>
                ldI .i64 (ad4.add 2) w19 fun x11 =>
                ldB ad5 w19 fun b9 =>
                ldS (ad5.add 1) w19 fun s9 =>
                ldI .i64 (ad5.add 2) w19 fun x12 =>
                Calls Tryd.prog 89 #[Value.agg #[Value.bool b8, s8.v, Value.int .i64 x11], Value.agg #[Value.bool b9, s9.v, Value.int .i64 x12]] w19 fun e4 w20 =>
                ∃ b10 : Bool, ∃ s10 : Slc, ∃ x13 : Int, ∃ x14 : Int, e4 = .returned (Value.tuple #[Value.agg #[Value.bool b10, s10.v, Value.int .i64 x13], Value.int .i64 x14]) ∧
                (stC ad3 (Value.bool b10) w20 fun w21 =>
                  stC (ad3.add 1) s10.v w21 fun w22 =>
                  stC (ad3.add 2) (Value.int .i64 x13) w22 fun w23 =>
                  ldB ad3 w23 fun b11 =>
                  ldS (ad3.add 1) w23 fun s11 =>
                  ldI .i64 (ad3.add 2) w23 fun x15 =>
                  R (.returned (Value.tuple #[Value.agg #[Value.bool b11, s11.v, Value.int .i64 x15], Value.int .i64 x14])) w23))
              (ldB ad4 w18 fun b12 =>
                ldS (ad4.add 1) w18 fun s12 =>
                ldI .i64 (ad4.add 2) w18 fun x16 =>
                ldB ad5 w18 fun b13 =>
                ldS (ad5.add 1) w18 fun s13 =>
                ldI .i64 (ad5.add 2) w18 fun x17 =>
                Calls Tryd.prog 89 #[Value.agg #[Value.bool b12, s12.v, Value.int .i64 x16], Value.agg #[Value.bool b13, s13.v, Value.int .i64 x17]] w18 fun e5 w24 =>
                ∃ b14 : Bool, ∃ s14 : Slc, ∃ x18 : Int, ∃ x19 : Int, e5 = .returned (Value.tuple #[Value.agg #[Value.bool b14, s14.v, Value.int .i64 x18], Value.int .i64 x19]) ∧
                (stC ad3 (Value.bool b14) w24 fun w25 =>
                  stC (ad3.add 1) s14.v w25 fun w26 =>
                  stC (ad3.add 2) (Value.int .i64 x18) w26 fun w27 =>
                  ldB ad3 w27 fun b15 =>
                  ldS (ad3.add 1) w27 fun s15 =>
                  ldI .i64 (ad3.add 2) w27 fun x20 =>
                  R (.returned (Value.tuple #[Value.agg #[Value.bool b15, s15.v, Value.int .i64 x20], Value.int .i64 x19])) w27))))
          (ldB ad5 w16 fun b16 =>
            ldS (ad5.add 1) w16 fun s16 =>
            Calls Tryd.prog 71 #[Value.agg #[Value.bool b16, s16.v]] w16 fun e6 w28 =>
            ∃ x21 : Int, e6 = .returned (Value.int .i64 x21) ∧
            (br (x21 != 0)
              (ldI .i64 (ad5.add 2) w28 fun x22 =>
                stC (ad5.add 2) (Value.int .i64 (IntKind.i64.wrap (x22 - 1))) w28 fun w29 =>
                ldB ad4 w29 fun b17 =>
                ldS (ad4.add 1) w29 fun s17 =>
                ldI .i64 (ad4.add 2) w29 fun x23 =>
                ldB ad5 w29 fun b18 =>
                ldS (ad5.add 1) w29 fun s18 =>
                ldI .i64 (ad5.add 2) w29 fun x24 =>
                Calls Tryd.prog 89 #[Value.agg #[Value.bool b17, s17.v, Value.int .i64 x23], Value.agg #[Value.bool b18, s18.v, Value.int .i64 x24]] w29 fun e7 w30 =>
                ∃ b19 : Bool, ∃ s19 : Slc, ∃ x25 : Int, ∃ x26 : Int, e7 = .returned (Value.tuple #[Value.agg #[Value.bool b19, s19.v, Value.int .i64 x25], Value.int .i64 x26]) ∧
                (stC ad3 (Value.bool b19) w30 fun w31 =>
                  stC (ad3.add 1) s19.v w31 fun w32 =>
                  stC (ad3.add 2) (Value.int .i64 x25) w32 fun w33 =>
                  ldB ad3 w33 fun b20 =>
                  ldS (ad3.add 1) w33 fun s20 =>
                  ldI .i64 (ad3.add 2) w33 fun x27 =>
                  R (.returned (Value.tuple #[Value.agg #[Value.bool b20, s20.v, Value.int .i64 x27], Value.int .i64 x26])) w33))
              (ldB ad4 w28 fun b21 =>
                ldS (ad4.add 1) w28 fun s21 =>
                ldI .i64 (ad4.add 2) w28 fun x28 =>
                ldB ad5 w28 fun b22 =>
                ldS (ad5.add 1) w28 fun s22 =>
                ldI .i64 (ad5.add 2) w28 fun x29 =>
                Calls Tryd.prog 89 #[Value.agg #[Value.bool b21, s21.v, Value.int .i64 x28], Value.agg #[Value.bool b22, s22.v, Value.int .i64 x29]] w28 fun e8 w34 =>
                ∃ b23 : Bool, ∃ s23 : Slc, ∃ x30 : Int, ∃ x31 : Int, e8 = .returned (Value.tuple #[Value.agg #[Value.bool b23, s23.v, Value.int .i64 x30], Value.int .i64 x31]) ∧
                (stC ad3 (Value.bool b23) w34 fun w35 =>
                  stC (ad3.add 1) s23.v w35 fun w36 =>
                  stC (ad3.add 2) (Value.int .i64 x30) w36 fun w37 =>
                  ldB ad3 w37 fun b24 =>
                  ldS (ad3.add 1) w37 fun s24 =>
                  ldI .i64 (ad3.add 2) w37 fun x32 =>
                  R (.returned (Value.tuple #[Value.agg #[Value.bool b24, s24.v, Value.int .i64 x32], Value.int .i64 x31])) w37)))))))) :
    Calls Tryd.prog 47 #[Value.agg #[Value.bool a0_a_0, a0_a_1.v, Value.int .i64 a0_a_2], Value.agg #[Value.bool a1_b_0, a1_b_1.v, Value.int .i64 a1_b_2]] w R := by
  refine calls_of_vc (fun _ => none) (by kernel_rfl) Tryd.func47 rfl ?_ ?_
  · refine kcast h ?_; kernel_rfl
  · exact (obl_seq rfl (obl_reg (obl_seq rfl (obl_reg (obl_seq rfl (obl_seq rfl (obl_reg (obl_cond (obl_seq rfl (obl_reg (obl_ret (obl_skip (obl_seq rfl (obl_seq rfl (obl_reg (obl_cond (obl_reg (obl_skip (obl_seq rfl (obl_seq rfl (obl_reg (obl_cond (obl_reg (obl_skip (obl_seq rfl (obl_reg (obl_ret trivial)))))))))))))))))))))))))))

set_option maxRecDepth 100000 in
/-- surd/dyadic.Neg: function 56. -/
theorem dyadic_Neg_vc (a0_a_0 : Bool) (a0_a_1 : Slc) (a0_a_2 : Int) (w : World) (R : Ending → World → Prop)
    
    (h : newC w #[Value.bool a0_a_0, a0_a_1.v, Value.int .i64 a0_a_2] 33 fun ad1 w1 =>
    newC w1 #[Value.bool false, (⟨none, 0, 0⟩ : Slc).v, Value.int .i64 0] 33 fun ad2 w2 =>
    ldB ad1 w2 fun b1 =>
    ldS (ad1.add 1) w2 fun s1 =>
    ldI .i64 (ad1.add 2) w2 fun x1 =>
    Calls Tryd.prog 62 #[Value.agg #[Value.bool b1, s1.v, Value.int .i64 x1]] w2 fun e1 w3 =>
    ∃ b2 : Bool, ∃ s2 : Slc, ∃ x2 : Int, ∃ x3 : Int, e1 = .returned (Value.tuple #[Value.agg #[Value.bool b2, s2.v, Value.int .i64 x2], Value.int .i64 x3]) ∧
    (newC w3 #[Value.bool false, (⟨none, 0, 0⟩ : Slc).v, Value.int .i64 0] 98 fun ad3 w4 =>
      stC ad3 (Value.bool b2) w4 fun w5 =>
      stC (ad3.add 1) s2.v w5 fun w6 =>
      stC (ad3.add 2) (Value.int .i64 x2) w6 fun w7 =>
      br (x3 != 0)
      (stC ad2 (Value.bool false) w7 fun w8 =>
        stC (ad2.add 1) ((⟨none, 0, 0⟩ : Slc).v) w8 fun w9 =>
        stC (ad2.add 2) (Value.int .i64 0) w9 fun w10 =>
        ldB ad2 w10 fun b3 =>
        ldS (ad2.add 1) w10 fun s3 =>
        ldI .i64 (ad2.add 2) w10 fun x4 =>
        R (.returned (Value.tuple #[Value.agg #[Value.bool b3, s3.v, Value.int .i64 x4], Value.int .i64 x3])) w10)
      (ldB ad3 w7 fun b4 =>
        stC ad3 (Value.bool (!b4)) w7 fun w11 =>
        ldB ad3 w11 fun b5 =>
        ldS (ad3.add 1) w11 fun s4 =>
        ldI .i64 (ad3.add 2) w11 fun x5 =>
        Calls Tryd.prog 64 #[Value.agg #[Value.bool b5, s4.v], Value.int .i64 x5] w11 fun e2 w12 =>
        ∃ b6 : Bool, ∃ s5 : Slc, ∃ x6 : Int, ∃ x7 : Int, e2 = .returned (Value.tuple #[Value.agg #[Value.bool b6, s5.v, Value.int .i64 x6], Value.int .i64 x7]) ∧
        (stC ad2 (Value.bool b6) w12 fun w13 =>
          stC (ad2.add 1) s5.v w13 fun w14 =>
          stC (ad2.add 2) (Value.int .i64 x6) w14 fun w15 =>
          ldB ad2 w15 fun b7 =>
          ldS (ad2.add 1) w15 fun s6 =>
          ldI .i64 (ad2.add 2) w15 fun x8 =>
          R (.returned (Value.tuple #[Value.agg #[Value.bool b7, s6.v, Value.int .i64 x8], Value.int .i64 x7])) w15)))) :
    Calls Tryd.prog 56 #[Value.agg #[Value.bool a0_a_0, a0_a_1.v, Value.int .i64 a0_a_2]] w R := by
  refine calls_of_vc (fun _ => none) (by kernel_rfl) Tryd.func56 rfl ?_ ?_
  · refine kcast h ?_; kernel_rfl
  · exact (obl_seq rfl (obl_reg (obl_seq rfl (obl_reg (obl_seq rfl (obl_seq rfl (obl_reg (obl_cond (obl_seq rfl (obl_reg (obl_ret (obl_skip (obl_seq rfl (obl_reg (obl_seq rfl (obl_reg (obl_ret trivial)))))))))))))))))

set_option maxRecDepth 100000 in
/-- surd/dyadic.Round: function 36. -/
theorem dyadic_Round_vc (a0_a_0 : Bool) (a0_a_1 : Slc) (a0_a_2 : Int) (a1_pos : Int) (a2_m : Int) (w : World) (R : Ending → World → Prop)
    
    (h : newC w #[Value.bool a0_a_0, a0_a_1.v, Value.int .i64 a0_a_2] 33 fun ad1 w1 =>
    newC w1 #[Value.bool false, (⟨none, 0, 0⟩ : Slc).v, Value.int .i64 0] 33 fun ad2 w2 =>
    ldB ad1 w2 fun b1 =>
    ldS (ad1.add 1) w2 fun s1 =>
    ldI .i64 (ad1.add 2) w2 fun x1 =>
    Calls Tryd.prog 62 #[Value.agg #[Value.bool b1, s1.v, Value.int .i64 x1]] w2 fun e1 w3 =>
    ∃ b2 : Bool, ∃ s2 : Slc, ∃ x2 : Int, ∃ x3 : Int, e1 = .returned (Value.tuple #[Value.agg #[Value.bool b2, s2.v, Value.int .i64 x2], Value.int .i64 x3]) ∧
    (newC w3 #[Value.bool false, (⟨none, 0, 0⟩ : Slc).v, Value.int .i64 0] 98 fun ad3 w4 =>
      stC ad3 (Value.bool b2) w4 fun w5 =>
      stC (ad3.add 1) s2.v w5 fun w6 =>
      stC (ad3.add 2) (Value.int .i64 x2) w6 fun w7 =>
      br (x3 != 0)
      (stC ad2 (Value.bool false) w7 fun w8 =>
        stC (ad2.add 1) ((⟨none, 0, 0⟩ : Slc).v) w8 fun w9 =>
        stC (ad2.add 2) (Value.int .i64 0) w9 fun w10 =>
        ldB ad2 w10 fun b3 =>
        ldS (ad2.add 1) w10 fun s3 =>
        ldI .i64 (ad2.add 2) w10 fun x4 =>
        R (.returned (Value.tuple #[Value.agg #[Value.bool b3, s3.v, Value.int .i64 x4], Value.int .i64 x3])) w10)
      (Calls Tryd.prog 63 #[Value.int .i64 a1_pos] w7 fun e2 w11 =>
        ∃ b4 : Bool, e2 = .returned (Value.bool b4) ∧
        (br (!b4)
          (stC ad2 (Value.bool false) w11 fun w12 =>
            stC (ad2.add 1) ((⟨none, 0, 0⟩ : Slc).v) w12 fun w13 =>
            stC (ad2.add 2) (Value.int .i64 0) w13 fun w14 =>
            ldB ad2 w14 fun b5 =>
            ldS (ad2.add 1) w14 fun s4 =>
            ldI .i64 (ad2.add 2) w14 fun x5 =>
            R (.returned (Value.tuple #[Value.agg #[Value.bool b5, s4.v, Value.int .i64 x5], Value.int .i64 1])) w14)
          (Calls Tryd.prog 79 #[Value.int .i64 a2_m] w11 fun e3 w15 =>
            ∃ b6 : Bool, e3 = .returned (Value.bool b6) ∧
            (br (!b6)
              (stC ad2 (Value.bool false) w15 fun w16 =>
                stC (ad2.add 1) ((⟨none, 0, 0⟩ : Slc).v) w16 fun w17 =>
                stC (ad2.add 2) (Value.int .i64 0) w17 fun w18 =>
                ldB ad2 w18 fun b7 =>
                ldS (ad2.add 1) w18 fun s5 =>
                ldI .i64 (ad2.add 2) w18 fun x6 =>
                R (.returned (Value.tuple #[Value.agg #[Value.bool b7, s5.v, Value.int .i64 x6], Value.int .i64 81])) w18)
              (ldB ad3 w15 fun b8 =>
                ldS (ad3.add 1) w15 fun s6 =>
                ldI .i64 (ad3.add 2) w15 fun x7 =>
                Calls Tryd.prog 80 #[Value.agg #[Value.bool b8, s6.v, Value.int .i64 x7], Value.int .i64 a1_pos, Value.int .i64 a2_m] w15 fun e4 w19 =>
                ∃ b9 : Bool, ∃ s7 : Slc, ∃ x8 : Int, ∃ x9 : Int, e4 = .returned (Value.tuple #[Value.agg #[Value.bool b9, s7.v, Value.int .i64 x8], Value.int .i64 x9]) ∧
                (stC ad2 (Value.bool b9) w19 fun w20 =>
                  stC (ad2.add 1) s7.v w20 fun w21 =>
                  stC (ad2.add 2) (Value.int .i64 x8) w21 fun w22 =>
                  ldB ad2 w22 fun b10 =>
                  ldS (ad2.add 1) w22 fun s8 =>
                  ldI .i64 (ad2.add 2) w22 fun x10 =>
                  R (.returned (Value.tuple #[Value.agg #[Value.bool b10, s8.v, Value.int .i64 x10], Value.int .i64 x9])) w22)))))))) :
    Calls Tryd.prog 36 #[Value.agg #[Value.bool a0_a_0, a0_a_1.v, Value.int .i64 a0_a_2], Value.int .i64 a1_pos, Value.int .i64 a2_m] w R := by
  refine calls_of_vc (fun _ => none) (by kernel_rfl) Tryd.func36 rfl ?_ ?_
  · refine kcast h ?_; kernel_rfl
  · exact (obl_seq rfl (obl_reg (obl_seq rfl (obl_reg (obl_seq rfl (obl_blk rfl (obl_seq rfl (obl_reg (obl_cond (obl_seq rfl (obl_reg (obl_ret (obl_seq rfl (obl_reg (obl_cond (obl_seq rfl (obl_reg (obl_ret (obl_seq rfl (obl_reg (obl_cond (obl_seq rfl (obl_reg (obl_ret (obl_skip (obl_seq rfl (obl_reg (obl_ret trivial))))))))))))))))))))))))))))

set_option maxRecDepth 100000 in
/-- surd/dyadic.rounded: function 80. -/
theorem dyadic_rounded_vc (a0_x_0 : Bool) (a0_x_1 : Slc) (a0_x_2 : Int) (a1_pos : Int) (a2_m : Int) (w : World) (R : Ending → World → Prop)
    
    (h : newC w #[Value.bool a0_x_0, a0_x_1.v, Value.int .i64 a0_x_2] 98 fun ad1 w1 =>
    newC w1 #[Value.bool false, (⟨none, 0, 0⟩ : Slc).v, Value.int .i64 0] 33 fun ad2 w2 =>
    ldB ad1 w2 fun b1 =>
    ldS (ad1.add 1) w2 fun s1 =>
    Calls Tryd.prog 71 #[Value.agg #[Value.bool b1, s1.v]] w2 fun e1 w3 =>
    ∃ x1 : Int, e1 = .returned (Value.int .i64 x1) ∧
    (br (x1 == 0)
      (ldB ad1 w3 fun b2 =>
        ldS (ad1.add 1) w3 fun s2 =>
        ldI .i64 (ad1.add 2) w3 fun x2 =>
        Calls Tryd.prog 64 #[Value.agg #[Value.bool b2, s2.v], Value.int .i64 x2] w3 fun e2 w4 =>
        ∃ b3 : Bool, ∃ s3 : Slc, ∃ x3 : Int, ∃ x4 : Int, e2 = .returned (Value.tuple #[Value.agg #[Value.bool b3, s3.v, Value.int .i64 x3], Value.int .i64 x4]) ∧
        (stC ad2 (Value.bool b3) w4 fun w5 =>
          stC (ad2.add 1) s3.v w5 fun w6 =>
          stC (ad2.add 2) (Value.int .i64 x3) w6 fun w7 =>
          ldB ad2 w7 fun b4 =>
          ldS (ad2.add 1) w7 fun s4 =>
          ldI .i64 (ad2.add 2) w7 fun x5 =>
          R (.returned (Value.tuple #[Value.agg #[Value.bool b4, s4.v, Value.int .i64 x5], Value.int .i64 x4])) w7))
      (ldI .i64 (ad1.add 2) w3 fun x6 =>
        br (decide (x6 ≥ a1_pos))
        (ldB ad1 w3 fun b5 =>
          ldS (ad1.add 1) w3 fun s5 =>
          ldI .i64 (ad1.add 2) w3 fun x7 =>
          Calls Tryd.prog 64 #[Value.agg #[Value.bool b5, s5.v], Value.int .i64 x7] w3 fun e3 w8 =>
          ∃ b6 : Bool, ∃ s6 : Slc, ∃ x8 : Int, ∃ x9 : Int, e3 = .returned (Value.tuple #[Value.agg #[Value.bool b6, s6.v, Value.int .i64 x8], Value.int .i64 x9]) ∧
          (stC ad2 (Value.bool b6) w8 fun w9 =>
            stC (ad2.add 1) s6.v w9 fun w10 =>
            stC (ad2.add 2) (Value.int .i64 x8) w10 fun w11 =>
            ldB ad2 w11 fun b7 =>
            ldS (ad2.add 1) w11 fun s7 =>
            ldI .i64 (ad2.add 2) w11 fun x10 =>
            R (.returned (Value.tuple #[Value.agg #[Value.bool b7, s7.v, Value.int .i64 x10], Value.int .i64 x9])) w11))
        (ldB ad1 w3 fun b8 =>
          ldS (ad1.add 1) w3 fun s8 =>
          ldI .i64 (ad1.add 2) w3 fun x11 =>
          Calls Tryd.prog 84 #[Value.agg #[Value.bool b8, s8.v, Value.int .i64 x11], Value.int .i64 a1_pos, Value.int .i64 a2_m] w3 fun e4 w12 =>
          ∃ b9 : Bool, ∃ s9 : Slc, e4 = .returned (Value.agg #[Value.bool b9, s9.v]) ∧
          (Calls Tryd.prog 64 #[Value.agg #[Value.bool b9, s9.v], Value.int .i64 a1_pos] w12 fun e5 w13 =>
            ∃ b10 : Bool, ∃ s10 : Slc, ∃ x12 : Int, ∃ x13 : Int, e5 = .returned (Value.tuple #[Value.agg #[Value.bool b10, s10.v, Value.int .i64 x12], Value.int .i64 x13]) ∧
            (stC ad2 (Value.bool b10) w13 fun w14 =>
              stC (ad2.add 1) s10.v w14 fun w15 =>
              stC (ad2.add 2) (Value.int .i64 x12) w15 fun w16 =>
              ldB ad2 w16 fun b11 =>
              ldS (ad2.add 1) w16 fun s11 =>
              ldI .i64 (ad2.add 2) w16 fun x14 =>
              R (.returned (Value.tuple #[Value.agg #[Value.bool b11, s11.v, Value.int .i64 x14], Value.int .i64 x13])) w16)))))) :
    Calls Tryd.prog 80 #[Value.agg #[Value.bool a0_x_0, a0_x_1.v, Value.int .i64 a0_x_2], Value.int .i64 a1_pos, Value.int .i64 a2_m] w R := by
  refine calls_of_vc (fun _ => none) (by kernel_rfl) Tryd.func80 rfl ?_ ?_
  · refine kcast h ?_; kernel_rfl
  · exact (obl_seq rfl (obl_reg (obl_seq rfl (obl_seq rfl (obl_reg (obl_cond (obl_seq rfl (obl_reg (obl_ret (obl_skip (obl_seq rfl (obl_reg (obl_ret trivial)))))))))))))

def dyadic_steps_cut (K3 : Int → Int → Addr → Addr → Bool → World → Prop) (K8 : Int → Addr → Addr → Int → Slc → World → Prop) (K16 : Addr → Addr → Slc → Bool → World → Prop) : Nat → Option ((Act → World → Prop) × (Act → World → Nat))
  | 3000003 => some (fun a_ w_ => atSz a_ 98 (atI .i64 a_ 1 fun t1 => atI .i64 a_ 2 fun t2 => atA a_ 3 fun t3 => atA a_ 6 fun t6 => atB a_ 19 fun t19 => K3 t1 t2 t3 t6 t19 w_), fun _ _ => 0)
  | 3000008 => some (fun a_ w_ => atSz a_ 98 (atI .i64 a_ 2 fun t2 => atA a_ 3 fun t3 => atA a_ 6 fun t6 => atI .i64 a_ 7 fun t7 => atS a_ 8 fun t8 => K8 t2 t3 t6 t7 t8 w_), fun _ _ => 0)
  | 3000016 => some (fun a_ w_ => atSz a_ 98 (atA a_ 3 fun t3 => atA a_ 6 fun t6 => atS a_ 8 fun t8 => atB a_ 9 fun t9 => K16 t3 t6 t8 t9 w_), fun _ _ => 0)
  | _ => none

set_option maxRecDepth 100000 in
/-- surd/dyadic.steps: function 84. -/
theorem dyadic_steps_vc (a0_0 : Bool) (a0_1 : Slc) (a0_2 : Int) (a1 : Int) (a2 : Int) (w : World) (R : Ending → World → Prop)
    (K3 : Int → Int → Addr → Addr → Bool → World → Prop) (K8 : Int → Addr → Addr → Int → Slc → World → Prop) (K16 : Addr → Addr → Slc → Bool → World → Prop)
    (h : newC w #[Value.bool a0_0, a0_1.v, Value.int .i64 a0_2] 98 fun ad1 w1 =>
    newC w1 #[Value.bool false, (⟨none, 0, 0⟩ : Slc).v] 31 fun ad2 w2 =>
    ldB ad1 w2 fun b1 =>
    ldS (ad1.add 1) w2 fun s1 =>
    Calls Tryd.prog 71 #[Value.agg #[Value.bool b1, s1.v]] w2 fun e1 w3 =>
    ∃ x1 : Int, e1 = .returned (Value.int .i64 x1) ∧
    (br (x1 == 0)
      (K3 a1 a2 ad1 ad2 true w3)
      (ldI .i64 (ad1.add 2) w3 fun x8 =>
        K3 a1 a2 ad1 ad2 (decide (x8 ≥ a1)) w3)))
    (h3000003 : ∀ (t1 : Int) (t2 : Int) (t3 : Addr) (t6 : Addr) (t19 : Bool) (w_ : World), K3 t1 t2 t3 t6 t19 w_ → 
    br t19
    (ldB t3 w_.drew fun b2 =>
      ldS (t3.add 1) w_.drew fun s2 =>
      ldI .i64 (t3.add 2) w_.drew fun x2 =>
      Calls Tryd.prog 107 #[s2.v, Value.int .i64 (maxI (IntKind.i64.wrap (x2 - t1)) 0)] w_.drew fun e2 w4 =>
      ∃ s3 : Slc, e2 = .returned s3.v ∧
      (Ahead w_.drew w4 ∧
        (stC t6 (Value.bool b2) w4 fun w5 =>
          stC (t6.add 1) s3.v w5 fun w6 =>
          ldB t6 w6 fun b3 =>
          ldS (t6.add 1) w6 fun s4 =>
          R (.returned (Value.agg #[Value.bool b3, s4.v])) w6)))
    (ldI .i64 (t3.add 2) w_ fun x3 =>
      ldB t3 w_ fun b4 =>
      ldS (t3.add 1) w_ fun s5 =>
      Calls Tryd.prog 73 #[Value.agg #[Value.bool b4, s5.v]] w_ fun e3 w7 =>
      ∃ x4 : Int, e3 = .returned (Value.int .i64 x4) ∧
      (br (decide ((IntKind.i64.wrap (t1 - x3)) < x4))
        (ldS (t3.add 1) w7 fun s6 =>
          Calls Tryd.prog 108 #[s6.v, Value.int .i64 (IntKind.i64.wrap (t1 - x3))] w7 fun e4 w8 =>
          ∃ s7 : Slc, e4 = .returned s7.v ∧
          (K8 t2 t3 t6 (IntKind.i64.wrap (t1 - x3)) s7 w8))
        (K8 t2 t3 t6 (IntKind.i64.wrap (t1 - x3)) (⟨none, 0, 0⟩ : Slc) w7))))
    (h3000008 : ∀ (t2 : Int) (t3 : Addr) (t6 : Addr) (t7 : Int) (t8 : Slc) (w_ : World), K8 t2 t3 t6 t7 t8 w_ → 
    br (t2 == 2)
    (ldS (t3.add 1) w_ fun s8 =>
      Calls Tryd.prog 109 #[s8.v, Value.int .i64 (IntKind.i64.wrap (t7 - 1))] w_ fun e5 w9 =>
      ∃ x5 : Int, e5 = .returned (Value.int .i64 x5) ∧
      (br (x5 == 1)
        (ldS (t3.add 1) w9 fun s9 =>
          Calls Tryd.prog 110 #[s9.v] w9 fun e6 w10 =>
          ∃ x6 : Int, e6 = .returned (Value.int .i64 x6) ∧
          (br (decide (x6 < (IntKind.i64.wrap (t7 - 1))))
            (K16 t3 t6 t8 true w10)
            (Calls Tryd.prog 109 #[t8.v, Value.int .i64 0] w10 fun e9 w17 =>
              ∃ x7 : Int, e9 = .returned (Value.int .i64 x7) ∧
              (br (!(x7 == 1))
                (K16 t3 t6 t8 false w17)
                (K16 t3 t6 t8 true w17)))))
        (K16 t3 t6 t8 false w9)))
    (br (t2 == 0)
      (ldB t3 w_ fun b9 =>
        K16 t3 t6 t8 b9 w_)
      (ldB t3 w_ fun b10 =>
        K16 t3 t6 t8 (!b10) w_)))
    (h3000016 : ∀ (t3 : Addr) (t6 : Addr) (t8 : Slc) (t9 : Bool) (w_ : World), K16 t3 t6 t8 t9 w_ → 
    br t9
    (Calls Tryd.prog 101 #[Value.int .u64 1] w_ fun e7 w11 =>
      ∃ s10 : Slc, e7 = .returned s10.v ∧
      (Calls Tryd.prog 111 #[t8.v, s10.v] w11 fun e8 w12 =>
        ∃ s11 : Slc, e8 = .returned s11.v ∧
        (ldB t3 w12 fun b5 =>
          stC t6 (Value.bool b5) w12 fun w13 =>
          stC (t6.add 1) s11.v w13 fun w14 =>
          ldB t6 w14 fun b6 =>
          ldS (t6.add 1) w14 fun s12 =>
          R (.returned (Value.agg #[Value.bool b6, s12.v])) w14)))
    (ldB t3 w_ fun b7 =>
      stC t6 (Value.bool b7) w_ fun w15 =>
      stC (t6.add 1) t8.v w15 fun w16 =>
      ldB t6 w16 fun b8 =>
      ldS (t6.add 1) w16 fun s13 =>
      R (.returned (Value.agg #[Value.bool b8, s13.v])) w16)) :
    Calls Tryd.prog 84 #[Value.agg #[Value.bool a0_0, a0_1.v, Value.int .i64 a0_2], Value.int .i64 a1, Value.int .i64 a2] w R := by
  refine calls_of_vc (dyadic_steps_cut K3 K8 K16) (by kernel_rfl) Tryd.func84 rfl ?_ ?_
  · refine kcast h ?_; kernel_rfl
  · exact (obl_seq rfl (obl_reg (obl_seq rfl (obl_join _ rfl (obl_reg (obl_seq rfl (obl_reg (obl_seq rfl (obl_reg (obl_join _ rfl (obl_seq rfl (obl_reg (obl_cond (obl_reg (obl_skip trivial))))) (fun a_ w_ hL_ => (by
    obtain ⟨hz_, hd_, hL_⟩ := atSz_out hL_
    obtain ⟨t2, h2_, hL_⟩ := atI_out hL_
    obtain ⟨t3, h3_, hL_⟩ := atA_out hL_
    obtain ⟨t6, h6_, hL_⟩ := atA_out hL_
    obtain ⟨t7, h7_, hL_⟩ := atI_out hL_
    obtain ⟨t8, h8_, hL_⟩ := atS_out hL_
    obtain ⟨g3000008, rfl⟩ : ∃ g, a_ = Fr 98 [(2, Value.int .i64 t2), (3, Value.pointer (some t3)), (6, Value.pointer (some t6)), (7, Value.int .i64 t7), (8, t8.v)] g := ⟨_, fr_of hz_ hd_ [(2, Value.int .i64 t2), (3, Value.pointer (some t3)), (6, Value.pointer (some t6)), (7, Value.int .i64 t7), (8, t8.v)] (sel_cons h2_ (sel_cons h3_ (sel_cons h6_ (sel_cons h7_ (sel_cons h8_ sel_nil)))))⟩
    clear hz_ hd_ h2_ h3_ h6_ h7_ h8_
    have hJ3000008_ := hL_
    refine ⟨(dyadic_steps_cut K3 K8 K16), kcast (h3000008 t2 t3 t6 t7 t8 w_ hJ3000008_) ?_, ?_⟩
    · kernel_rfl
    · exact (obl_seq rfl (obl_reg (obl_join _ rfl (obl_seq rfl (obl_reg (obl_blk rfl (obl_seq rfl (obl_reg (obl_cond (obl_seq rfl (obl_seq rfl (obl_reg (obl_cond (obl_exit (obl_skip (obl_reg (obl_seq rfl (obl_reg (obl_cond (obl_reg (obl_reg trivial)))))))))))))))))) (fun a_ w_ hL_ => (by
      obtain ⟨hz_, hd_, hL_⟩ := atSz_out hL_
      obtain ⟨t3, h3_, hL_⟩ := atA_out hL_
      obtain ⟨t6, h6_, hL_⟩ := atA_out hL_
      obtain ⟨t8, h8_, hL_⟩ := atS_out hL_
      obtain ⟨t9, h9_, hL_⟩ := atB_out hL_
      obtain ⟨g3000016, rfl⟩ : ∃ g, a_ = Fr 98 [(3, Value.pointer (some t3)), (6, Value.pointer (some t6)), (8, t8.v), (9, Value.bool t9)] g := ⟨_, fr_of hz_ hd_ [(3, Value.pointer (some t3)), (6, Value.pointer (some t6)), (8, t8.v), (9, Value.bool t9)] (sel_cons h3_ (sel_cons h6_ (sel_cons h8_ (sel_cons h9_ sel_nil))))⟩
      clear hz_ hd_ h3_ h6_ h8_ h9_
      have hJ3000016_ := hL_
      refine ⟨(dyadic_steps_cut K3 K8 K16), kcast (h3000016 t3 t6 t8 t9 w_ hJ3000016_) ?_, ?_⟩
      · kernel_rfl
      · exact (obl_seq rfl (obl_seq rfl (obl_reg (obl_cond (obl_reg (obl_skip (obl_seq rfl (obl_reg (obl_ret trivial)))))))))))))))))))))) (fun a_ w_ hL_ => (by
    obtain ⟨hz_, hd_, hL_⟩ := atSz_out hL_
    obtain ⟨t1, h1_, hL_⟩ := atI_out hL_
    obtain ⟨t2, h2_, hL_⟩ := atI_out hL_
    obtain ⟨t3, h3_, hL_⟩ := atA_out hL_
    obtain ⟨t6, h6_, hL_⟩ := atA_out hL_
    obtain ⟨t19, h19_, hL_⟩ := atB_out hL_
    obtain ⟨g3000003, rfl⟩ : ∃ g, a_ = Fr 98 [(1, Value.int .i64 t1), (2, Value.int .i64 t2), (3, Value.pointer (some t3)), (6, Value.pointer (some t6)), (19, Value.bool t19)] g := ⟨_, fr_of hz_ hd_ [(1, Value.int .i64 t1), (2, Value.int .i64 t2), (3, Value.pointer (some t3)), (6, Value.pointer (some t6)), (19, Value.bool t19)] (sel_cons h1_ (sel_cons h2_ (sel_cons h3_ (sel_cons h6_ (sel_cons h19_ sel_nil)))))⟩
    clear hz_ hd_ h1_ h2_ h3_ h6_ h19_
    have hJ3000003_ := hL_
    refine ⟨(dyadic_steps_cut K3 K8 K16), kcast (h3000003 t1 t2 t3 t6 t19 w_ hJ3000003_) ?_, ?_⟩
    · kernel_rfl
    · exact (obl_cond (obl_seq rfl (obl_held (by kernel_rfl) (by kernel_rfl) (by kernel_rfl) (obl_ret (obl_skip trivial)))))))))))

set_option maxRecDepth 100000 in
/-- surd/dyadic.direction: function 79. -/
theorem dyadic_direction_vc (a0_m : Int) (w : World) (R : Ending → World → Prop)
    
    (h : br (a0_m == 0)
    (R (.returned (Value.bool true)) w)
    (br (a0_m == 1)
      (R (.returned (Value.bool true)) w)
      (R (.returned (Value.bool (a0_m == 2))) w))) :
    Calls Tryd.prog 79 #[Value.int .i64 a0_m] w R := by
  refine calls_of_vc (fun _ => none) (by kernel_rfl) Tryd.func79 rfl ?_ ?_
  · refine kcast h ?_; kernel_rfl
  · exact (obl_seq rfl (obl_reg (obl_seq rfl (obl_reg (obl_ret trivial)))))

set_option maxRecDepth 100000 in
/-- surd/dyadic.Cut: function 39. -/
theorem dyadic_Cut_vc (a0_a_0 : Bool) (a0_a_1 : Slc) (a0_a_2 : Int) (a1_bits : Int) (a2_m : Int) (w : World) (R : Ending → World → Prop)
    
    (h : newC w #[Value.bool a0_a_0, a0_a_1.v, Value.int .i64 a0_a_2] 33 fun ad1 w1 =>
    newC w1 #[Value.bool false, (⟨none, 0, 0⟩ : Slc).v, Value.int .i64 0] 33 fun ad2 w2 =>
    ldB ad1 w2 fun b1 =>
    ldS (ad1.add 1) w2 fun s1 =>
    ldI .i64 (ad1.add 2) w2 fun x1 =>
    Calls Tryd.prog 62 #[Value.agg #[Value.bool b1, s1.v, Value.int .i64 x1]] w2 fun e1 w3 =>
    ∃ b2 : Bool, ∃ s2 : Slc, ∃ x2 : Int, ∃ x3 : Int, e1 = .returned (Value.tuple #[Value.agg #[Value.bool b2, s2.v, Value.int .i64 x2], Value.int .i64 x3]) ∧
    (newC w3 #[Value.bool false, (⟨none, 0, 0⟩ : Slc).v, Value.int .i64 0] 98 fun ad3 w4 =>
      stC ad3 (Value.bool b2) w4 fun w5 =>
      stC (ad3.add 1) s2.v w5 fun w6 =>
      stC (ad3.add 2) (Value.int .i64 x2) w6 fun w7 =>
      br (x3 != 0)
      (stC ad2 (Value.bool false) w7 fun w8 =>
        stC (ad2.add 1) ((⟨none, 0, 0⟩ : Slc).v) w8 fun w9 =>
        stC (ad2.add 2) (Value.int .i64 0) w9 fun w10 =>
        ldB ad2 w10 fun b3 =>
        ldS (ad2.add 1) w10 fun s3 =>
        ldI .i64 (ad2.add 2) w10 fun x4 =>
        R (.returned (Value.tuple #[Value.agg #[Value.bool b3, s3.v, Value.int .i64 x4], Value.int .i64 x3])) w10)
      (br (decide (a1_bits < 1))
        (stC ad2 (Value.bool false) w7 fun w11 =>
          stC (ad2.add 1) ((⟨none, 0, 0⟩ : Slc).v) w11 fun w12 =>
          stC (ad2.add 2) (Value.int .i64 0) w12 fun w13 =>
          ldB ad2 w13 fun b4 =>
          ldS (ad2.add 1) w13 fun s4 =>
          ldI .i64 (ad2.add 2) w13 fun x5 =>
          R (.returned (Value.tuple #[Value.agg #[Value.bool b4, s4.v, Value.int .i64 x5], Value.int .i64 1])) w13)
        (Calls Tryd.prog 79 #[Value.int .i64 a2_m] w7 fun e2 w14 =>
          ∃ b5 : Bool, e2 = .returned (Value.bool b5) ∧
          (br (!b5)
            (stC ad2 (Value.bool false) w14 fun w15 =>
              stC (ad2.add 1) ((⟨none, 0, 0⟩ : Slc).v) w15 fun w16 =>
              stC (ad2.add 2) (Value.int .i64 0) w16 fun w17 =>
              ldB ad2 w17 fun b6 =>
              ldS (ad2.add 1) w17 fun s5 =>
              ldI .i64 (ad2.add 2) w17 fun x6 =>
              R (.returned (Value.tuple #[Value.agg #[Value.bool b6, s5.v, Value.int .i64 x6], Value.int .i64 81])) w17)
            (ldB ad3 w14 fun b7 =>
              ldS (ad3.add 1) w14 fun s6 =>
              Calls Tryd.prog 73 #[Value.agg #[Value.bool b7, s6.v]] w14 fun e3 w18 =>
              ∃ x7 : Int, e3 = .returned (Value.int .i64 x7) ∧
              (br (decide (a1_bits ≥ x7))
                (ldB ad3 w18 fun b8 =>
                  ldS (ad3.add 1) w18 fun s7 =>
                  ldI .i64 (ad3.add 2) w18 fun x8 =>
                  Calls Tryd.prog 64 #[Value.agg #[Value.bool b8, s7.v], Value.int .i64 x8] w18 fun e4 w19 =>
                  ∃ b9 : Bool, ∃ s8 : Slc, ∃ x9 : Int, ∃ x10 : Int, e4 = .returned (Value.tuple #[Value.agg #[Value.bool b9, s8.v, Value.int .i64 x9], Value.int .i64 x10]) ∧
                  (stC ad2 (Value.bool b9) w19 fun w20 =>
                    stC (ad2.add 1) s8.v w20 fun w21 =>
                    stC (ad2.add 2) (Value.int .i64 x9) w21 fun w22 =>
                    ldB ad2 w22 fun b10 =>
                    ldS (ad2.add 1) w22 fun s9 =>
                    ldI .i64 (ad2.add 2) w22 fun x11 =>
                    R (.returned (Value.tuple #[Value.agg #[Value.bool b10, s9.v, Value.int .i64 x11], Value.int .i64 x10])) w22))
                (ldB ad3 w18.drew fun b11 =>
                  ldS (ad3.add 1) w18.drew fun s10 =>
                  ldI .i64 (ad3.add 2) w18.drew fun x12 =>
                  ldB ad3 w18.drew fun b12 =>
                  ldS (ad3.add 1) w18.drew fun s11 =>
                  ldI .i64 (ad3.add 2) w18.drew fun x13 =>
                  Calls Tryd.prog 72 #[Value.agg #[Value.bool b12, s11.v, Value.int .i64 x13]] w18.drew fun e5 w23 =>
                  ∃ x14 : Int, e5 = .returned (Value.int .i64 x14) ∧
                  (Ahead w18.drew w23 ∧
                    (Calls Tryd.prog 80 #[Value.agg #[Value.bool b11, s10.v, Value.int .i64 x12], Value.int .i64 (IntKind.i64.wrap (x14 - (IntKind.i64.wrap (a1_bits - 1)))), Value.int .i64 a2_m] w23 fun e6 w24 =>
                      ∃ b13 : Bool, ∃ s12 : Slc, ∃ x15 : Int, ∃ x16 : Int, e6 = .returned (Value.tuple #[Value.agg #[Value.bool b13, s12.v, Value.int .i64 x15], Value.int .i64 x16]) ∧
                      (Ahead w23 w24 ∧
                        (stC ad2 (Value.bool b13) w24 fun w25 =>
                          stC (ad2.add 1) s12.v w25 fun w26 =>
                          stC (ad2.add 2) (Value.int .i64 x15) w26 fun w27 =>
                          ldB ad2 w27 fun b14 =>
                          ldS (ad2.add 1) w27 fun s13 =>
                          ldI .i64 (ad2.add 2) w27 fun x17 =>
                          R (.returned (Value.tuple #[Value.agg #[Value.bool b14, s13.v, Value.int .i64 x17], Value.int .i64 x16])) w27)))))))))))) :
    Calls Tryd.prog 39 #[Value.agg #[Value.bool a0_a_0, a0_a_1.v, Value.int .i64 a0_a_2], Value.int .i64 a1_bits, Value.int .i64 a2_m] w R := by
  refine calls_of_vc (fun _ => none) (by kernel_rfl) Tryd.func39 rfl ?_ ?_
  · refine kcast h ?_; kernel_rfl
  · exact (obl_seq rfl (obl_reg (obl_seq rfl (obl_reg (obl_seq rfl (obl_blk rfl (obl_seq rfl (obl_reg (obl_cond (obl_seq rfl (obl_reg (obl_ret (obl_seq rfl (obl_reg (obl_cond (obl_seq rfl (obl_reg (obl_ret (obl_seq rfl (obl_reg (obl_cond (obl_seq rfl (obl_reg (obl_ret (obl_skip (obl_seq rfl (obl_seq rfl (obl_reg (obl_cond (obl_seq rfl (obl_reg (obl_ret (obl_skip (obl_seq rfl (obl_held (by kernel_rfl) (by kernel_rfl) (by kernel_rfl) (obl_ret trivial))))))))))))))))))))))))))))))))))))

set_option maxRecDepth 100000 in
/-- surd/dyadic.Whole: function 40. -/
theorem dyadic_Whole_vc (a0_a_0 : Bool) (a0_a_1 : Slc) (a0_a_2 : Int) (a1_m : Int) (w : World) (R : Ending → World → Prop)
    
    (h : newC w #[Value.bool a0_a_0, a0_a_1.v, Value.int .i64 a0_a_2] 33 fun ad1 w1 =>
    newC w1 #[Value.bool false, (⟨none, 0, 0⟩ : Slc).v] 31 fun ad2 w2 =>
    ldB ad1 w2 fun b1 =>
    ldS (ad1.add 1) w2 fun s1 =>
    ldI .i64 (ad1.add 2) w2 fun x1 =>
    Calls Tryd.prog 62 #[Value.agg #[Value.bool b1, s1.v, Value.int .i64 x1]] w2 fun e1 w3 =>
    ∃ b2 : Bool, ∃ s2 : Slc, ∃ x2 : Int, ∃ x3 : Int, e1 = .returned (Value.tuple #[Value.agg #[Value.bool b2, s2.v, Value.int .i64 x2], Value.int .i64 x3]) ∧
    (newC w3 #[Value.bool false, (⟨none, 0, 0⟩ : Slc).v, Value.int .i64 0] 98 fun ad3 w4 =>
      stC ad3 (Value.bool b2) w4 fun w5 =>
      stC (ad3.add 1) s2.v w5 fun w6 =>
      stC (ad3.add 2) (Value.int .i64 x2) w6 fun w7 =>
      br (x3 != 0)
      (stC ad2 (Value.bool false) w7 fun w8 =>
        stC (ad2.add 1) ((⟨none, 0, 0⟩ : Slc).v) w8 fun w9 =>
        ldB ad2 w9 fun b3 =>
        ldS (ad2.add 1) w9 fun s3 =>
        R (.returned (Value.tuple #[Value.agg #[Value.bool b3, s3.v], Value.int .i64 x3])) w9)
      (Calls Tryd.prog 79 #[Value.int .i64 a1_m] w7 fun e2 w10 =>
        ∃ b4 : Bool, e2 = .returned (Value.bool b4) ∧
        (br (!b4)
          (stC ad2 (Value.bool false) w10 fun w11 =>
            stC (ad2.add 1) ((⟨none, 0, 0⟩ : Slc).v) w11 fun w12 =>
            ldB ad2 w12 fun b5 =>
            ldS (ad2.add 1) w12 fun s4 =>
            R (.returned (Value.tuple #[Value.agg #[Value.bool b5, s4.v], Value.int .i64 81])) w12)
          (ldB ad3 w10 fun b6 =>
            ldS (ad3.add 1) w10 fun s5 =>
            Calls Tryd.prog 71 #[Value.agg #[Value.bool b6, s5.v]] w10 fun e3 w13 =>
            ∃ x4 : Int, e3 = .returned (Value.int .i64 x4) ∧
            (br (x4 != 0)
              (ldB ad3 w13 fun b7 =>
                ldS (ad3.add 1) w13 fun s6 =>
                ldI .i64 (ad3.add 2) w13 fun x5 =>
                Calls Tryd.prog 72 #[Value.agg #[Value.bool b7, s6.v, Value.int .i64 x5]] w13 fun e4 w14 =>
                ∃ x6 : Int, e4 = .returned (Value.int .i64 x6) ∧
                (br (decide (x6 ≥ 67108864))
                  (stC ad2 (Value.bool false) w14 fun w15 =>
                    stC (ad2.add 1) ((⟨none, 0, 0⟩ : Slc).v) w15 fun w16 =>
                    ldB ad2 w16 fun b8 =>
                    ldS (ad2.add 1) w16 fun s7 =>
                    R (.returned (Value.tuple #[Value.agg #[Value.bool b8, s7.v], Value.int .i64 3])) w16)
                  (ldB ad3 w14 fun b9 =>
                    ldS (ad3.add 1) w14 fun s8 =>
                    ldI .i64 (ad3.add 2) w14 fun x7 =>
                    Calls Tryd.prog 84 #[Value.agg #[Value.bool b9, s8.v, Value.int .i64 x7], Value.int .i64 0, Value.int .i64 a1_m] w14 fun e5 w17 =>
                    ∃ b10 : Bool, ∃ s9 : Slc, e5 = .returned (Value.agg #[Value.bool b10, s9.v]) ∧
                    (newC w17 #[Value.bool false, (⟨none, 0, 0⟩ : Slc).v] 31 fun ad4 w18 =>
                      stC ad4 (Value.bool b10) w18 fun w19 =>
                      stC (ad4.add 1) s9.v w19 fun w20 =>
                      ldB ad4 w20 fun b11 =>
                      ldS (ad4.add 1) w20 fun s10 =>
                      Calls Tryd.prog 85 #[Value.bool b11, s10.v] w20 fun e6 w21 =>
                      ∃ b12 : Bool, ∃ s11 : Slc, ∃ x8 : Int, e6 = .returned (Value.tuple #[Value.agg #[Value.bool b12, s11.v], Value.int .i64 x8]) ∧
                      (stC ad2 (Value.bool b12) w21 fun w22 =>
                        stC (ad2.add 1) s11.v w22 fun w23 =>
                        ldB ad2 w23 fun b13 =>
                        ldS (ad2.add 1) w23 fun s12 =>
                        R (.returned (Value.tuple #[Value.agg #[Value.bool b13, s12.v], Value.int .i64 x8])) w23)))))
              (ldB ad3 w13 fun b14 =>
                ldS (ad3.add 1) w13 fun s13 =>
                ldI .i64 (ad3.add 2) w13 fun x9 =>
                Calls Tryd.prog 84 #[Value.agg #[Value.bool b14, s13.v, Value.int .i64 x9], Value.int .i64 0, Value.int .i64 a1_m] w13 fun e7 w24 =>
                ∃ b15 : Bool, ∃ s14 : Slc, e7 = .returned (Value.agg #[Value.bool b15, s14.v]) ∧
                (newC w24 #[Value.bool false, (⟨none, 0, 0⟩ : Slc).v] 31 fun ad5 w25 =>
                  stC ad5 (Value.bool b15) w25 fun w26 =>
                  stC (ad5.add 1) s14.v w26 fun w27 =>
                  ldB ad5 w27 fun b16 =>
                  ldS (ad5.add 1) w27 fun s15 =>
                  Calls Tryd.prog 85 #[Value.bool b16, s15.v] w27 fun e8 w28 =>
                  ∃ b17 : Bool, ∃ s16 : Slc, ∃ x10 : Int, e8 = .returned (Value.tuple #[Value.agg #[Value.bool b17, s16.v], Value.int .i64 x10]) ∧
                  (stC ad2 (Value.bool b17) w28 fun w29 =>
                    stC (ad2.add 1) s16.v w29 fun w30 =>
                    ldB ad2 w30 fun b18 =>
                    ldS (ad2.add 1) w30 fun s17 =>
                    R (.returned (Value.tuple #[Value.agg #[Value.bool b18, s17.v], Value.int .i64 x10])) w30))))))))) :
    Calls Tryd.prog 40 #[Value.agg #[Value.bool a0_a_0, a0_a_1.v, Value.int .i64 a0_a_2], Value.int .i64 a1_m] w R := by
  refine calls_of_vc (fun _ => none) (by kernel_rfl) Tryd.func40 rfl ?_ ?_
  · refine kcast h ?_; kernel_rfl
  · exact (obl_seq rfl (obl_reg (obl_seq rfl (obl_reg (obl_seq rfl (obl_blk rfl (obl_seq rfl (obl_reg (obl_cond (obl_seq rfl (obl_reg (obl_ret (obl_seq rfl (obl_reg (obl_cond (obl_seq rfl (obl_reg (obl_ret (obl_seq rfl (obl_reg (obl_cond (obl_seq rfl (obl_reg (obl_ret (obl_skip (obl_seq rfl (obl_reg (obl_seq rfl (obl_reg (obl_ret trivial))))))))))))))))))))))))))))))

def dyadic_plus_cut (J0 : Slc → Slc → Slc → Int → Int → Int → World → Prop) (m0 : Slc → Slc → Slc → Int → Int → Int → World → Nat) : Nat → Option ((Act → World → Prop) × (Act → World → Nat))
  | 0 => some (fun a_ w_ => atSz a_ 51 (atS a_ 0 fun t0_a => atS a_ 1 fun t1_b => atS a_ 5 fun t5_out => atI .u64 a_ 6 fun t6_carry => atI .i64 a_ 20 fun t20 => atI .i64 a_ 21 fun t21 => J0 t0_a t1_b t5_out t6_carry t20 t21 w_), fun a_ w_ => mS a_ 0 fun t0_a => mS a_ 1 fun t1_b => mS a_ 5 fun t5_out => mI a_ 6 fun t6_carry => mI a_ 20 fun t20 => mI a_ 21 fun t21 => m0 t0_a t1_b t5_out t6_carry t20 t21 w_)
  | _ => none

set_option maxRecDepth 100000 in
/-- surd/dyadic.plus: function 111. -/
theorem dyadic_plus_vc (a0_a : Slc) (a1_b : Slc) (w : World) (R : Ending → World → Prop)
    (J0 : Slc → Slc → Slc → Int → Int → Int → World → Prop) (m0 : Slc → Slc → Slc → Int → Int → Int → World → Nat)
    (h : semS Tryd.prog (Instr.makeSlice 29 (Value.int .i64 (IntKind.i64.wrap ((maxI (a0_a.n : Int) (a1_b.n : Int)) + 1))) (Value.int .i64 (IntKind.i64.wrap ((maxI (a0_a.n : Int) (a1_b.n : Int)) + 1)))) w fun s1 w1 =>
    J0 a0_a a1_b s1 0 (s1.n : Int) 0 w1)
    (h0 : ∀ (t0_a : Slc) (t1_b : Slc) (t5_out : Slc) (t6_carry : Int) (t20 : Int) (t21 : Int) (w_ : World), J0 t0_a t1_b t5_out t6_carry t20 t21 w_ → 
    br (decide (t21 < t20))
    (Calls Tryd.prog 131 #[t0_a.v, Value.int .i64 t21] w_ fun e1 w2 =>
      ∃ x1 : Int, e1 = .returned (Value.int .u64 x1) ∧
      (Calls Tryd.prog 131 #[t1_b.v, Value.int .i64 t21] w2 fun e2 w3 =>
        ∃ x2 : Int, e2 = .returned (Value.int .u64 x2) ∧
        (br (decide ((IntKind.u64.wrap (x1 + x2)) < x1))
          (semA Tryd.prog (Instr.indexAt 29 t5_out.v (Value.int .i64 t21)) w3 fun ad1 w4 =>
            stC ad1 (Value.int .u64 (IntKind.u64.wrap ((IntKind.u64.wrap (x1 + x2)) + t6_carry))) w4 fun w5 =>
            J0 t0_a t1_b t5_out 1 t20 (IntKind.i64.wrap (t21 + 1)) w5 ∧
            m0 t0_a t1_b t5_out 1 t20 (IntKind.i64.wrap (t21 + 1)) w5 < m0 t0_a t1_b t5_out t6_carry t20 t21 w_)
          (br (decide ((IntKind.u64.wrap ((IntKind.u64.wrap (x1 + x2)) + t6_carry)) < (IntKind.u64.wrap (x1 + x2))))
            (semA Tryd.prog (Instr.indexAt 29 t5_out.v (Value.int .i64 t21)) w3 fun ad2 w6 =>
              stC ad2 (Value.int .u64 (IntKind.u64.wrap ((IntKind.u64.wrap (x1 + x2)) + t6_carry))) w6 fun w7 =>
              J0 t0_a t1_b t5_out 1 t20 (IntKind.i64.wrap (t21 + 1)) w7 ∧
              m0 t0_a t1_b t5_out 1 t20 (IntKind.i64.wrap (t21 + 1)) w7 < m0 t0_a t1_b t5_out t6_carry t20 t21 w_)
            (semA Tryd.prog (Instr.indexAt 29 t5_out.v (Value.int .i64 t21)) w3 fun ad3 w8 =>
              stC ad3 (Value.int .u64 (IntKind.u64.wrap ((IntKind.u64.wrap (x1 + x2)) + t6_carry))) w8 fun w9 =>
              J0 t0_a t1_b t5_out 0 t20 (IntKind.i64.wrap (t21 + 1)) w9 ∧
              m0 t0_a t1_b t5_out 0 t20 (IntKind.i64.wrap (t21 + 1)) w9 < m0 t0_a t1_b t5_out t6_carry t20 t21 w_)))))
    (Calls Tryd.prog 126 #[t5_out.v] w_ fun e3 w10 =>
      ∃ s2 : Slc, e3 = .returned s2.v ∧
      (R (.returned s2.v) w10))) :
    Calls Tryd.prog 111 #[a0_a.v, a1_b.v] w R := by
  refine calls_of_vc (dyadic_plus_cut J0 m0) (by kernel_rfl) Tryd.func111 rfl ?_ ?_
  · refine kcast h ?_; kernel_rfl
  · exact (obl_seq rfl (obl_reg (obl_seq rfl (obl_reg (obl_seq rfl (obl_reg (obl_seq rfl (obl_seq rfl (obl_reg (obl_loop _ rfl (fun a_ w_ hL_ => (by
    obtain ⟨hz_, hd_, hL_⟩ := atSz_out hL_
    obtain ⟨t0_a, h0_, hL_⟩ := atS_out hL_
    obtain ⟨t1_b, h1_, hL_⟩ := atS_out hL_
    obtain ⟨t5_out, h5_, hL_⟩ := atS_out hL_
    obtain ⟨t6_carry, h6_, hL_⟩ := atI_out hL_
    obtain ⟨t20, h20_, hL_⟩ := atI_out hL_
    obtain ⟨t21, h21_, hL_⟩ := atI_out hL_
    obtain ⟨g0, rfl⟩ : ∃ g, a_ = Fr 51 [(0, t0_a.v), (1, t1_b.v), (5, t5_out.v), (6, Value.int .u64 t6_carry), (20, Value.int .i64 t20), (21, Value.int .i64 t21)] g := ⟨_, fr_of hz_ hd_ [(0, t0_a.v), (1, t1_b.v), (5, t5_out.v), (6, Value.int .u64 t6_carry), (20, Value.int .i64 t20), (21, Value.int .i64 t21)] (sel_cons h0_ (sel_cons h1_ (sel_cons h5_ (sel_cons h6_ (sel_cons h20_ (sel_cons h21_ sel_nil))))))⟩
    clear hz_ hd_ h0_ h1_ h5_ h6_ h20_ h21_
    have hJ0_ := hL_
    refine ⟨(fun _ => none), kcast (h0 t0_a t1_b t5_out t6_carry t20 t21 w_ hJ0_) ?_, ?_⟩
    · kernel_rfl
    · exact (obl_seq rfl (obl_reg (obl_seq rfl (obl_cond (obl_skip (obl_exit (obl_seq rfl (obl_blk rfl (obl_seq rfl (obl_reg (obl_seq rfl (obl_reg (obl_seq rfl (obl_reg (obl_seq rfl (obl_reg (obl_seq rfl (obl_reg (obl_seq rfl (obl_seq rfl (obl_reg (obl_cond (obl_reg (obl_skip (obl_reg (obl_reg trivial)))))))))))))))))))))))))))) (obl_seq rfl (obl_reg (obl_ret trivial)))))))))))))

def dyadic_minus_cut (J0 : Slc → Slc → Slc → Int → Int → Int → World → Prop) (m0 : Slc → Slc → Slc → Int → Int → Int → World → Nat) : Nat → Option ((Act → World → Prop) × (Act → World → Nat))
  | 0 => some (fun a_ w_ => atSz a_ 49 (atS a_ 0 fun t0_a => atS a_ 1 fun t1_b => atS a_ 5 fun t5_out => atI .u64 a_ 6 fun t6_borrow => atI .i64 a_ 15 fun t15 => atI .i64 a_ 16 fun t16 => J0 t0_a t1_b t5_out t6_borrow t15 t16 w_), fun a_ w_ => mS a_ 0 fun t0_a => mS a_ 1 fun t1_b => mS a_ 5 fun t5_out => mI a_ 6 fun t6_borrow => mI a_ 15 fun t15 => mI a_ 16 fun t16 => m0 t0_a t1_b t5_out t6_borrow t15 t16 w_)
  | _ => none

set_option maxRecDepth 100000 in
/-- surd/dyadic.minus: function 132. -/
theorem dyadic_minus_vc (a0_a : Slc) (a1_b : Slc) (w : World) (R : Ending → World → Prop)
    (J0 : Slc → Slc → Slc → Int → Int → Int → World → Prop) (m0 : Slc → Slc → Slc → Int → Int → Int → World → Nat)
    (h : semS Tryd.prog (Instr.makeSlice 29 (Value.int .i64 (a0_a.n : Int)) (Value.int .i64 (a0_a.n : Int))) w fun s1 w1 =>
    J0 a0_a a1_b s1 0 (s1.n : Int) 0 w1)
    (h0 : ∀ (t0_a : Slc) (t1_b : Slc) (t5_out : Slc) (t6_borrow : Int) (t15 : Int) (t16 : Int) (w_ : World), J0 t0_a t1_b t5_out t6_borrow t15 t16 w_ → 
    br (decide (t16 < t15))
    (Calls Tryd.prog 131 #[t0_a.v, Value.int .i64 t16] w_ fun e1 w2 =>
      ∃ x1 : Int, e1 = .returned (Value.int .u64 x1) ∧
      (Calls Tryd.prog 131 #[t1_b.v, Value.int .i64 t16] w2 fun e2 w3 =>
        ∃ x2 : Int, e2 = .returned (Value.int .u64 x2) ∧
        (br (decide (x1 < x2))
          (semA Tryd.prog (Instr.indexAt 29 t5_out.v (Value.int .i64 t16)) w3 fun ad1 w4 =>
            stC ad1 (Value.int .u64 (IntKind.u64.wrap ((IntKind.u64.wrap (x1 - x2)) - t6_borrow))) w4 fun w5 =>
            J0 t0_a t1_b t5_out 1 t15 (IntKind.i64.wrap (t16 + 1)) w5 ∧
            m0 t0_a t1_b t5_out 1 t15 (IntKind.i64.wrap (t16 + 1)) w5 < m0 t0_a t1_b t5_out t6_borrow t15 t16 w_)
          (br (x1 == x2)
            (br (t6_borrow == 1)
              (semA Tryd.prog (Instr.indexAt 29 t5_out.v (Value.int .i64 t16)) w3 fun ad2 w6 =>
                stC ad2 (Value.int .u64 (IntKind.u64.wrap ((IntKind.u64.wrap (x1 - x2)) - t6_borrow))) w6 fun w7 =>
                J0 t0_a t1_b t5_out 1 t15 (IntKind.i64.wrap (t16 + 1)) w7 ∧
                m0 t0_a t1_b t5_out 1 t15 (IntKind.i64.wrap (t16 + 1)) w7 < m0 t0_a t1_b t5_out t6_borrow t15 t16 w_)
              (semA Tryd.prog (Instr.indexAt 29 t5_out.v (Value.int .i64 t16)) w3 fun ad3 w8 =>
                stC ad3 (Value.int .u64 (IntKind.u64.wrap ((IntKind.u64.wrap (x1 - x2)) - t6_borrow))) w8 fun w9 =>
                J0 t0_a t1_b t5_out 0 t15 (IntKind.i64.wrap (t16 + 1)) w9 ∧
                m0 t0_a t1_b t5_out 0 t15 (IntKind.i64.wrap (t16 + 1)) w9 < m0 t0_a t1_b t5_out t6_borrow t15 t16 w_))
            (semA Tryd.prog (Instr.indexAt 29 t5_out.v (Value.int .i64 t16)) w3 fun ad4 w10 =>
              stC ad4 (Value.int .u64 (IntKind.u64.wrap ((IntKind.u64.wrap (x1 - x2)) - t6_borrow))) w10 fun w11 =>
              J0 t0_a t1_b t5_out 0 t15 (IntKind.i64.wrap (t16 + 1)) w11 ∧
              m0 t0_a t1_b t5_out 0 t15 (IntKind.i64.wrap (t16 + 1)) w11 < m0 t0_a t1_b t5_out t6_borrow t15 t16 w_)))))
    (Calls Tryd.prog 126 #[t5_out.v] w_ fun e3 w12 =>
      ∃ s2 : Slc, e3 = .returned s2.v ∧
      (R (.returned s2.v) w12))) :
    Calls Tryd.prog 132 #[a0_a.v, a1_b.v] w R := by
  refine calls_of_vc (dyadic_minus_cut J0 m0) (by kernel_rfl) Tryd.func132 rfl ?_ ?_
  · refine kcast h ?_; kernel_rfl
  · exact (obl_seq rfl (obl_reg (obl_seq rfl (obl_reg (obl_seq rfl (obl_reg (obl_seq rfl (obl_seq rfl (obl_reg (obl_loop _ rfl (fun a_ w_ hL_ => (by
    obtain ⟨hz_, hd_, hL_⟩ := atSz_out hL_
    obtain ⟨t0_a, h0_, hL_⟩ := atS_out hL_
    obtain ⟨t1_b, h1_, hL_⟩ := atS_out hL_
    obtain ⟨t5_out, h5_, hL_⟩ := atS_out hL_
    obtain ⟨t6_borrow, h6_, hL_⟩ := atI_out hL_
    obtain ⟨t15, h15_, hL_⟩ := atI_out hL_
    obtain ⟨t16, h16_, hL_⟩ := atI_out hL_
    obtain ⟨g0, rfl⟩ : ∃ g, a_ = Fr 49 [(0, t0_a.v), (1, t1_b.v), (5, t5_out.v), (6, Value.int .u64 t6_borrow), (15, Value.int .i64 t15), (16, Value.int .i64 t16)] g := ⟨_, fr_of hz_ hd_ [(0, t0_a.v), (1, t1_b.v), (5, t5_out.v), (6, Value.int .u64 t6_borrow), (15, Value.int .i64 t15), (16, Value.int .i64 t16)] (sel_cons h0_ (sel_cons h1_ (sel_cons h5_ (sel_cons h6_ (sel_cons h15_ (sel_cons h16_ sel_nil))))))⟩
    clear hz_ hd_ h0_ h1_ h5_ h6_ h15_ h16_
    have hJ0_ := hL_
    refine ⟨(fun _ => none), kcast (h0 t0_a t1_b t5_out t6_borrow t15 t16 w_ hJ0_) ?_, ?_⟩
    · kernel_rfl
    · exact (obl_seq rfl (obl_reg (obl_seq rfl (obl_cond (obl_skip (obl_exit (obl_seq rfl (obl_blk rfl (obl_seq rfl (obl_reg (obl_seq rfl (obl_reg (obl_seq rfl (obl_reg (obl_seq rfl (obl_seq rfl (obl_reg (obl_cond (obl_reg (obl_reg (obl_reg (obl_reg trivial)))))))))))))))))))))))) (obl_seq rfl (obl_reg (obl_ret trivial)))))))))))))

set_option maxRecDepth 100000 in
/-- surd/dyadic.limb: function 131. -/
theorem dyadic_limb_vc (a0_a : Slc) (a1_i : Int) (w : World) (R : Ending → World → Prop)
    
    (h : br (decide (a1_i < (a0_a.n : Int)))
    (semA Tryd.prog (Instr.indexAt 29 a0_a.v (Value.int .i64 a1_i)) w fun ad1 w1 =>
      ldI .u64 ad1 w1 fun x1 =>
      R (.returned (Value.int .u64 x1)) w1)
    (R (.returned (Value.int .u64 0)) w)) :
    Calls Tryd.prog 131 #[a0_a.v, Value.int .i64 a1_i] w R := by
  refine calls_of_vc (fun _ => none) (by kernel_rfl) Tryd.func131 rfl ?_ ?_
  · refine kcast h ?_; kernel_rfl
  · exact (obl_seq rfl (obl_reg (obl_seq rfl (obl_seq rfl (obl_reg (obl_cond (obl_seq rfl (obl_reg (obl_ret (obl_skip (obl_seq rfl (obl_reg (obl_ret trivial)))))))))))))

set_option maxRecDepth 100000 in
/-- surd/dyadic.long: function 114. -/
theorem dyadic_long_vc (a0_x_0 : Bool) (a0_x_1 : Slc) (a0_x_2 : Int) (a1_y_0 : Bool) (a1_y_1 : Slc) (a1_y_2 : Int) (w : World) (R : Ending → World → Prop)
    
    (h : newC w #[Value.bool a0_x_0, a0_x_1.v, Value.int .i64 a0_x_2] 98 fun ad1 w1 =>
    newC w1 #[Value.bool a1_y_0, a1_y_1.v, Value.int .i64 a1_y_2] 98 fun ad2 w2 =>
    newC w2 #[Value.bool false, (⟨none, 0, 0⟩ : Slc).v, Value.int .i64 0] 33 fun ad3 w3 =>
    ldS (ad1.add 1) w3.drew fun s1 =>
    ldI .i64 (ad1.add 2) w3.drew fun x1 =>
    ldI .i64 (ad2.add 2) w3.drew fun x2 =>
    ldS (ad2.add 1) w3.drew fun s2 =>
    Calls Tryd.prog 107 #[s1.v, Value.int .i64 (IntKind.i64.wrap (x1 - x2))] w3.drew fun e1 w4 =>
    ∃ s3 : Slc, e1 = .returned s3.v ∧
    (Ahead w3.drew w4 ∧
      (ldB ad1 w4 fun b1 =>
        ldB ad1 w4 fun b2 =>
        ldB ad2 w4 fun b3 =>
        br (!(b2 == b3))
        (Calls Tryd.prog 113 #[s3.v, s2.v] w4 fun e2 w5 =>
          ∃ x3 : Int, e2 = .returned (Value.int .i64 x3) ∧
          (br (decide (x3 < 0))
            (ldI .i64 (ad2.add 2) w5.drew fun x4 =>
              Calls Tryd.prog 132 #[s2.v, s3.v] w5.drew fun e3 w6 =>
              ∃ s4 : Slc, e3 = .returned s4.v ∧
              (Ahead w5.drew w6 ∧
                (Calls Tryd.prog 64 #[Value.agg #[Value.bool (!b1), s4.v], Value.int .i64 x4] w6 fun e4 w7 =>
                  ∃ b4 : Bool, ∃ s5 : Slc, ∃ x5 : Int, ∃ x6 : Int, e4 = .returned (Value.tuple #[Value.agg #[Value.bool b4, s5.v, Value.int .i64 x5], Value.int .i64 x6]) ∧
                  (Ahead w6 w7 ∧
                    (stC ad3 (Value.bool b4) w7 fun w8 =>
                      stC (ad3.add 1) s5.v w8 fun w9 =>
                      stC (ad3.add 2) (Value.int .i64 x5) w9 fun w10 =>
                      ldB ad3 w10 fun b5 =>
                      ldS (ad3.add 1) w10 fun s6 =>
                      ldI .i64 (ad3.add 2) w10 fun x7 =>
                      R (.returned (Value.tuple #[Value.agg #[Value.bool b5, s6.v, Value.int .i64 x7], Value.int .i64 x6])) w10)))))
            (ldI .i64 (ad2.add 2) w5.drew fun x8 =>
              Calls Tryd.prog 132 #[s3.v, s2.v] w5.drew fun e5 w11 =>
              ∃ s7 : Slc, e5 = .returned s7.v ∧
              (Ahead w5.drew w11 ∧
                (Calls Tryd.prog 64 #[Value.agg #[Value.bool b1, s7.v], Value.int .i64 x8] w11 fun e6 w12 =>
                  ∃ b6 : Bool, ∃ s8 : Slc, ∃ x9 : Int, ∃ x10 : Int, e6 = .returned (Value.tuple #[Value.agg #[Value.bool b6, s8.v, Value.int .i64 x9], Value.int .i64 x10]) ∧
                  (Ahead w11 w12 ∧
                    (stC ad3 (Value.bool b6) w12 fun w13 =>
                      stC (ad3.add 1) s8.v w13 fun w14 =>
                      stC (ad3.add 2) (Value.int .i64 x9) w14 fun w15 =>
                      ldB ad3 w15 fun b7 =>
                      ldS (ad3.add 1) w15 fun s9 =>
                      ldI .i64 (ad3.add 2) w15 fun x11 =>
                      R (.returned (Value.tuple #[Value.agg #[Value.bool b7, s9.v, Value.int .i64 x11], Value.int .i64 x10])) w15)))))))
        (ldI .i64 (ad2.add 2) w4.drew fun x12 =>
          Calls Tryd.prog 111 #[s3.v, s2.v] w4.drew fun e7 w16 =>
          ∃ s10 : Slc, e7 = .returned s10.v ∧
          (Ahead w4.drew w16 ∧
            (Calls Tryd.prog 64 #[Value.agg #[Value.bool b1, s10.v], Value.int .i64 x12] w16 fun e8 w17 =>
              ∃ b8 : Bool, ∃ s11 : Slc, ∃ x13 : Int, ∃ x14 : Int, e8 = .returned (Value.tuple #[Value.agg #[Value.bool b8, s11.v, Value.int .i64 x13], Value.int .i64 x14]) ∧
              (Ahead w16 w17 ∧
                (stC ad3 (Value.bool b8) w17 fun w18 =>
                  stC (ad3.add 1) s11.v w18 fun w19 =>
                  stC (ad3.add 2) (Value.int .i64 x13) w19 fun w20 =>
                  ldB ad3 w20 fun b9 =>
                  ldS (ad3.add 1) w20 fun s12 =>
                  ldI .i64 (ad3.add 2) w20 fun x15 =>
                  R (.returned (Value.tuple #[Value.agg #[Value.bool b9, s12.v, Value.int .i64 x15], Value.int .i64 x14])) w20)))))))) :
    Calls Tryd.prog 114 #[Value.agg #[Value.bool a0_x_0, a0_x_1.v, Value.int .i64 a0_x_2], Value.agg #[Value.bool a1_y_0, a1_y_1.v, Value.int .i64 a1_y_2]] w R := by
  refine calls_of_vc (fun _ => none) (by kernel_rfl) Tryd.func114 rfl ?_ ?_
  · refine kcast h ?_; kernel_rfl
  · exact (obl_seq rfl (obl_reg (obl_seq rfl (obl_held (by kernel_rfl) (by kernel_rfl) (by kernel_rfl) (obl_seq rfl (obl_reg (obl_seq rfl (obl_seq rfl (obl_reg (obl_cond (obl_seq rfl (obl_seq rfl (obl_reg (obl_cond (obl_reg (obl_skip (obl_seq rfl (obl_held (by kernel_rfl) (by kernel_rfl) (by kernel_rfl) (obl_ret (obl_skip (obl_seq rfl (obl_held (by kernel_rfl) (by kernel_rfl) (by kernel_rfl) (obl_ret trivial)))))))))))))))))))))))

end Go.Proofs.YthhbjhdnaopcnaaDoor
