/- Verification conditions of some of the program's functions, printed by a program of this session. No condition. -/
import Derived.Test.YthhbjhdnaopcnaaDoorProg
import Derived.Test.YthhbjhdnaopcnaaDoorEng
namespace Go.Proofs.YthhbjhdnaopcnaaDoor
open Go Go.RowKit Eng
set_option linter.unusedVariables false

def bits_Div64_cut (J0 : Int → Int → Int → Int → Int → Int → Int → Int → Int → World → Prop) (m0 : Int → Int → Int → Int → Int → Int → Int → Int → Int → World → Nat) (J2 : Int → Int → Int → Int → Int → Int → Int → Int → Int → World → Prop) (m2 : Int → Int → Int → Int → Int → Int → Int → Int → Int → World → Nat) : Nat → Option ((Act → World → Prop) × (Act → World → Nat))
  | 0 => some (fun a_ w_ => atSz a_ 135 (atI .u64 a_ 2 fun t2 => atI .u64 a_ 8 fun t8 => atI .u64 a_ 9 fun t9 => atI .u64 a_ 10 fun t10 => atI .u64 a_ 11 fun t11 => atI .u64 a_ 13 fun t13 => atI .u64 a_ 14 fun t14 => atI .u64 a_ 15 fun t15 => atI .u64 a_ 16 fun t16 => J0 t2 t8 t9 t10 t11 t13 t14 t15 t16 w_), fun a_ w_ => mI a_ 2 fun t2 => mI a_ 8 fun t8 => mI a_ 9 fun t9 => mI a_ 10 fun t10 => mI a_ 11 fun t11 => mI a_ 13 fun t13 => mI a_ 14 fun t14 => mI a_ 15 fun t15 => mI a_ 16 fun t16 => m0 t2 t8 t9 t10 t11 t13 t14 t15 t16 w_)
  | 2 => some (fun a_ w_ => atSz a_ 135 (atI .u64 a_ 2 fun t2 => atI .u64 a_ 8 fun t8 => atI .u64 a_ 9 fun t9 => atI .u64 a_ 10 fun t10 => atI .u64 a_ 14 fun t14 => atI .u64 a_ 15 fun t15 => atI .u64 a_ 16 fun t16 => atI .u64 a_ 17 fun t17 => atI .u64 a_ 18 fun t18 => J2 t2 t8 t9 t10 t14 t15 t16 t17 t18 w_), fun a_ w_ => mI a_ 2 fun t2 => mI a_ 8 fun t8 => mI a_ 9 fun t9 => mI a_ 10 fun t10 => mI a_ 14 fun t14 => mI a_ 15 fun t15 => mI a_ 16 fun t16 => mI a_ 17 fun t17 => mI a_ 18 fun t18 => m2 t2 t8 t9 t10 t14 t15 t16 t17 t18 w_)
  | _ => none

set_option maxRecDepth 100000 in
/-- math/bits.Div64: function 142. -/
theorem bits_Div64_vc (a0 : Int) (a1 : Int) (a2 : Int) (w : World) (R : Ending → World → Prop)
    (J0 : Int → Int → Int → Int → Int → Int → Int → Int → Int → World → Prop) (m0 : Int → Int → Int → Int → Int → Int → Int → Int → Int → World → Nat) (J2 : Int → Int → Int → Int → Int → Int → Int → Int → Int → World → Prop) (m2 : Int → Int → Int → Int → Int → Int → Int → Int → Int → World → Nat)
    (h : br (a2 == 0)
    (False)
    (br (decide (a2 ≤ a0))
      (False)
      (br (a0 == 0)
        (fixI Tryd.prog .u64 (binOp .quo 94 (Value.int .u64 a1) (Value.int .u64 a2)) w fun x1 =>
          fixI Tryd.prog .u64 (binOp .rem 94 (Value.int .u64 a1) (Value.int .u64 a2)) w fun x2 =>
          ∀ w1, Ahead w w1 →
          (R (.returned (Value.tuple #[Value.int .u64 x1, Value.int .u64 x2])) w1))
        (Calls Tryd.prog 143 #[Value.int .u64 a2] w fun e1 w2 =>
          ∃ x3 : Int, e1 = .returned (Value.int .i64 x3) ∧
          (semI Tryd.prog .u64 (binOp .shl 94 (Value.int .u64 a2) (Value.int .u64 (IntKind.u64.wrap x3))) w2 fun x4 w3 =>
            semI Tryd.prog .u64 (binOp .shl 94 (Value.int .u64 a0) (Value.int .u64 (IntKind.u64.wrap x3))) w3 fun x5 w4 =>
            semI Tryd.prog .u64 (binOp .shr 94 (Value.int .u64 a1) (Value.int .u64 (IntKind.u64.wrap (64 - (IntKind.u64.wrap x3))))) w4 fun x6 w5 =>
            semI Tryd.prog .u64 (binOp .shl 94 (Value.int .u64 a1) (Value.int .u64 (IntKind.u64.wrap x3))) w5 fun x7 w6 =>
            semI Tryd.prog .u64 (binOp .quo 94 (Value.int .u64 (orI .u64 x5 x6)) (Value.int .u64 (Int.fdiv x4 (2 ^ (32 : Nat))))) w6 fun x8 w7 =>
            J0 x4 (IntKind.u64.wrap x3) (Int.fdiv x4 (2 ^ (32 : Nat))) (andI .u64 x4 4294967295) (orI .u64 x5 x6) (Int.fdiv x7 (2 ^ (32 : Nat))) (andI .u64 x7 4294967295) x8 (IntKind.u64.wrap ((orI .u64 x5 x6) - (IntKind.u64.wrap (x8 * (Int.fdiv x4 (2 ^ (32 : Nat))))))) w7)))))
    (h0 : ∀ (t2 : Int) (t8 : Int) (t9 : Int) (t10 : Int) (t11 : Int) (t13 : Int) (t14 : Int) (t15 : Int) (t16 : Int) (w_ : World), J0 t2 t8 t9 t10 t11 t13 t14 t15 t16 w_ → 
    br (decide (t15 ≥ 4294967296))
    (br (decide ((IntKind.u64.wrap (t16 + t9)) ≥ 4294967296))
      (semI Tryd.prog .u64 (binOp .quo 94 (Value.int .u64 (IntKind.u64.wrap ((IntKind.u64.wrap ((IntKind.u64.wrap (t11 * 4294967296)) + t13)) - (IntKind.u64.wrap ((IntKind.u64.wrap (t15 - 1)) * t2))))) (Value.int .u64 t9)) w_ fun x9 w8 =>
        J2 t2 t8 t9 t10 t14 (IntKind.u64.wrap (t15 - 1)) (IntKind.u64.wrap ((IntKind.u64.wrap ((IntKind.u64.wrap ((IntKind.u64.wrap (t11 * 4294967296)) + t13)) - (IntKind.u64.wrap ((IntKind.u64.wrap (t15 - 1)) * t2)))) - (IntKind.u64.wrap (x9 * t9)))) (IntKind.u64.wrap ((IntKind.u64.wrap ((IntKind.u64.wrap (t11 * 4294967296)) + t13)) - (IntKind.u64.wrap ((IntKind.u64.wrap (t15 - 1)) * t2)))) x9 w8)
      (J0 t2 t8 t9 t10 t11 t13 t14 (IntKind.u64.wrap (t15 - 1)) (IntKind.u64.wrap (t16 + t9)) w_ ∧
        m0 t2 t8 t9 t10 t11 t13 t14 (IntKind.u64.wrap (t15 - 1)) (IntKind.u64.wrap (t16 + t9)) w_ < m0 t2 t8 t9 t10 t11 t13 t14 t15 t16 w_))
    (br (decide ((IntKind.u64.wrap (t15 * t10)) > (IntKind.u64.wrap ((IntKind.u64.wrap (4294967296 * t16)) + t13))))
      (br (decide ((IntKind.u64.wrap (t16 + t9)) ≥ 4294967296))
        (semI Tryd.prog .u64 (binOp .quo 94 (Value.int .u64 (IntKind.u64.wrap ((IntKind.u64.wrap ((IntKind.u64.wrap (t11 * 4294967296)) + t13)) - (IntKind.u64.wrap ((IntKind.u64.wrap (t15 - 1)) * t2))))) (Value.int .u64 t9)) w_ fun x13 w12 =>
          J2 t2 t8 t9 t10 t14 (IntKind.u64.wrap (t15 - 1)) (IntKind.u64.wrap ((IntKind.u64.wrap ((IntKind.u64.wrap ((IntKind.u64.wrap (t11 * 4294967296)) + t13)) - (IntKind.u64.wrap ((IntKind.u64.wrap (t15 - 1)) * t2)))) - (IntKind.u64.wrap (x13 * t9)))) (IntKind.u64.wrap ((IntKind.u64.wrap ((IntKind.u64.wrap (t11 * 4294967296)) + t13)) - (IntKind.u64.wrap ((IntKind.u64.wrap (t15 - 1)) * t2)))) x13 w12)
        (J0 t2 t8 t9 t10 t11 t13 t14 (IntKind.u64.wrap (t15 - 1)) (IntKind.u64.wrap (t16 + t9)) w_ ∧
          m0 t2 t8 t9 t10 t11 t13 t14 (IntKind.u64.wrap (t15 - 1)) (IntKind.u64.wrap (t16 + t9)) w_ < m0 t2 t8 t9 t10 t11 t13 t14 t15 t16 w_))
      (semI Tryd.prog .u64 (binOp .quo 94 (Value.int .u64 (IntKind.u64.wrap ((IntKind.u64.wrap ((IntKind.u64.wrap (t11 * 4294967296)) + t13)) - (IntKind.u64.wrap (t15 * t2))))) (Value.int .u64 t9)) w_ fun x14 w13 =>
        J2 t2 t8 t9 t10 t14 t15 (IntKind.u64.wrap ((IntKind.u64.wrap ((IntKind.u64.wrap ((IntKind.u64.wrap (t11 * 4294967296)) + t13)) - (IntKind.u64.wrap (t15 * t2)))) - (IntKind.u64.wrap (x14 * t9)))) (IntKind.u64.wrap ((IntKind.u64.wrap ((IntKind.u64.wrap (t11 * 4294967296)) + t13)) - (IntKind.u64.wrap (t15 * t2)))) x14 w13)))
    (h2 : ∀ (t2 : Int) (t8 : Int) (t9 : Int) (t10 : Int) (t14 : Int) (t15 : Int) (t16 : Int) (t17 : Int) (t18 : Int) (w_ : World), J2 t2 t8 t9 t10 t14 t15 t16 t17 t18 w_ → 
    br (decide (t18 ≥ 4294967296))
    (br (decide ((IntKind.u64.wrap (t16 + t9)) ≥ 4294967296))
      (semI Tryd.prog .u64 (binOp .shr 94 (Value.int .u64 (IntKind.u64.wrap ((IntKind.u64.wrap ((IntKind.u64.wrap (t17 * 4294967296)) + t14)) - (IntKind.u64.wrap ((IntKind.u64.wrap (t18 - 1)) * t2))))) (Value.int .u64 t8)) w_ fun x10 w9 =>
        R (.returned (Value.tuple #[Value.int .u64 (IntKind.u64.wrap ((IntKind.u64.wrap (t15 * 4294967296)) + (IntKind.u64.wrap (t18 - 1)))), Value.int .u64 x10])) w9)
      (J2 t2 t8 t9 t10 t14 t15 (IntKind.u64.wrap (t16 + t9)) t17 (IntKind.u64.wrap (t18 - 1)) w_ ∧
        m2 t2 t8 t9 t10 t14 t15 (IntKind.u64.wrap (t16 + t9)) t17 (IntKind.u64.wrap (t18 - 1)) w_ < m2 t2 t8 t9 t10 t14 t15 t16 t17 t18 w_))
    (br (decide ((IntKind.u64.wrap (t18 * t10)) > (IntKind.u64.wrap ((IntKind.u64.wrap (4294967296 * t16)) + t14))))
      (br (decide ((IntKind.u64.wrap (t16 + t9)) ≥ 4294967296))
        (semI Tryd.prog .u64 (binOp .shr 94 (Value.int .u64 (IntKind.u64.wrap ((IntKind.u64.wrap ((IntKind.u64.wrap (t17 * 4294967296)) + t14)) - (IntKind.u64.wrap ((IntKind.u64.wrap (t18 - 1)) * t2))))) (Value.int .u64 t8)) w_ fun x11 w10 =>
          R (.returned (Value.tuple #[Value.int .u64 (IntKind.u64.wrap ((IntKind.u64.wrap (t15 * 4294967296)) + (IntKind.u64.wrap (t18 - 1)))), Value.int .u64 x11])) w10)
        (J2 t2 t8 t9 t10 t14 t15 (IntKind.u64.wrap (t16 + t9)) t17 (IntKind.u64.wrap (t18 - 1)) w_ ∧
          m2 t2 t8 t9 t10 t14 t15 (IntKind.u64.wrap (t16 + t9)) t17 (IntKind.u64.wrap (t18 - 1)) w_ < m2 t2 t8 t9 t10 t14 t15 t16 t17 t18 w_))
      (semI Tryd.prog .u64 (binOp .shr 94 (Value.int .u64 (IntKind.u64.wrap ((IntKind.u64.wrap ((IntKind.u64.wrap (t17 * 4294967296)) + t14)) - (IntKind.u64.wrap (t18 * t2))))) (Value.int .u64 t8)) w_ fun x12 w11 =>
        R (.returned (Value.tuple #[Value.int .u64 (IntKind.u64.wrap ((IntKind.u64.wrap (t15 * 4294967296)) + t18)), Value.int .u64 x12])) w11))) :
    Calls Tryd.prog 142 #[Value.int .u64 a0, Value.int .u64 a1, Value.int .u64 a2] w R := by
  refine calls_of_vc (bits_Div64_cut J0 m0 J2 m2) (by kernel_rfl) Tryd.func142 rfl ?_ ?_
  · refine kcast h ?_; kernel_rfl
  · exact (obl_seq rfl (obl_reg (obl_seq rfl (obl_seq rfl (obl_reg (obl_cond (obl_reg (obl_skip (obl_seq rfl (obl_seq rfl (obl_reg (obl_cond (obl_reg (obl_skip (obl_seq rfl (obl_seq rfl (obl_reg (obl_cond (obl_seq rfl (obl_quiet (by kernel_rfl) (by kernel_rfl) (by kernel_rfl) (by kernel_rfl) (obl_ret (obl_skip (obl_seq rfl (obl_reg (obl_seq rfl (obl_reg (obl_seq rfl (obl_reg (obl_seq rfl (obl_reg (obl_seq rfl (obl_reg (obl_seq rfl (obl_reg (obl_seq rfl (obl_reg (obl_seq rfl (obl_reg (obl_seq rfl (obl_reg (obl_seq rfl (obl_reg (obl_seq rfl (obl_loop _ rfl (fun a_ w_ hL_ => (by
    obtain ⟨hz_, hd_, hL_⟩ := atSz_out hL_
    obtain ⟨t2, h2_, hL_⟩ := atI_out hL_
    obtain ⟨t8, h8_, hL_⟩ := atI_out hL_
    obtain ⟨t9, h9_, hL_⟩ := atI_out hL_
    obtain ⟨t10, h10_, hL_⟩ := atI_out hL_
    obtain ⟨t11, h11_, hL_⟩ := atI_out hL_
    obtain ⟨t13, h13_, hL_⟩ := atI_out hL_
    obtain ⟨t14, h14_, hL_⟩ := atI_out hL_
    obtain ⟨t15, h15_, hL_⟩ := atI_out hL_
    obtain ⟨t16, h16_, hL_⟩ := atI_out hL_
    obtain ⟨g0, rfl⟩ : ∃ g, a_ = Fr 135 [(2, Value.int .u64 t2), (8, Value.int .u64 t8), (9, Value.int .u64 t9), (10, Value.int .u64 t10), (11, Value.int .u64 t11), (13, Value.int .u64 t13), (14, Value.int .u64 t14), (15, Value.int .u64 t15), (16, Value.int .u64 t16)] g := ⟨_, fr_of hz_ hd_ [(2, Value.int .u64 t2), (8, Value.int .u64 t8), (9, Value.int .u64 t9), (10, Value.int .u64 t10), (11, Value.int .u64 t11), (13, Value.int .u64 t13), (14, Value.int .u64 t14), (15, Value.int .u64 t15), (16, Value.int .u64 t16)] (sel_cons h2_ (sel_cons h8_ (sel_cons h9_ (sel_cons h10_ (sel_cons h11_ (sel_cons h13_ (sel_cons h14_ (sel_cons h15_ (sel_cons h16_ sel_nil)))))))))⟩
    clear hz_ hd_ h2_ h8_ h9_ h10_ h11_ h13_ h14_ h15_ h16_
    have hJ0_ := hL_
    refine ⟨(fun _ => none), kcast (h0 t2 t8 t9 t10 t11 t13 t14 t15 t16 w_ hJ0_) ?_, ?_⟩
    · kernel_rfl
    · exact (obl_seq rfl (obl_seq rfl (obl_reg (obl_cond (obl_skip (obl_exit (obl_blk rfl (obl_seq rfl (obl_reg (obl_seq rfl (obl_reg (obl_seq rfl (obl_reg (obl_cond (obl_exit (obl_skip trivial)))))))))))))))))) (obl_seq rfl (obl_reg (obl_seq rfl (obl_reg (obl_seq rfl (obl_reg (obl_seq rfl (obl_loop _ rfl (fun a_ w_ hL_ => (by
    obtain ⟨hz_, hd_, hL_⟩ := atSz_out hL_
    obtain ⟨t2, h2_, hL_⟩ := atI_out hL_
    obtain ⟨t8, h8_, hL_⟩ := atI_out hL_
    obtain ⟨t9, h9_, hL_⟩ := atI_out hL_
    obtain ⟨t10, h10_, hL_⟩ := atI_out hL_
    obtain ⟨t14, h14_, hL_⟩ := atI_out hL_
    obtain ⟨t15, h15_, hL_⟩ := atI_out hL_
    obtain ⟨t16, h16_, hL_⟩ := atI_out hL_
    obtain ⟨t17, h17_, hL_⟩ := atI_out hL_
    obtain ⟨t18, h18_, hL_⟩ := atI_out hL_
    obtain ⟨g2, rfl⟩ : ∃ g, a_ = Fr 135 [(2, Value.int .u64 t2), (8, Value.int .u64 t8), (9, Value.int .u64 t9), (10, Value.int .u64 t10), (14, Value.int .u64 t14), (15, Value.int .u64 t15), (16, Value.int .u64 t16), (17, Value.int .u64 t17), (18, Value.int .u64 t18)] g := ⟨_, fr_of hz_ hd_ [(2, Value.int .u64 t2), (8, Value.int .u64 t8), (9, Value.int .u64 t9), (10, Value.int .u64 t10), (14, Value.int .u64 t14), (15, Value.int .u64 t15), (16, Value.int .u64 t16), (17, Value.int .u64 t17), (18, Value.int .u64 t18)] (sel_cons h2_ (sel_cons h8_ (sel_cons h9_ (sel_cons h10_ (sel_cons h14_ (sel_cons h15_ (sel_cons h16_ (sel_cons h17_ (sel_cons h18_ sel_nil)))))))))⟩
    clear hz_ hd_ h2_ h8_ h9_ h10_ h14_ h15_ h16_ h17_ h18_
    have hJ2_ := hL_
    refine ⟨(fun _ => none), kcast (h2 t2 t8 t9 t10 t14 t15 t16 t17 t18 w_ hJ2_) ?_, ?_⟩
    · kernel_rfl
    · exact (obl_seq rfl (obl_seq rfl (obl_reg (obl_cond (obl_skip (obl_exit (obl_blk rfl (obl_seq rfl (obl_reg (obl_seq rfl (obl_reg (obl_seq rfl (obl_reg (obl_cond (obl_exit (obl_skip trivial)))))))))))))))))) (obl_seq rfl (obl_reg (obl_ret trivial)))))))))))))))))))))))))))))))))))))))))))))))))))))))

set_option maxRecDepth 100000 in
/-- math/bits.LeadingZeros64: function 143. -/
theorem bits_LeadingZeros64_vc (a0_x : Int) (w : World) (R : Ending → World → Prop)
    
    (h : Calls Tryd.prog 128 #[Value.int .u64 a0_x] w fun e1 w1 =>
    ∃ x1 : Int, e1 = .returned (Value.int .i64 x1) ∧
    (R (.returned (Value.int .i64 (IntKind.i64.wrap (64 - x1)))) w1)) :
    Calls Tryd.prog 143 #[Value.int .u64 a0_x] w R := by
  refine calls_of_vc (fun _ => none) (by kernel_rfl) Tryd.func143 rfl ?_ ?_
  · refine kcast h ?_; kernel_rfl
  · exact (obl_seq rfl (obl_reg (obl_seq rfl (obl_reg (obl_ret trivial)))))

def surdref01_Div_cut (J0 : Slc → Slc → Slc → Slc → Int → World → Prop) (m0 : Slc → Slc → Slc → Slc → Int → World → Nat) (J2 : Slc → Slc → Slc → Slc → Int → World → Slc → Slc → Slc → Slc → Int → Int → Int → World → Prop) (m2 : Slc → Slc → Slc → Slc → Int → World → Slc → Slc → Slc → Slc → Int → Int → Int → World → Nat) : Nat → Option ((Act → World → Prop) × (Act → World → Nat))
  | 0 => some (fun a_ w_ => atSz a_ 60 (atS a_ 0 fun t0_a => atS a_ 1 fun t1_b => atS a_ 6 fun t6_rest => atS a_ 7 fun t7_out => atI .i64 a_ 8 fun t8_i => J0 t0_a t1_b t6_rest t7_out t8_i w_), fun a_ w_ => mS a_ 0 fun t0_a => mS a_ 1 fun t1_b => mS a_ 6 fun t6_rest => mS a_ 7 fun t7_out => mI a_ 8 fun t8_i => m0 t0_a t1_b t6_rest t7_out t8_i w_)
  | _ => none

def surdref01_Div_cut_0 (J0 : Slc → Slc → Slc → Slc → Int → World → Prop) (m0 : Slc → Slc → Slc → Slc → Int → World → Nat) (J2 : Slc → Slc → Slc → Slc → Int → World → Slc → Slc → Slc → Slc → Int → Int → Int → World → Prop) (m2 : Slc → Slc → Slc → Slc → Int → World → Slc → Slc → Slc → Slc → Int → Int → Int → World → Nat) (o_t0_a : Slc) (o_t1_b : Slc) (o_t6_rest : Slc) (o_t7_out : Slc) (o_t8_i : Int) (o_w_ : World) : Nat → Option ((Act → World → Prop) × (Act → World → Nat))
  | 2 => some (fun a_ w_ => atSz a_ 60 (atS a_ 0 fun t0_a => atS a_ 1 fun t1_b => atS a_ 6 fun t6_rest => atS a_ 7 fun t7_out => atI .i64 a_ 8 fun t8_i => atI .u64 a_ 9 fun t9_q => atI .i64 a_ 10 fun t10_s => J2 o_t0_a o_t1_b o_t6_rest o_t7_out o_t8_i o_w_ t0_a t1_b t6_rest t7_out t8_i t9_q t10_s w_), fun a_ w_ => mS a_ 0 fun t0_a => mS a_ 1 fun t1_b => mS a_ 6 fun t6_rest => mS a_ 7 fun t7_out => mI a_ 8 fun t8_i => mI a_ 9 fun t9_q => mI a_ 10 fun t10_s => m2 o_t0_a o_t1_b o_t6_rest o_t7_out o_t8_i o_w_ t0_a t1_b t6_rest t7_out t8_i t9_q t10_s w_)
  | _ => none

set_option maxRecDepth 100000 in
/-- surd/surdref01.Div: function 103. -/
theorem surdref01_Div_vc (a0_a : Slc) (a1_b : Slc) (w : World) (R : Ending → World → Prop)
    (J0 : Slc → Slc → Slc → Slc → Int → World → Prop) (m0 : Slc → Slc → Slc → Slc → Int → World → Nat) (J2 : Slc → Slc → Slc → Slc → Int → World → Slc → Slc → Slc → Slc → Int → Int → Int → World → Prop) (m2 : Slc → Slc → Slc → Slc → Int → World → Slc → Slc → Slc → Slc → Int → Int → Int → World → Nat)
    (h : semS Tryd.prog (Instr.makeSlice 42 (Value.int .i64 (a0_a.n : Int)) (Value.int .i64 (a0_a.n : Int))) w fun s1 w1 =>
    J0 a0_a a1_b (⟨none, 0, 0⟩ : Slc) s1 (IntKind.i64.wrap ((a0_a.n : Int) - 1)) w1)
    (h0 : ∀ (t0_a : Slc) (t1_b : Slc) (t6_rest : Slc) (t7_out : Slc) (t8_i : Int) (w_ : World), J0 t0_a t1_b t6_rest t7_out t8_i w_ → 
    br (decide (t8_i ≥ 0))
    (fixA Tryd.prog (Instr.indexAt 42 t0_a.v (Value.int .i64 t8_i)) w_.drew fun ad1 =>
      ldI .u64 ad1 w_.drew fun x1 =>
      (Calls Tryd.prog 54 #[t6_rest.v, Value.int .i64 32] w_.drew fun e1 w2 =>
        ∃ s2 : Slc, e1 = .returned s2.v ∧
        (Ahead w_.drew w2 ∧
          (newC w2 #[Value.int .u64 x1] 94 fun ad2 w3 =>
            Ahead w2 w3 ∧
            (Calls Tryd.prog 94 #[(⟨some ad2, 1, 1⟩ : Slc).v] w3 fun e2 w4 =>
              ∃ s3 : Slc, e2 = .returned s3.v ∧
              (Ahead w3 w4 ∧
                (Calls Tryd.prog 116 #[s2.v, s3.v] w4 fun e3 w5 =>
                  ∃ s4 : Slc, e3 = .returned s4.v ∧
                  (Ahead w4 w5 ∧
                    (Calls Tryd.prog 106 #[s4.v, t1_b.v] w5 fun e4 w6 =>
                      ∃ x2 : Int, e4 = .returned (Value.int .i64 x2) ∧
                      (br (decide (x2 ≥ 0))
                        (J2 t0_a t1_b t6_rest t7_out t8_i w_ t0_a t1_b s4 t7_out t8_i 0 31 w6)
                        (semA Tryd.prog (Instr.indexAt 42 t7_out.v (Value.int .i64 t8_i)) w6 fun ad4 w13 =>
                          stC ad4 (Value.int .u64 0) w13 fun w14 =>
                          J0 t0_a t1_b s4 t7_out (IntKind.i64.wrap (t8_i - 1)) w14 ∧
                          m0 t0_a t1_b s4 t7_out (IntKind.i64.wrap (t8_i - 1)) w14 < m0 t0_a t1_b t6_rest t7_out t8_i w_)))))))))) ∧
      (newC w_.drew #[Value.int .u64 x1] 94 fun ad5 w15 =>
        Ahead w_.drew w15 ∧
        (Calls Tryd.prog 54 #[t6_rest.v, Value.int .i64 32] w15 fun e8 w16 =>
          ∃ s7 : Slc, e8 = .returned s7.v ∧
          (Ahead w15 w16 ∧
            (Calls Tryd.prog 94 #[(⟨some ad5, 1, 1⟩ : Slc).v] w16 fun e9 w17 =>
              ∃ s8 : Slc, e9 = .returned s8.v ∧
              (Ahead w16 w17 ∧
                (Calls Tryd.prog 116 #[s7.v, s8.v] w17 fun e10 w18 =>
                  ∃ s9 : Slc, e10 = .returned s9.v ∧
                  (Ahead w17 w18 ∧
                    (Calls Tryd.prog 106 #[s9.v, t1_b.v] w18 fun e11 w19 =>
                      ∃ x5 : Int, e11 = .returned (Value.int .i64 x5) ∧
                      (br (decide (x5 ≥ 0))
                        (J2 t0_a t1_b t6_rest t7_out t8_i w_ t0_a t1_b s9 t7_out t8_i 0 31 w19)
                        (semA Tryd.prog (Instr.indexAt 42 t7_out.v (Value.int .i64 t8_i)) w19 fun ad6 w20 =>
                          stC ad6 (Value.int .u64 0) w20 fun w21 =>
                          J0 t0_a t1_b s9 t7_out (IntKind.i64.wrap (t8_i - 1)) w21 ∧
                          m0 t0_a t1_b s9 t7_out (IntKind.i64.wrap (t8_i - 1)) w21 < m0 t0_a t1_b t6_rest t7_out t8_i w_)))))))))))
    (Calls Tryd.prog 94 #[t7_out.v] w_ fun e12 w22 =>
      ∃ s10 : Slc, e12 = .returned s10.v ∧
      (R (.returned (Value.tuple #[s10.v, t6_rest.v])) w22)))
    (h2 : ∀ (t0_a : Slc) (t1_b : Slc) (t6_rest : Slc) (t7_out : Slc) (t8_i : Int) (w_ : World), J0 t0_a t1_b t6_rest t7_out t8_i w_ → ∀ (t0_a' : Slc) (t1_b' : Slc) (t6_rest' : Slc) (t7_out' : Slc) (t8_i' : Int) (t9_q' : Int) (t10_s' : Int) (w__ : World), J2 t0_a t1_b t6_rest t7_out t8_i w_ t0_a' t1_b' t6_rest' t7_out' t8_i' t9_q' t10_s' w__ → 
    br (decide (t10_s' ≥ 0))
    (Calls Tryd.prog 54 #[t1_b'.v, Value.int .i64 t10_s'] w__ fun e5 w7 =>
      ∃ s5 : Slc, e5 = .returned s5.v ∧
      (Calls Tryd.prog 106 #[t6_rest'.v, s5.v] w7 fun e6 w8 =>
        ∃ x3 : Int, e6 = .returned (Value.int .i64 x3) ∧
        (br (decide (x3 ≥ 0))
          (Calls Tryd.prog 117 #[t6_rest'.v, s5.v] w8 fun e7 w9 =>
            ∃ s6 : Slc, e7 = .returned s6.v ∧
            (semI Tryd.prog .u64 (binOp .shl 94 (Value.int .u64 1) (Value.int .i64 t10_s')) w9 fun x4 w10 =>
              J2 t0_a t1_b t6_rest t7_out t8_i w_ t0_a' t1_b' s6 t7_out' t8_i' (IntKind.u64.wrap (t9_q' + x4)) (IntKind.i64.wrap (t10_s' - 1)) w10 ∧
              m2 t0_a t1_b t6_rest t7_out t8_i w_ t0_a' t1_b' s6 t7_out' t8_i' (IntKind.u64.wrap (t9_q' + x4)) (IntKind.i64.wrap (t10_s' - 1)) w10 < m2 t0_a t1_b t6_rest t7_out t8_i w_ t0_a' t1_b' t6_rest' t7_out' t8_i' t9_q' t10_s' w__))
          (J2 t0_a t1_b t6_rest t7_out t8_i w_ t0_a' t1_b' t6_rest' t7_out' t8_i' t9_q' (IntKind.i64.wrap (t10_s' - 1)) w8 ∧
            m2 t0_a t1_b t6_rest t7_out t8_i w_ t0_a' t1_b' t6_rest' t7_out' t8_i' t9_q' (IntKind.i64.wrap (t10_s' - 1)) w8 < m2 t0_a t1_b t6_rest t7_out t8_i w_ t0_a' t1_b' t6_rest' t7_out' t8_i' t9_q' t10_s' w__))))
    (semA Tryd.prog (Instr.indexAt 42 t7_out'.v (Value.int .i64 t8_i')) w__ fun ad3 w11 =>
      stC ad3 (Value.int .u64 t9_q') w11 fun w12 =>
      J0 t0_a' t1_b' t6_rest' t7_out' (IntKind.i64.wrap (t8_i' - 1)) w12 ∧
      m0 t0_a' t1_b' t6_rest' t7_out' (IntKind.i64.wrap (t8_i' - 1)) w12 < m0 t0_a t1_b t6_rest t7_out t8_i w_)) :
    Calls Tryd.prog 103 #[a0_a.v, a1_b.v] w R := by
  refine calls_of_vc (surdref01_Div_cut J0 m0 J2 m2) (by kernel_rfl) Tryd.func103 rfl ?_ ?_
  · refine kcast h ?_; kernel_rfl
  · exact (obl_seq rfl (obl_reg (obl_seq rfl (obl_reg (obl_seq rfl (obl_reg (obl_seq rfl (obl_seq rfl (obl_reg (obl_loop _ rfl (fun a_ w_ hL_ => (by
    obtain ⟨hz_, hd_, hL_⟩ := atSz_out hL_
    obtain ⟨t0_a, h0_, hL_⟩ := atS_out hL_
    obtain ⟨t1_b, h1_, hL_⟩ := atS_out hL_
    obtain ⟨t6_rest, h6_, hL_⟩ := atS_out hL_
    obtain ⟨t7_out, h7_, hL_⟩ := atS_out hL_
    obtain ⟨t8_i, h8_, hL_⟩ := atI_out hL_
    obtain ⟨g0, rfl⟩ : ∃ g, a_ = Fr 60 [(0, t0_a.v), (1, t1_b.v), (6, t6_rest.v), (7, t7_out.v), (8, Value.int .i64 t8_i)] g := ⟨_, fr_of hz_ hd_ [(0, t0_a.v), (1, t1_b.v), (6, t6_rest.v), (7, t7_out.v), (8, Value.int .i64 t8_i)] (sel_cons h0_ (sel_cons h1_ (sel_cons h6_ (sel_cons h7_ (sel_cons h8_ sel_nil)))))⟩
    clear hz_ hd_ h0_ h1_ h6_ h7_ h8_
    have hJ0_ := hL_
    refine ⟨(surdref01_Div_cut_0 J0 m0 J2 m2 t0_a t1_b t6_rest t7_out t8_i w_), kcast (h0 t0_a t1_b t6_rest t7_out t8_i w_ hJ0_) ?_, ?_⟩
    · kernel_rfl
    · exact (obl_seq rfl (obl_seq rfl (obl_reg (obl_cond (obl_skip (obl_exit (obl_seq rfl (obl_blk rfl (obl_seq rfl (obl_held (by kernel_rfl) (by kernel_rfl) (by kernel_rfl) (obl_seq rfl (obl_reg (obl_seq rfl (obl_seq rfl (obl_reg (obl_cond (obl_seq rfl (obl_reg (obl_loop _ rfl (fun a_ w__ hL_ => (by
      obtain ⟨hz_, hd_, hL_⟩ := atSz_out hL_
      obtain ⟨t0_a', h0_, hL_⟩ := atS_out hL_
      obtain ⟨t1_b', h1_, hL_⟩ := atS_out hL_
      obtain ⟨t6_rest', h6_, hL_⟩ := atS_out hL_
      obtain ⟨t7_out', h7_, hL_⟩ := atS_out hL_
      obtain ⟨t8_i', h8_, hL_⟩ := atI_out hL_
      obtain ⟨t9_q', h9_, hL_⟩ := atI_out hL_
      obtain ⟨t10_s', h10_, hL_⟩ := atI_out hL_
      obtain ⟨g2, rfl⟩ : ∃ g, a_ = Fr 60 [(0, t0_a'.v), (1, t1_b'.v), (6, t6_rest'.v), (7, t7_out'.v), (8, Value.int .i64 t8_i'), (9, Value.int .u64 t9_q'), (10, Value.int .i64 t10_s')] g := ⟨_, fr_of hz_ hd_ [(0, t0_a'.v), (1, t1_b'.v), (6, t6_rest'.v), (7, t7_out'.v), (8, Value.int .i64 t8_i'), (9, Value.int .u64 t9_q'), (10, Value.int .i64 t10_s')] (sel_cons h0_ (sel_cons h1_ (sel_cons h6_ (sel_cons h7_ (sel_cons h8_ (sel_cons h9_ (sel_cons h10_ sel_nil)))))))⟩
      clear hz_ hd_ h0_ h1_ h6_ h7_ h8_ h9_ h10_
      have hJ2_ := hL_
      refine ⟨(fun _ => none), kcast (h2 t0_a t1_b t6_rest t7_out t8_i w_ hJ0_ t0_a' t1_b' t6_rest' t7_out' t8_i' t9_q' t10_s' w__ hJ2_) ?_, ?_⟩
      · kernel_rfl
      · exact (obl_seq rfl (obl_seq rfl (obl_reg (obl_cond (obl_skip (obl_exit (obl_seq rfl (obl_blk rfl (obl_seq rfl (obl_reg (obl_seq rfl (obl_reg (obl_cond (obl_seq rfl (obl_reg (obl_reg (obl_skip (obl_reg trivial)))))))))))))))))))) (obl_skip (obl_reg (obl_reg trivial)))))))))))))))))))))))) (obl_seq rfl (obl_reg (obl_ret trivial)))))))))))))

end Go.Proofs.YthhbjhdnaopcnaaDoor
