/- What the law leans on, part 3. No condition. -/
import Derived.Test.YtbeiopoejdkheaaGreatDoorZWholeRounds2
namespace Go.Proofs.YtbeiopoejdkheaaGreatDoor
open Go Go.RowKit Eng
set_option linter.unusedVariables false

def bits_Div64_cut (J0 : Int → Int → Int → Int → Int → Int → Int → Int → Int → World → Prop) (m0 : Int → Int → Int → Int → Int → Int → Int → Int → Int → World → Nat) (J2 : Int → Int → Int → Int → Int → Int → Int → Int → Int → World → Prop) (m2 : Int → Int → Int → Int → Int → Int → Int → Int → Int → World → Nat) : Nat → Option ((Act → World → Prop) × (Act → World → Nat))
  | 0 => some (fun a_ w_ => atSz a_ 135 (atI .u64 a_ 2 fun t2 => atI .u64 a_ 8 fun t8 => atI .u64 a_ 9 fun t9 => atI .u64 a_ 10 fun t10 => atI .u64 a_ 11 fun t11 => atI .u64 a_ 13 fun t13 => atI .u64 a_ 14 fun t14 => atI .u64 a_ 15 fun t15 => atI .u64 a_ 16 fun t16 => J0 t2 t8 t9 t10 t11 t13 t14 t15 t16 w_), fun a_ w_ => mI a_ 2 fun t2 => mI a_ 8 fun t8 => mI a_ 9 fun t9 => mI a_ 10 fun t10 => mI a_ 11 fun t11 => mI a_ 13 fun t13 => mI a_ 14 fun t14 => mI a_ 15 fun t15 => mI a_ 16 fun t16 => m0 t2 t8 t9 t10 t11 t13 t14 t15 t16 w_)
  | 2 => some (fun a_ w_ => atSz a_ 135 (atI .u64 a_ 2 fun t2 => atI .u64 a_ 8 fun t8 => atI .u64 a_ 9 fun t9 => atI .u64 a_ 10 fun t10 => atI .u64 a_ 14 fun t14 => atI .u64 a_ 15 fun t15 => atI .u64 a_ 16 fun t16 => atI .u64 a_ 17 fun t17 => atI .u64 a_ 18 fun t18 => J2 t2 t8 t9 t10 t14 t15 t16 t17 t18 w_), fun a_ w_ => mI a_ 2 fun t2 => mI a_ 8 fun t8 => mI a_ 9 fun t9 => mI a_ 10 fun t10 => mI a_ 14 fun t14 => mI a_ 15 fun t15 => mI a_ 16 fun t16 => mI a_ 17 fun t17 => mI a_ 18 fun t18 => m2 t2 t8 t9 t10 t14 t15 t16 t17 t18 w_)
  | _ => none

set_option maxRecDepth 100000 in
/-- math/bits.Div64: function 150. -/
theorem bits_Div64_vc (a0 : Int) (a1 : Int) (a2 : Int) (w : World) (R : Ending → World → Prop)
    (J0 : Int → Int → Int → Int → Int → Int → Int → Int → Int → World → Prop) (m0 : Int → Int → Int → Int → Int → Int → Int → Int → Int → World → Nat) (J2 : Int → Int → Int → Int → Int → Int → Int → Int → Int → World → Prop) (m2 : Int → Int → Int → Int → Int → Int → Int → Int → Int → World → Nat)
    (h : br (a2 == 0)
    (False)
    (br (decide (a2 ≤ a0))
     (False)
     (br (a0 == 0)
      (fixI Tryz.prog .u64 (binOp .quo 65 (Value.int .u64 a1) (Value.int .u64 a2)) w fun x1 =>
       fixI Tryz.prog .u64 (binOp .rem 65 (Value.int .u64 a1) (Value.int .u64 a2)) w fun x2 =>
       ∀ w1, Ahead w w1 →
       (R (.returned (Value.tuple #[Value.int .u64 x1, Value.int .u64 x2])) w1))
      (Calls Tryz.prog 151 #[Value.int .u64 a2] w fun e1 w2 =>
       ∃ x3 : Int, e1 = .returned (Value.int .i64 x3) ∧
       (semI Tryz.prog .u64 (binOp .shl 65 (Value.int .u64 a2) (Value.int .u64 (IntKind.u64.wrap x3))) w2 fun x4 w3 =>
        semI Tryz.prog .u64 (binOp .shl 65 (Value.int .u64 a0) (Value.int .u64 (IntKind.u64.wrap x3))) w3 fun x5 w4 =>
        semI Tryz.prog .u64 (binOp .shr 65 (Value.int .u64 a1) (Value.int .u64 (IntKind.u64.wrap (64 - (IntKind.u64.wrap x3))))) w4 fun x6 w5 =>
        semI Tryz.prog .u64 (binOp .shl 65 (Value.int .u64 a1) (Value.int .u64 (IntKind.u64.wrap x3))) w5 fun x7 w6 =>
        semI Tryz.prog .u64 (binOp .quo 65 (Value.int .u64 (orI .u64 x5 x6)) (Value.int .u64 (Int.fdiv x4 (2 ^ (32 : Nat))))) w6 fun x8 w7 =>
        J0 x4 (IntKind.u64.wrap x3) (Int.fdiv x4 (2 ^ (32 : Nat))) (andI .u64 x4 4294967295) (orI .u64 x5 x6) (Int.fdiv x7 (2 ^ (32 : Nat))) (andI .u64 x7 4294967295) x8 (IntKind.u64.wrap ((orI .u64 x5 x6) - (IntKind.u64.wrap (x8 * (Int.fdiv x4 (2 ^ (32 : Nat))))))) w7)))))
    (h0 : ∀ (t2 : Int) (t8 : Int) (t9 : Int) (t10 : Int) (t11 : Int) (t13 : Int) (t14 : Int) (t15 : Int) (t16 : Int) (w_ : World), J0 t2 t8 t9 t10 t11 t13 t14 t15 t16 w_ → 
    br (decide (t15 ≥ 4294967296))
    (br (decide ((IntKind.u64.wrap (t16 + t9)) ≥ 4294967296))
     (semI Tryz.prog .u64 (binOp .quo 65 (Value.int .u64 (IntKind.u64.wrap ((IntKind.u64.wrap ((IntKind.u64.wrap (t11 * 4294967296)) + t13)) - (IntKind.u64.wrap ((IntKind.u64.wrap (t15 - 1)) * t2))))) (Value.int .u64 t9)) w_ fun x9 w8 =>
      J2 t2 t8 t9 t10 t14 (IntKind.u64.wrap (t15 - 1)) (IntKind.u64.wrap ((IntKind.u64.wrap ((IntKind.u64.wrap ((IntKind.u64.wrap (t11 * 4294967296)) + t13)) - (IntKind.u64.wrap ((IntKind.u64.wrap (t15 - 1)) * t2)))) - (IntKind.u64.wrap (x9 * t9)))) (IntKind.u64.wrap ((IntKind.u64.wrap ((IntKind.u64.wrap (t11 * 4294967296)) + t13)) - (IntKind.u64.wrap ((IntKind.u64.wrap (t15 - 1)) * t2)))) x9 w8)
     (J0 t2 t8 t9 t10 t11 t13 t14 (IntKind.u64.wrap (t15 - 1)) (IntKind.u64.wrap (t16 + t9)) w_ ∧
      m0 t2 t8 t9 t10 t11 t13 t14 (IntKind.u64.wrap (t15 - 1)) (IntKind.u64.wrap (t16 + t9)) w_ < m0 t2 t8 t9 t10 t11 t13 t14 t15 t16 w_))
    (br (decide ((IntKind.u64.wrap (t15 * t10)) > (IntKind.u64.wrap ((IntKind.u64.wrap (4294967296 * t16)) + t13))))
     (br (decide ((IntKind.u64.wrap (t16 + t9)) ≥ 4294967296))
      (semI Tryz.prog .u64 (binOp .quo 65 (Value.int .u64 (IntKind.u64.wrap ((IntKind.u64.wrap ((IntKind.u64.wrap (t11 * 4294967296)) + t13)) - (IntKind.u64.wrap ((IntKind.u64.wrap (t15 - 1)) * t2))))) (Value.int .u64 t9)) w_ fun x13 w12 =>
       J2 t2 t8 t9 t10 t14 (IntKind.u64.wrap (t15 - 1)) (IntKind.u64.wrap ((IntKind.u64.wrap ((IntKind.u64.wrap ((IntKind.u64.wrap (t11 * 4294967296)) + t13)) - (IntKind.u64.wrap ((IntKind.u64.wrap (t15 - 1)) * t2)))) - (IntKind.u64.wrap (x13 * t9)))) (IntKind.u64.wrap ((IntKind.u64.wrap ((IntKind.u64.wrap (t11 * 4294967296)) + t13)) - (IntKind.u64.wrap ((IntKind.u64.wrap (t15 - 1)) * t2)))) x13 w12)
      (J0 t2 t8 t9 t10 t11 t13 t14 (IntKind.u64.wrap (t15 - 1)) (IntKind.u64.wrap (t16 + t9)) w_ ∧
       m0 t2 t8 t9 t10 t11 t13 t14 (IntKind.u64.wrap (t15 - 1)) (IntKind.u64.wrap (t16 + t9)) w_ < m0 t2 t8 t9 t10 t11 t13 t14 t15 t16 w_))
     (semI Tryz.prog .u64 (binOp .quo 65 (Value.int .u64 (IntKind.u64.wrap ((IntKind.u64.wrap ((IntKind.u64.wrap (t11 * 4294967296)) + t13)) - (IntKind.u64.wrap (t15 * t2))))) (Value.int .u64 t9)) w_ fun x14 w13 =>
      J2 t2 t8 t9 t10 t14 t15 (IntKind.u64.wrap ((IntKind.u64.wrap ((IntKind.u64.wrap ((IntKind.u64.wrap (t11 * 4294967296)) + t13)) - (IntKind.u64.wrap (t15 * t2)))) - (IntKind.u64.wrap (x14 * t9)))) (IntKind.u64.wrap ((IntKind.u64.wrap ((IntKind.u64.wrap (t11 * 4294967296)) + t13)) - (IntKind.u64.wrap (t15 * t2)))) x14 w13)))
    (h2 : ∀ (t2 : Int) (t8 : Int) (t9 : Int) (t10 : Int) (t14 : Int) (t15 : Int) (t16 : Int) (t17 : Int) (t18 : Int) (w_ : World), J2 t2 t8 t9 t10 t14 t15 t16 t17 t18 w_ → 
    br (decide (t18 ≥ 4294967296))
    (br (decide ((IntKind.u64.wrap (t16 + t9)) ≥ 4294967296))
     (semI Tryz.prog .u64 (binOp .shr 65 (Value.int .u64 (IntKind.u64.wrap ((IntKind.u64.wrap ((IntKind.u64.wrap (t17 * 4294967296)) + t14)) - (IntKind.u64.wrap ((IntKind.u64.wrap (t18 - 1)) * t2))))) (Value.int .u64 t8)) w_ fun x10 w9 =>
      R (.returned (Value.tuple #[Value.int .u64 (IntKind.u64.wrap ((IntKind.u64.wrap (t15 * 4294967296)) + (IntKind.u64.wrap (t18 - 1)))), Value.int .u64 x10])) w9)
     (J2 t2 t8 t9 t10 t14 t15 (IntKind.u64.wrap (t16 + t9)) t17 (IntKind.u64.wrap (t18 - 1)) w_ ∧
      m2 t2 t8 t9 t10 t14 t15 (IntKind.u64.wrap (t16 + t9)) t17 (IntKind.u64.wrap (t18 - 1)) w_ < m2 t2 t8 t9 t10 t14 t15 t16 t17 t18 w_))
    (br (decide ((IntKind.u64.wrap (t18 * t10)) > (IntKind.u64.wrap ((IntKind.u64.wrap (4294967296 * t16)) + t14))))
     (br (decide ((IntKind.u64.wrap (t16 + t9)) ≥ 4294967296))
      (semI Tryz.prog .u64 (binOp .shr 65 (Value.int .u64 (IntKind.u64.wrap ((IntKind.u64.wrap ((IntKind.u64.wrap (t17 * 4294967296)) + t14)) - (IntKind.u64.wrap ((IntKind.u64.wrap (t18 - 1)) * t2))))) (Value.int .u64 t8)) w_ fun x11 w10 =>
       R (.returned (Value.tuple #[Value.int .u64 (IntKind.u64.wrap ((IntKind.u64.wrap (t15 * 4294967296)) + (IntKind.u64.wrap (t18 - 1)))), Value.int .u64 x11])) w10)
      (J2 t2 t8 t9 t10 t14 t15 (IntKind.u64.wrap (t16 + t9)) t17 (IntKind.u64.wrap (t18 - 1)) w_ ∧
       m2 t2 t8 t9 t10 t14 t15 (IntKind.u64.wrap (t16 + t9)) t17 (IntKind.u64.wrap (t18 - 1)) w_ < m2 t2 t8 t9 t10 t14 t15 t16 t17 t18 w_))
     (semI Tryz.prog .u64 (binOp .shr 65 (Value.int .u64 (IntKind.u64.wrap ((IntKind.u64.wrap ((IntKind.u64.wrap (t17 * 4294967296)) + t14)) - (IntKind.u64.wrap (t18 * t2))))) (Value.int .u64 t8)) w_ fun x12 w11 =>
      R (.returned (Value.tuple #[Value.int .u64 (IntKind.u64.wrap ((IntKind.u64.wrap (t15 * 4294967296)) + t18)), Value.int .u64 x12])) w11))) :
    Calls Tryz.prog 150 #[Value.int .u64 a0, Value.int .u64 a1, Value.int .u64 a2] w R := by
  refine calls_of_vc (bits_Div64_cut J0 m0 J2 m2) (by kernel_rfl) Tryz.func150 rfl ?_ ?_
  · refine kcast h ?_; kernel_rfl
  · exact (obl_seq rfl (obl_reg (obl_seq rfl (obl_seq rfl (obl_reg (obl_cond (obl_reg (obl_skip (obl_seq rfl (obl_seq rfl (obl_reg (obl_cond (obl_reg (obl_skip (obl_seq rfl (obl_seq rfl (obl_reg (obl_cond (obl_seq rfl (obl_quiet (by kernel_rfl) (by kernel_rfl) (by kernel_rfl) (by kernel_rfl) (obl_ret (obl_skip (obl_seq rfl (obl_reg (obl_seq rfl (obl_reg (obl_seq rfl (obl_reg (obl_seq rfl (obl_reg (obl_seq rfl (obl_reg (obl_seq rfl (obl_reg (obl_seq rfl (obl_reg (obl_seq rfl (obl_reg (obl_seq rfl (obl_reg (obl_seq rfl (obl_reg (obl_seq rfl (obl_loop _ rfl (fun a_ w_ hL_ => (by
    obtain ⟨hz_, hd_, hL_⟩ := atSz_out hL_
    obtain ⟨t2, h2_, hL_⟩ := atI_out hL_
    obtain ⟨t8, h8_, hL_⟩ := atI_out hL_
    obtain ⟨t9, h9_, hL_⟩ := atI_out hL_
    obtain ⟨t10, h10_, hL_⟩ := atI_out hL_
    obtain ⟨t11, h11_, hL_⟩ := atI_out hL_
    obtain ⟨t13, h13_, hL_⟩ := atI_out hL_
    obtain ⟨t14, h14_, hL_⟩ := atI_out hL_
    obtain ⟨t15, h15_, hL_⟩ := atI_out hL_
    obtain ⟨t16, h16_, hL_⟩ := atI_out hL_
    obtain ⟨g0, rfl⟩ : ∃ g, a_ = Fr 135 [(2, Value.int .u64 t2), (8, Value.int .u64 t8), (9, Value.int .u64 t9), (10, Value.int .u64 t10), (11, Value.int .u64 t11), (13, Value.int .u64 t13), (14, Value.int .u64 t14), (15, Value.int .u64 t15), (16, Value.int .u64 t16)] g := ⟨_, fr_of hz_ hd_ [(2, Value.int .u64 t2), (8, Value.int .u64 t8), (9, Value.int .u64 t9), (10, Value.int .u64 t10), (11, Value.int .u64 t11), (13, Value.int .u64 t13), (14, Value.int .u64 t14), (15, Value.int .u64 t15), (16, Value.int .u64 t16)] (sel_cons h2_ (sel_cons h8_ (sel_cons h9_ (sel_cons h10_ (sel_cons h11_ (sel_cons h13_ (sel_cons h14_ (sel_cons h15_ (sel_cons h16_ sel_nil)))))))))⟩
    clear hz_ hd_ h2_ h8_ h9_ h10_ h11_ h13_ h14_ h15_ h16_
    have hJ0_ := hL_
    refine ⟨(fun _ => none), kcast (h0 t2 t8 t9 t10 t11 t13 t14 t15 t16 w_ hJ0_) ?_, ?_⟩
    · kernel_rfl
    · exact (obl_seq rfl (obl_seq rfl (obl_reg (obl_cond (obl_skip (obl_exit (obl_blk rfl (obl_seq rfl (obl_reg (obl_seq rfl (obl_reg (obl_seq rfl (obl_reg (obl_cond (obl_exit (obl_skip trivial)))))))))))))))))) (obl_seq rfl (obl_reg (obl_seq rfl (obl_reg (obl_seq rfl (obl_reg (obl_seq rfl (obl_loop _ rfl (fun a_ w_ hL_ => (by
    obtain ⟨hz_, hd_, hL_⟩ := atSz_out hL_
    obtain ⟨t2, h2_, hL_⟩ := atI_out hL_
    obtain ⟨t8, h8_, hL_⟩ := atI_out hL_
    obtain ⟨t9, h9_, hL_⟩ := atI_out hL_
    obtain ⟨t10, h10_, hL_⟩ := atI_out hL_
    obtain ⟨t14, h14_, hL_⟩ := atI_out hL_
    obtain ⟨t15, h15_, hL_⟩ := atI_out hL_
    obtain ⟨t16, h16_, hL_⟩ := atI_out hL_
    obtain ⟨t17, h17_, hL_⟩ := atI_out hL_
    obtain ⟨t18, h18_, hL_⟩ := atI_out hL_
    obtain ⟨g2, rfl⟩ : ∃ g, a_ = Fr 135 [(2, Value.int .u64 t2), (8, Value.int .u64 t8), (9, Value.int .u64 t9), (10, Value.int .u64 t10), (14, Value.int .u64 t14), (15, Value.int .u64 t15), (16, Value.int .u64 t16), (17, Value.int .u64 t17), (18, Value.int .u64 t18)] g := ⟨_, fr_of hz_ hd_ [(2, Value.int .u64 t2), (8, Value.int .u64 t8), (9, Value.int .u64 t9), (10, Value.int .u64 t10), (14, Value.int .u64 t14), (15, Value.int .u64 t15), (16, Value.int .u64 t16), (17, Value.int .u64 t17), (18, Value.int .u64 t18)] (sel_cons h2_ (sel_cons h8_ (sel_cons h9_ (sel_cons h10_ (sel_cons h14_ (sel_cons h15_ (sel_cons h16_ (sel_cons h17_ (sel_cons h18_ sel_nil)))))))))⟩
    clear hz_ hd_ h2_ h8_ h9_ h10_ h14_ h15_ h16_ h17_ h18_
    have hJ2_ := hL_
    refine ⟨(fun _ => none), kcast (h2 t2 t8 t9 t10 t14 t15 t16 t17 t18 w_ hJ2_) ?_, ?_⟩
    · kernel_rfl
    · exact (obl_seq rfl (obl_seq rfl (obl_reg (obl_cond (obl_skip (obl_exit (obl_blk rfl (obl_seq rfl (obl_reg (obl_seq rfl (obl_reg (obl_seq rfl (obl_reg (obl_cond (obl_exit (obl_skip trivial)))))))))))))))))) (obl_seq rfl (obl_reg (obl_ret trivial)))))))))))))))))))))))))))))))))))))))))))))))))))))))

def surdref01_Div_cut (J0 : Slc → Slc → Slc → Slc → Int → World → Prop) (m0 : Slc → Slc → Slc → Slc → Int → World → Nat) (J2 : Slc → Slc → Slc → Slc → Int → World → Slc → Slc → Slc → Slc → Int → Int → Int → World → Prop) (m2 : Slc → Slc → Slc → Slc → Int → World → Slc → Slc → Slc → Slc → Int → Int → Int → World → Nat) : Nat → Option ((Act → World → Prop) × (Act → World → Nat))
  | 0 => some (fun a_ w_ => atSz a_ 60 (atS a_ 0 fun t0_a => atS a_ 1 fun t1_b => atS a_ 6 fun t6_rest => atS a_ 7 fun t7_out => atI .i64 a_ 8 fun t8_i => J0 t0_a t1_b t6_rest t7_out t8_i w_), fun a_ w_ => mS a_ 0 fun t0_a => mS a_ 1 fun t1_b => mS a_ 6 fun t6_rest => mS a_ 7 fun t7_out => mI a_ 8 fun t8_i => m0 t0_a t1_b t6_rest t7_out t8_i w_)
  | _ => none

def surdref01_Div_cut_0 (J0 : Slc → Slc → Slc → Slc → Int → World → Prop) (m0 : Slc → Slc → Slc → Slc → Int → World → Nat) (J2 : Slc → Slc → Slc → Slc → Int → World → Slc → Slc → Slc → Slc → Int → Int → Int → World → Prop) (m2 : Slc → Slc → Slc → Slc → Int → World → Slc → Slc → Slc → Slc → Int → Int → Int → World → Nat) (o_t0_a : Slc) (o_t1_b : Slc) (o_t6_rest : Slc) (o_t7_out : Slc) (o_t8_i : Int) (o_w_ : World) : Nat → Option ((Act → World → Prop) × (Act → World → Nat))
  | 2 => some (fun a_ w_ => atSz a_ 60 (atS a_ 0 fun t0_a => atS a_ 1 fun t1_b => atS a_ 6 fun t6_rest => atS a_ 7 fun t7_out => atI .i64 a_ 8 fun t8_i => atI .u64 a_ 9 fun t9_q => atI .i64 a_ 10 fun t10_s => J2 o_t0_a o_t1_b o_t6_rest o_t7_out o_t8_i o_w_ t0_a t1_b t6_rest t7_out t8_i t9_q t10_s w_), fun a_ w_ => mS a_ 0 fun t0_a => mS a_ 1 fun t1_b => mS a_ 6 fun t6_rest => mS a_ 7 fun t7_out => mI a_ 8 fun t8_i => mI a_ 9 fun t9_q => mI a_ 10 fun t10_s => m2 o_t0_a o_t1_b o_t6_rest o_t7_out o_t8_i o_w_ t0_a t1_b t6_rest t7_out t8_i t9_q t10_s w_)
  | _ => none

set_option maxRecDepth 100000 in
/-- surd/surdref01.Div: function 90. -/
theorem surdref01_Div_vc (a0_a : Slc) (a1_b : Slc) (w : World) (R : Ending → World → Prop)
    (J0 : Slc → Slc → Slc → Slc → Int → World → Prop) (m0 : Slc → Slc → Slc → Slc → Int → World → Nat) (J2 : Slc → Slc → Slc → Slc → Int → World → Slc → Slc → Slc → Slc → Int → Int → Int → World → Prop) (m2 : Slc → Slc → Slc → Slc → Int → World → Slc → Slc → Slc → Slc → Int → Int → Int → World → Nat)
    (h : semS Tryz.prog (Instr.makeSlice 32 (Value.int .i64 (a0_a.n : Int)) (Value.int .i64 (a0_a.n : Int))) w fun s1 w1 =>
    J0 a0_a a1_b (⟨none, 0, 0⟩ : Slc) s1 (IntKind.i64.wrap ((a0_a.n : Int) - 1)) w1)
    (h0 : ∀ (t0_a : Slc) (t1_b : Slc) (t6_rest : Slc) (t7_out : Slc) (t8_i : Int) (w_ : World), J0 t0_a t1_b t6_rest t7_out t8_i w_ → 
    br (decide (t8_i ≥ 0))
    (fixA Tryz.prog (Instr.indexAt 32 t0_a.v (Value.int .i64 t8_i)) w_.drew fun ad1 =>
     ldI .u64 ad1 w_.drew fun x1 =>
     (Calls Tryz.prog 54 #[t6_rest.v, Value.int .i64 32] w_.drew fun e1 w2 =>
      ∃ s2 : Slc, e1 = .returned s2.v ∧
      (Ahead w_.drew w2 ∧
       (newC w2 #[Value.int .u64 x1] 65 fun ad2 w3 =>
        Ahead w2 w3 ∧
        (Calls Tryz.prog 76 #[(⟨some ad2, 1, 1⟩ : Slc).v] w3 fun e2 w4 =>
         ∃ s3 : Slc, e2 = .returned s3.v ∧
         (Ahead w3 w4 ∧
          (Calls Tryz.prog 67 #[s2.v, s3.v] w4 fun e3 w5 =>
           ∃ s4 : Slc, e3 = .returned s4.v ∧
           (Ahead w4 w5 ∧
            (Calls Tryz.prog 57 #[s4.v, t1_b.v] w5 fun e4 w6 =>
             ∃ x2 : Int, e4 = .returned (Value.int .i64 x2) ∧
             (br (decide (x2 ≥ 0))
              (J2 t0_a t1_b t6_rest t7_out t8_i w_ t0_a t1_b s4 t7_out t8_i 0 31 w6)
              (semA Tryz.prog (Instr.indexAt 32 t7_out.v (Value.int .i64 t8_i)) w6 fun ad4 w13 =>
               stC ad4 (Value.int .u64 0) w13 fun w14 =>
               J0 t0_a t1_b s4 t7_out (IntKind.i64.wrap (t8_i - 1)) w14 ∧
               m0 t0_a t1_b s4 t7_out (IntKind.i64.wrap (t8_i - 1)) w14 < m0 t0_a t1_b t6_rest t7_out t8_i w_)))))))))) ∧
     (newC w_.drew #[Value.int .u64 x1] 65 fun ad5 w15 =>
      Ahead w_.drew w15 ∧
      (Calls Tryz.prog 54 #[t6_rest.v, Value.int .i64 32] w15 fun e8 w16 =>
       ∃ s7 : Slc, e8 = .returned s7.v ∧
       (Ahead w15 w16 ∧
        (Calls Tryz.prog 76 #[(⟨some ad5, 1, 1⟩ : Slc).v] w16 fun e9 w17 =>
         ∃ s8 : Slc, e9 = .returned s8.v ∧
         (Ahead w16 w17 ∧
          (Calls Tryz.prog 67 #[s7.v, s8.v] w17 fun e10 w18 =>
           ∃ s9 : Slc, e10 = .returned s9.v ∧
           (Ahead w17 w18 ∧
            (Calls Tryz.prog 57 #[s9.v, t1_b.v] w18 fun e11 w19 =>
             ∃ x5 : Int, e11 = .returned (Value.int .i64 x5) ∧
             (br (decide (x5 ≥ 0))
              (J2 t0_a t1_b t6_rest t7_out t8_i w_ t0_a t1_b s9 t7_out t8_i 0 31 w19)
              (semA Tryz.prog (Instr.indexAt 32 t7_out.v (Value.int .i64 t8_i)) w19 fun ad6 w20 =>
               stC ad6 (Value.int .u64 0) w20 fun w21 =>
               J0 t0_a t1_b s9 t7_out (IntKind.i64.wrap (t8_i - 1)) w21 ∧
               m0 t0_a t1_b s9 t7_out (IntKind.i64.wrap (t8_i - 1)) w21 < m0 t0_a t1_b t6_rest t7_out t8_i w_)))))))))))
    (Calls Tryz.prog 76 #[t7_out.v] w_ fun e12 w22 =>
     ∃ s10 : Slc, e12 = .returned s10.v ∧
     (R (.returned (Value.tuple #[s10.v, t6_rest.v])) w22)))
    (h2 : ∀ (t0_a : Slc) (t1_b : Slc) (t6_rest : Slc) (t7_out : Slc) (t8_i : Int) (w_ : World), J0 t0_a t1_b t6_rest t7_out t8_i w_ → ∀ (t0_a' : Slc) (t1_b' : Slc) (t6_rest' : Slc) (t7_out' : Slc) (t8_i' : Int) (t9_q' : Int) (t10_s' : Int) (w__ : World), J2 t0_a t1_b t6_rest t7_out t8_i w_ t0_a' t1_b' t6_rest' t7_out' t8_i' t9_q' t10_s' w__ → 
    br (decide (t10_s' ≥ 0))
    (Calls Tryz.prog 54 #[t1_b'.v, Value.int .i64 t10_s'] w__ fun e5 w7 =>
     ∃ s5 : Slc, e5 = .returned s5.v ∧
     (Calls Tryz.prog 57 #[t6_rest'.v, s5.v] w7 fun e6 w8 =>
      ∃ x3 : Int, e6 = .returned (Value.int .i64 x3) ∧
      (br (decide (x3 ≥ 0))
       (Calls Tryz.prog 68 #[t6_rest'.v, s5.v] w8 fun e7 w9 =>
        ∃ s6 : Slc, e7 = .returned s6.v ∧
        (semI Tryz.prog .u64 (binOp .shl 65 (Value.int .u64 1) (Value.int .i64 t10_s')) w9 fun x4 w10 =>
         J2 t0_a t1_b t6_rest t7_out t8_i w_ t0_a' t1_b' s6 t7_out' t8_i' (IntKind.u64.wrap (t9_q' + x4)) (IntKind.i64.wrap (t10_s' - 1)) w10 ∧
         m2 t0_a t1_b t6_rest t7_out t8_i w_ t0_a' t1_b' s6 t7_out' t8_i' (IntKind.u64.wrap (t9_q' + x4)) (IntKind.i64.wrap (t10_s' - 1)) w10 < m2 t0_a t1_b t6_rest t7_out t8_i w_ t0_a' t1_b' t6_rest' t7_out' t8_i' t9_q' t10_s' w__))
       (J2 t0_a t1_b t6_rest t7_out t8_i w_ t0_a' t1_b' t6_rest' t7_out' t8_i' t9_q' (IntKind.i64.wrap (t10_s' - 1)) w8 ∧
        m2 t0_a t1_b t6_rest t7_out t8_i w_ t0_a' t1_b' t6_rest' t7_out' t8_i' t9_q' (IntKind.i64.wrap (t10_s' - 1)) w8 < m2 t0_a t1_b t6_rest t7_out t8_i w_ t0_a' t1_b' t6_rest' t7_out' t8_i' t9_q' t10_s' w__))))
    (semA Tryz.prog (Instr.indexAt 32 t7_out'.v (Value.int .i64 t8_i')) w__ fun ad3 w11 =>
     stC ad3 (Value.int .u64 t9_q') w11 fun w12 =>
     J0 t0_a' t1_b' t6_rest' t7_out' (IntKind.i64.wrap (t8_i' - 1)) w12 ∧
     m0 t0_a' t1_b' t6_rest' t7_out' (IntKind.i64.wrap (t8_i' - 1)) w12 < m0 t0_a t1_b t6_rest t7_out t8_i w_)) :
    Calls Tryz.prog 90 #[a0_a.v, a1_b.v] w R := by
  refine calls_of_vc (surdref01_Div_cut J0 m0 J2 m2) (by kernel_rfl) Tryz.func90 rfl ?_ ?_
  · refine kcast h ?_; kernel_rfl
  · exact (obl_seq rfl (obl_reg (obl_seq rfl (obl_reg (obl_seq rfl (obl_reg (obl_seq rfl (obl_seq rfl (obl_reg (obl_loop _ rfl (fun a_ w_ hL_ => (by
    obtain ⟨hz_, hd_, hL_⟩ := atSz_out hL_
    obtain ⟨t0_a, h0_, hL_⟩ := atS_out hL_
    obtain ⟨t1_b, h1_, hL_⟩ := atS_out hL_
    obtain ⟨t6_rest, h6_, hL_⟩ := atS_out hL_
    obtain ⟨t7_out, h7_, hL_⟩ := atS_out hL_
    obtain ⟨t8_i, h8_, hL_⟩ := atI_out hL_
    obtain ⟨g0, rfl⟩ : ∃ g, a_ = Fr 60 [(0, t0_a.v), (1, t1_b.v), (6, t6_rest.v), (7, t7_out.v), (8, Value.int .i64 t8_i)] g := ⟨_, fr_of hz_ hd_ [(0, t0_a.v), (1, t1_b.v), (6, t6_rest.v), (7, t7_out.v), (8, Value.int .i64 t8_i)] (sel_cons h0_ (sel_cons h1_ (sel_cons h6_ (sel_cons h7_ (sel_cons h8_ sel_nil)))))⟩
    clear hz_ hd_ h0_ h1_ h6_ h7_ h8_
    have hJ0_ := hL_
    refine ⟨(surdref01_Div_cut_0 J0 m0 J2 m2 t0_a t1_b t6_rest t7_out t8_i w_), kcast (h0 t0_a t1_b t6_rest t7_out t8_i w_ hJ0_) ?_, ?_⟩
    · kernel_rfl
    · exact (obl_seq rfl (obl_seq rfl (obl_reg (obl_cond (obl_skip (obl_exit (obl_seq rfl (obl_blk rfl (obl_seq rfl (obl_held (by kernel_rfl) (by kernel_rfl) (by kernel_rfl) (obl_seq rfl (obl_reg (obl_seq rfl (obl_seq rfl (obl_reg (obl_cond (obl_seq rfl (obl_reg (obl_loop _ rfl (fun a_ w__ hL_ => (by
      obtain ⟨hz_, hd_, hL_⟩ := atSz_out hL_
      obtain ⟨t0_a', h0_, hL_⟩ := atS_out hL_
      obtain ⟨t1_b', h1_, hL_⟩ := atS_out hL_
      obtain ⟨t6_rest', h6_, hL_⟩ := atS_out hL_
      obtain ⟨t7_out', h7_, hL_⟩ := atS_out hL_
      obtain ⟨t8_i', h8_, hL_⟩ := atI_out hL_
      obtain ⟨t9_q', h9_, hL_⟩ := atI_out hL_
      obtain ⟨t10_s', h10_, hL_⟩ := atI_out hL_
      obtain ⟨g2, rfl⟩ : ∃ g, a_ = Fr 60 [(0, t0_a'.v), (1, t1_b'.v), (6, t6_rest'.v), (7, t7_out'.v), (8, Value.int .i64 t8_i'), (9, Value.int .u64 t9_q'), (10, Value.int .i64 t10_s')] g := ⟨_, fr_of hz_ hd_ [(0, t0_a'.v), (1, t1_b'.v), (6, t6_rest'.v), (7, t7_out'.v), (8, Value.int .i64 t8_i'), (9, Value.int .u64 t9_q'), (10, Value.int .i64 t10_s')] (sel_cons h0_ (sel_cons h1_ (sel_cons h6_ (sel_cons h7_ (sel_cons h8_ (sel_cons h9_ (sel_cons h10_ sel_nil)))))))⟩
      clear hz_ hd_ h0_ h1_ h6_ h7_ h8_ h9_ h10_
      have hJ2_ := hL_
      refine ⟨(fun _ => none), kcast (h2 t0_a t1_b t6_rest t7_out t8_i w_ hJ0_ t0_a' t1_b' t6_rest' t7_out' t8_i' t9_q' t10_s' w__ hJ2_) ?_, ?_⟩
      · kernel_rfl
      · exact (obl_seq rfl (obl_seq rfl (obl_reg (obl_cond (obl_skip (obl_exit (obl_seq rfl (obl_blk rfl (obl_seq rfl (obl_reg (obl_seq rfl (obl_reg (obl_cond (obl_seq rfl (obl_reg (obl_reg (obl_skip (obl_reg trivial)))))))))))))))))))) (obl_skip (obl_reg (obl_reg trivial)))))))))))))))))))))))) (obl_seq rfl (obl_reg (obl_ret trivial)))))))))))))

end Go.Proofs.YtbeiopoejdkheaaGreatDoor
namespace Go.Proofs.YtbeiopoejdkheaaGreatDoor
open Go Go.RowKit Eng Sp Dg
set_option linter.unusedVariables false
set_option linter.unusedSimpArgs false
set_option maxRecDepth 100000
namespace Ref
open _root_.Go.Proofs.YtbeiopoejdkheaaGreatDoor.Nat (ldN ldNf mkN semShl one_rd)
open _root_.Go.Proofs.YtbeiopoejdkheaaGreatDoor.Mul (Only Off stO Only.rd)

def DivJ0 (w : World) (p q : Slc) (x y : Nat) (t0 t1 rest out : Slc) (i : Int) (w' : World) : Prop :=
  t0 = p ∧ t1 = q ∧ Ahead w w' ∧ ∃ (l : List Nat) (j r : Nat), i = (j : Int) - 1 ∧ j ≤ (digs B32 x).length ∧ Owr .u64 tU64 w' out (nn l) w.heap.size ∧ l.length = (digs B32 x).length ∧ ok B32 l ∧
    val B32 ((digs B32 x).drop j) = val B32 (l.drop j) * y + r ∧ r < y ∧ RN w' rest r ∧ ∀ ad, rest.A = some ad → w.heap.size < ad.block
def DivJ2 (w : World) (p q : Slc) (x y : Nat) (o : Slc) (io : Int) (t0 t1 rest out : Slc) (i t9 t10 : Int) (w' : World) : Prop :=
  t0 = p ∧ t1 = q ∧ out = o ∧ i = io ∧ Ahead w w' ∧ ∃ (l : List Nat) (j r Q S r' : Nat), i = (j : Int) ∧ j < (digs B32 x).length ∧ Owr .u64 tU64 w' out (nn l) w.heap.size ∧ l.length = (digs B32 x).length ∧ ok B32 l ∧
    val B32 ((digs B32 x).drop (j + 1)) = val B32 (l.drop (j + 1)) * y + r ∧ t9 = (Q : Int) ∧ t10 = (S : Int) - 1 ∧ S ≤ 32 ∧ r * B32 + (digs B32 x).getD j 0 = Q * y + r' ∧ r' < y * 2 ^ S ∧ Q + 2 ^ S ≤ 2 ^ 32 ∧
    RN w' rest r' ∧ ∀ ad, rest.A = some ad → w.heap.size < ad.block

theorem len_lt_of {B x y k : Nat} (hB : 2 ≤ B) (h : x < y * B ^ k) : (digs B x).length ≤ (digs B y).length + k := by
  refine digs_length_le hB (Nat.lt_of_lt_of_le h ?_)
  rw [Nat.pow_add]
  refine Nat.mul_le_mul_right _ ?_
  have := val_lt (ok_digs hB y)
  rw [val_digs hB] at this
  omega
theorem drop_set_self (l : List Nat) (i q : Nat) (h : i < l.length) : (l.set i q).drop i = q :: l.drop (i + 1) := by
  apply List.ext_getElem?
  intro k
  rw [List.getElem?_drop]
  cases k with
  | zero => simp [h]
  | succ k =>
    rw [List.getElem?_set_ne (by omega)]
    simp; congr 1; omega

theorem rDiv_spec {w : World} {p q : Slc} {x y : Nat} (hp : RN w p x) (hq : RN w q y) (hy : 0 < y) (la : (digs B32 x).length ≤ 2 ^ 45) (lb : (digs B32 y).length + 2 ≤ 2 ^ 45) :
    Calls pr surdref01_Div_id #[p.v, q.v] w fun e w' => Ahead w w' ∧ ∃ s t, e = .returned (.tuple #[Slc.v s, Slc.v t]) ∧ RN w' s (x / y) ∧ RN w' t (x % y) := by
  have hB32 := B32v
  have hB := B64v
  have hna := hp.n
  have oa := ok_digs two32 x
  have vx := val_digs two32 x
  have step : ∀ {t1 : Slc} {l : List Nat} {out rest : Slc} {j Q r r' : Nat} {w' : World}, Ahead w w' → j < (digs B32 x).length → Owr .u64 tU64 w' out (nn l) w.heap.size → l.length = (digs B32 x).length → ok B32 l →
      val B32 ((digs B32 x).drop (j + 1)) = val B32 (l.drop (j + 1)) * y + r → r * B32 + (digs B32 x).getD j 0 = Q * y + r' → r' < y → Q < B32 → RN w' rest r' → (∀ ad, rest.A = some ad → w.heap.size < ad.block) →
      semA pr (Instr.indexAt 32 out.v (.int .i64 (j : Int))) w' fun ad w1 => stC ad (.int .u64 (Q : Int)) w1 fun w2 =>
        DivJ0 w p q x y p q rest out (IntKind.i64.wrap ((j : Int) - 1)) w2 ∧ (IntKind.i64.wrap ((j : Int) - 1) + 1).toNat < ((j : Int) + 1).toNat := by
    intro t1 l out rest j Q r r' w' ha hj ho hl ol hv hR hr' hQ hrest hfr
    refine stO ho (by omega) (by omega) ?_
    intro w2 ho2 hon
    rw [Int.toNat_natCast] at ho2
    rw [wrap_i64 (by omega) (by omega)]
    refine ⟨⟨rfl, rfl, hon.ahead ha (Nat.le_refl _), _, j, r', rfl, by omega, ho2, by simpa using hl, ok_set ol hQ, ?_, hr', hon.rd hrest (fun ad e _ => by have := hfr ad e; omega), hfr⟩, by omega⟩
    rw [drop_set_self _ _ _ (by omega), List.drop_eq_getElem_cons hj, ← getD_lt _ 0 hj]
    simp only [val]
    rw [hv, Nat.mul_add, Nat.add_mul, ← Nat.mul_assoc, Nat.mul_comm B32 r]
    omega
  refine surdref01_Div_vc p q w _ (DivJ0 w p q x y) (fun _ _ _ _ i _ => (i + 1).toNat) (fun _ _ _ o i _ => DivJ2 w p q x y o i) (fun _ _ _ _ _ _ _ _ _ _ _ _ s _ => (s + 1).toNat) ?_ ?_ ?_
  · rw [hna]
    refine mkN (by omega) (by omega) ?_
    intro c w1 hc ho h1 hs1
    rw [wrap_i64 (by omega) (by omega)]
    refine ⟨rfl, rfl, h1, _, (digs B32 x).length, 0, rfl, Nat.le_refl _, ho, by simp, ok_replicate (by omega) _, ?_, hy, RN.nil, fun ad h => by cases h⟩
    rw [List.drop_eq_nil_of_le (Nat.le_refl _), List.drop_eq_nil_of_le (by simp)]; simp [val]
  · rintro t0 t1 rest out i w1 ⟨rfl, rfl, h1, l, j, r, rfl, hj, ho, hl, ol, hv, hr, hrest, hfr⟩
    refine br_intro (fun hge => ?_) (fun hlt => ?_)
    · have hj1 : 1 ≤ j := by simp at hge; omega
      obtain ⟨k, rfl⟩ : ∃ k, j = k + 1 := ⟨j - 1, by omega⟩
      have ei : (((k + 1 : Nat) : Int) - 1) = (k : Int) := by omega
      rw [ei]
      have hx := ok_getD oa (by omega : 0 < B32) k
      have hd := Ahead.drew w1
      have lr : (digs B32 r).length ≤ (digs B32 y).length := len_mono two32 (Nat.le_of_lt hr)
      have l2 : (digs B32 (r * 2 ^ 32)).length ≤ (digs B32 y).length + 1 := len_lt_of two32 (by rw [hB32, Nat.pow_one]; omega)
      obtain ⟨R, hR⟩ : ∃ R, R = r * 2 ^ 32 + (digs B32 x).getD k 0 := ⟨_, rfl⟩
      have hRy : R < y * 4294967296 := by
        have : (r + 1) * 4294967296 ≤ y * 4294967296 := Nat.mul_le_mul_right _ hr
        omega
      have l3 : (digs B32 R).length ≤ (digs B32 y).length + 1 := len_lt_of two32 (by rw [Nat.pow_one]; exact hRy)
      have lx : (digs B32 ((digs B32 x).getD k 0)).length ≤ 1 := digs_length_le two32 (by rw [Nat.pow_one]; exact hx)
      have okx : ok B32 [(digs B32 x).getD k 0] := by intro z hz; rw [List.mem_singleton.1 hz]; exact hx
      have vxk : val B32 [(digs B32 x).getD k 0] = (digs B32 x).getD k 0 := by simp only [val]; omega
      -- behind the addition
      have key : ∀ (s4 : Slc) (w5 : World), Ahead w1 w5 → RN w5 s4 R → (∀ ad, s4.A = some ad → w.heap.size < ad.block) →
          Calls pr surdref01_Cmp_id #[s4.v, t1.v] w5 fun e4 w6 => ∃ x2 : Int, e4 = .returned (Value.int .i64 x2) ∧ (br (decide (x2 ≥ 0)) (DivJ2 w t0 t1 x y out (k : Int) t0 t1 s4 out (k : Int) 0 31 w6)
            (semA pr (Instr.indexAt 32 out.v (.int .i64 (k : Int))) w6 fun ad4 w13 => stC ad4 (Value.int .u64 0) w13 fun w14 =>
              DivJ0 w t0 t1 x y t0 t1 s4 out (IntKind.i64.wrap ((k : Int) - 1)) w14 ∧ (IntKind.i64.wrap ((k : Int) - 1) + 1).toNat < ((k : Int) + 1).toNat)) := by
        intro s4 w5 h5 r4 f4
        have h05 := h1.trans h5
        refine Calls.mono (Cmp_spec r4 (RN.ahead hq h05) (by omega) (by omega)) ?_
        rintro e w6 ⟨h6, rfl⟩
        have h06 := h05.trans h6
        have ho6 := ho.ahead (h5.trans h6)
        refine ⟨_, rfl, br_intro (fun hc => ?_) (fun hc => ?_)⟩
        · refine ⟨rfl, rfl, rfl, rfl, h06, l, k, r, 0, 32, R, rfl, by omega, ho6, hl, ol, hv, rfl, rfl, Nat.le_refl _, by rw [hR, hB32]; omega, hRy, by omega, r4.ahead h6, f4⟩
        · have hlt : R < y := by
            have := cmpI_neg (m := R) (n := y)
            have hc' := of_decide_eq_false hc
            exact this.1 (by omega)
          exact step (t1 := t1) (Q := 0) h06 (by omega) ho6 hl ol hv (by rw [hR, hB32]; omega) hlt (by omega) (r4.ahead h6) f4
      refine ldNf (RN.ahead (RN.ahead hp h1) hd) (by omega) (by omega) ?_
      rw [Int.toNat_natCast]
      refine ⟨?_, ?_⟩
      · refine Calls.mono (Shl_spec (RN.ahead hrest hd) (by omega) (by omega) (by simp; omega)) ?_
        rintro e w2 ⟨h2, s2, rfl, r2⟩
        replace r2 : RN w2 s2 (r * 2 ^ 32) := r2
        refine ⟨_, rfl, h2, Ahead.alloc _ _, ?_⟩
        refine Calls.mono (norm_spec (one_rd w2 _) (by simp) okx) ?_
        rw [vxk]
        rintro e w4 ⟨rfl, s3, rfl, r3⟩
        refine ⟨_, rfl, Ahead.refl _, ?_⟩
        refine Calls.mono (Add_specN (RN.ahead r2 (Ahead.alloc _ _)) r3 (by omega) (by omega)) ?_
        rw [← hR]
        rintro e w5 ⟨h5, s4, rfl, r4, f4⟩
        have h25 := ((hd.trans h2).trans (Ahead.alloc _ _)).trans h5
        refine ⟨_, rfl, h5, key s4 w5 h25 r4 fun ad e => ?_⟩
        have q1 := f4 ad e
        rw [size_alloc] at q1
        have := ho.lt
        have := (hd.trans h2).size
        omega
      · refine ⟨Ahead.alloc _ _, ?_⟩
        have ha := (hd.trans (Ahead.alloc w1.drew (.cells #[.int .u64 (((digs B32 x).getD k 0 : Nat) : Int)] tU64 (0, 0))))
        refine Calls.mono (Shl_spec (RN.ahead hrest ha) (by omega) (by omega) (by simp; omega)) ?_
        rintro e w2 ⟨h2, s2, rfl, r2⟩
        replace r2 : RN w2 s2 (r * 2 ^ 32) := r2
        refine ⟨_, rfl, h2, ?_⟩
        refine Calls.mono (norm_spec ((one_rd w1.drew _).ahead h2) (by simp) okx) ?_
        rw [vxk]
        rintro e w4 ⟨rfl, s3, rfl, r3⟩
        refine ⟨_, rfl, Ahead.refl _, ?_⟩
        refine Calls.mono (Add_specN r2 r3 (by omega) (by omega)) ?_
        rw [← hR]
        rintro e w5 ⟨h5, s4, rfl, r4, f4⟩
        refine ⟨_, rfl, h5, key s4 w5 ((ha.trans h2).trans h5) r4 fun ad e => ?_⟩
        have q1 := f4 ad e
        have := ho.lt
        have q2 := h2.size
        rw [size_alloc] at q2
        have := hd.size
        omega
    · have hj0 : j = 0 := by simp at hlt; omega
      subst hj0
      rw [List.drop_zero, List.drop_zero, vx] at hv
      have hq' : val B32 l = x / y := by rw [hv, Nat.add_comm, Nat.add_mul_div_right _ _ hy, Nat.div_eq_of_lt hr]; omega
      have hm' : r = x % y := by rw [hv, Nat.add_comm, Nat.add_mul_mod_self_right, Nat.mod_eq_of_lt hr]
      refine Calls.mono (norm_spec ho.rd (by omega) ol) ?_
      rw [hq']
      rintro e w3 ⟨rfl, s', rfl, hr'⟩
      rw [hm'] at hrest
      exact ⟨_, rfl, h1, _, _, rfl, hr', hrest⟩
  · rintro o0 o1 orest oout oi ow _ t0 t1 rest out i t9 t10 w1 ⟨rfl, rfl, rfl, rfl, h1, l, j, r, Q, S, r', rfl, hj, ho, hl, ol, hv, rfl, rfl, hS, hR, hr', hQ, hrest, hfr⟩
    refine br_intro (fun hge => ?_) (fun hlt => ?_)
    · have hS1 : 1 ≤ S := by simp at hge; omega
      obtain ⟨s, rfl⟩ : ∃ s, S = s + 1 := ⟨S - 1, by omega⟩
      have es : (((s + 1 : Nat) : Int) - 1) = (s : Int) := by omega
      rw [es]
      have hp2 : 2 ^ (s + 1) = 2 * 2 ^ s := by rw [Nat.pow_succ]; omega
      have hpos : 0 < 2 ^ s := Nat.pow_pos (by omega)
      have hle32 : 2 ^ s ≤ 2 ^ 31 := Nat.pow_le_pow_right (by omega) (by omega)
      have hys : y * 2 ^ s < y * B32 ^ 1 := by
        rw [Nat.pow_one]; exact Nat.mul_lt_mul_of_pos_left (by omega) hy
      have ly := len_lt_of two32 hys
      have lr : (digs B32 r').length ≤ (digs B32 y).length + 1 := len_lt_of two32 (by
        rw [Nat.pow_one]
        exact Nat.lt_of_lt_of_le hr' (Nat.mul_le_mul_left _ (by omega)))
      refine Calls.mono (Shl_spec (RN.ahead hq h1) (by omega) (by omega) (by
        have : ((s : Int)).toNat / 32 = 0 := by omega
        omega)) ?_
      rw [Int.toNat_natCast]
      rintro e w7 ⟨h7, s5, rfl, r5⟩
      have h07 := h1.trans h7
      refine ⟨_, rfl, Calls.mono (Cmp_spec (hrest.ahead h7) r5 (by omega) (by omega)) ?_⟩
      rintro e w8 ⟨h8, rfl⟩
      have h08 := h07.trans h8
      have h18 := h7.trans h8
      rw [wrap_i64 (by omega) (by omega)]
      have hcm := cmpI_neg (m := r') (n := y * 2 ^ s)
      refine ⟨_, rfl, br_intro (fun hc => ?_) (fun hc => ?_)⟩
      · have hle : y * 2 ^ s ≤ r' := by
          rcases Nat.lt_or_ge r' (y * 2 ^ s) with h | h
          · have := hcm.2 h; have hc' := of_decide_eq_true hc; omega
          · exact h
        refine Calls.mono (Sub_specN (hrest.ahead h18) (r5.ahead h8) hle (by omega)) ?_
        rintro e w9 ⟨h9, s6, rfl, r6, f6⟩
        refine ⟨_, rfl, semShl (x := 1) (by omega) ?_⟩
        rw [Nat.one_mul, Nat.mod_eq_of_lt (by omega), wrap_u64' (by omega) (by omega), show (Q : Int) + ((2 ^ s : Nat) : Int) = ((Q + 2 ^ s : Nat) : Int) by omega]
        refine ⟨⟨rfl, rfl, rfl, rfl, h08.trans h9, l, j, r, Q + 2 ^ s, s, _, rfl, hj, ho.ahead (h18.trans h9), hl, ol, hv, rfl, rfl, by omega, ?_, ?_, by omega, r6, fun ad e => ?_⟩, by omega⟩
        · rw [hR, Nat.add_mul, Nat.mul_comm y]; rw [Nat.mul_comm y] at hle; omega
        · rw [hp2] at hr'
          have : y * (2 * 2 ^ s) = y * 2 ^ s + y * 2 ^ s := by rw [← Nat.mul_add]; congr 1; omega
          omega
        · have := f6 ad e
          have := ho.lt
          have := h18.size
          omega
      · have hlt' : r' < y * 2 ^ s := by
          have hc' := of_decide_eq_false hc
          exact hcm.1 (by omega)
        exact ⟨⟨rfl, rfl, rfl, rfl, h08, l, j, r, Q, s, _, rfl, hj, ho.ahead h18, hl, ol, hv, rfl, rfl, by omega, hR, hlt', by omega, hrest.ahead h18, hfr⟩, by omega⟩
    · have hS0 : S = 0 := by simp at hlt; omega
      subst hS0
      rw [Nat.pow_zero, Nat.mul_one] at hr'
      exact step (t1 := t1) h1 hj ho hl ol hv hR hr' (by rw [hB32]; omega) hrest hfr

end Ref
end Go.Proofs.YtbeiopoejdkheaaGreatDoor
namespace Go.Proofs.YtbeiopoejdkheaaGreatDoor
open Go Go.RowKit Eng
set_option linter.unusedVariables false

def surdref01_Num_Tail_cut (J0 : Slc → Int → World → Prop) (m0 : Slc → Int → World → Nat) : Nat → Option ((Act → World → Prop) × (Act → World → Nat))
  | 0 => some (fun a_ w_ => atSz a_ 14 (atS a_ 0 fun t0_a => atI .i64 a_ 3 fun t3_n => J0 t0_a t3_n w_), fun a_ w_ => mS a_ 0 fun t0_a => mI a_ 3 fun t3_n => m0 t0_a t3_n w_)
  | _ => none

set_option maxRecDepth 100000 in
/-- (surd/surdref01.Num).Tail: function 53. -/
theorem surdref01_Num_Tail_vc (a0_a : Slc) (w : World) (R : Ending → World → Prop)
    (J0 : Slc → Int → World → Prop) (m0 : Slc → Int → World → Nat)
    (h : br ((a0_a.n : Int) == 0)
    (R (.returned (Value.int .i64 0)) w)
    (J0 a0_a 0 w))
    (h0 : ∀ (t0_a : Slc) (t3_n : Int) (w_ : World), J0 t0_a t3_n w_ → 
    Calls Tryz.prog 97 #[t0_a.v, Value.int .i64 t3_n] w_ fun e1 w1 =>
    ∃ x1 : Int, e1 = .returned (Value.int .i64 x1) ∧
    (br (x1 == 0)
     (J0 t0_a (IntKind.i64.wrap (t3_n + 1)) w1 ∧
      m0 t0_a (IntKind.i64.wrap (t3_n + 1)) w1 < m0 t0_a t3_n w_)
     (R (.returned (Value.int .i64 t3_n)) w1))) :
    Calls Tryz.prog 53 #[a0_a.v] w R := by
  refine calls_of_vc (surdref01_Num_Tail_cut J0 m0) (by kernel_rfl) Tryz.func53 rfl ?_ ?_
  · refine kcast h ?_; kernel_rfl
  · exact (obl_seq rfl (obl_reg (obl_seq rfl (obl_seq rfl (obl_reg (obl_cond (obl_seq rfl (obl_reg (obl_ret (obl_skip (obl_seq rfl (obl_reg (obl_seq rfl (obl_loop _ rfl (fun a_ w_ hL_ => (by
    obtain ⟨hz_, hd_, hL_⟩ := atSz_out hL_
    obtain ⟨t0_a, h0_, hL_⟩ := atS_out hL_
    obtain ⟨t3_n, h3_, hL_⟩ := atI_out hL_
    obtain ⟨g0, rfl⟩ : ∃ g, a_ = Fr 14 [(0, t0_a.v), (3, Value.int .i64 t3_n)] g := ⟨_, fr_of hz_ hd_ [(0, t0_a.v), (3, Value.int .i64 t3_n)] (sel_cons h0_ (sel_cons h3_ sel_nil))⟩
    clear hz_ hd_ h0_ h3_
    have hJ0_ := hL_
    refine ⟨(fun _ => none), kcast (h0 t0_a t3_n w_ hJ0_) ?_, ?_⟩
    · kernel_rfl
    · exact (obl_seq rfl (obl_seq rfl (obl_reg (obl_cond (obl_skip (obl_exit (obl_blk rfl (obl_reg trivial)))))))))) (obl_seq rfl (obl_reg (obl_ret trivial)))))))))))))))))

end Go.Proofs.YtbeiopoejdkheaaGreatDoor
namespace Go.Proofs.YtbeiopoejdkheaaGreatDoor
open Go Go.RowKit Eng Sp Dg
set_option linter.unusedVariables false
set_option linter.unusedSimpArgs false
set_option maxRecDepth 100000
namespace Dy
open _root_.Go.Proofs.YtbeiopoejdkheaaGreatDoor.Nat (ldN OwnNil Num Num.bl OwnNil.mono bigC bigC_ok semShr digs_len_bl Yes andI_nat num_of)
open _root_.Go.Proofs.YtbeiopoejdkheaaGreatDoor.Ref (RN RN.nil Of_spec Len_spec zero_spec Shr_spec Int_spec tdiv32 tmod32)
open Sb

theorem bit_digit (U s : Nat) (hs : s < 32) : U % 2 ^ 32 / 2 ^ s % 2 = U / 2 ^ s % 2 := by
  have h : (2 : Nat) ^ 32 = 2 ^ s * (2 * 2 ^ (31 - s)) := by rw [← Nat.pow_succ', ← Nat.pow_add]; congr 1; omega
  rw [h, Nat.mod_mul_right_div_self, Nat.mod_mul_right_mod]
theorem Bit_spec {w : World} {s : Slc} {x : Nat} {i : Nat} (h : RN w s x) (hl : (digs B32 x).length ≤ 2 ^ 46) (hi : i ≤ 9223372036854775807) :
    Calls pr surdref01_Num_Bit_id #[s.v, .int .i64 (i : Int)] w fun e w' => w' = w ∧ e = .returned (.int .i64 ((x / 2 ^ i % 2 : Nat) : Int)) := by
  have hn := h.n
  have ox := ok_digs two32 x
  have vx := val_digs two32 x
  have hB := B32v
  have hp2 : B32 ^ (i / 32) * 2 ^ (i % 32) = 2 ^ i := (pow_split i 32).symm
  have hx : x / 2 ^ i % 2 = (digs B32 x).getD (i / 32) 0 / 2 ^ (i % 32) % 2 := by
    rw [digit (by omega : 0 < B32) _ ox (i / 32), vx, ← hp2, ← Nat.div_div_eq_div_mul, show B32 = 2 ^ 32 from rfl, bit_digit _ _ (Nat.mod_lt _ (by omega))]
  have e0 : ((i : Int)).toNat = i := by omega
  unfold RN at h
  refine surdref01_Num_Bit_vc s i w _ (br_false (by simp) ?_)
  rw [tdiv32 (by omega) (by omega), tmod32 (by omega), e0]
  refine br_intro (fun hb => ?_) (fun hb => ?_)
  · refine ⟨rfl, ?_⟩
    have hb' : (digs B32 x).length ≤ i / 32 := by simp at hb; omega
    rw [hx, getD_ge _ 0 hb']
    simp
  · have hb' : i / 32 < (digs B32 x).length := by simp at hb; omega
    refine ldN h (by omega) (by omega) ?_
    refine semShr (by omega) ?_
    rw [Int.toNat_natCast]
    have hlt := ok_getD ox (by omega : 0 < B32) (i / 32)
    generalize (digs B32 x).getD (i / 32) 0 = d at *
    have hd : d / 2 ^ (i % 32) < B64 := Nat.lt_of_le_of_lt (Nat.div_le_self _ _) (by rw [B64v]; omega)
    rw [show (1 : Int) = ((1 : Nat) : Int) from rfl, andI_nat hd (by rw [B64v]; omega), Nat.and_one_is_mod, hx, wrap_i64 (by omega) (by omega)]
    exact ⟨rfl, rfl⟩

theorem rTail_spec {w : World} {s : Slc} {x : Nat} (h : RN w s x) (hl : (digs B32 x).length ≤ 2 ^ 46) :
    Calls pr surdref01_Num_Tail_id #[s.v] w fun e w' => w' = w ∧ e = .returned (.int .i64 (tz x)) := by
  have hn := h.n
  have hbl : bl x ≤ 2 ^ 51 := by
    have := Ref.bl_len32 (ok_digs two32 x)
    rw [val_digs two32] at this
    omega
  refine surdref01_Num_Tail_vc s w _ (fun t n w' => t = s ∧ w' = w ∧ x ≠ 0 ∧ ∃ j : Nat, n = (j : Int) ∧ j ≤ tz x) (fun _ n _ => (tz x - n).toNat) ?_ ?_
  · refine br_intro (fun hz => ?_) (fun hz => ?_)
    · have hx : x = 0 := by
        have : (digs B32 x).length = 0 := by simp at hz; omega
        rw [← val_digs two32 x, List.length_eq_zero_iff.1 this]; rfl
      subst hx
      exact ⟨rfl, by rw [tz_zero]; rfl⟩
    · refine ⟨rfl, rfl, fun e => ?_, 0, rfl, Nat.zero_le _⟩
      rw [e, digs_zero] at hn
      rw [hn] at hz
      simp at hz
  · rintro t n w1 ⟨rfl, rfl, hx, j, rfl, hj⟩
    have htz := tz_lt hx
    refine Calls.mono (Bit_spec h hl (by omega)) ?_
    rintro e w2 ⟨rfl, rfl⟩
    have e8 : IntKind.i64.wrap ((j : Int) + 1) = ((j + 1 : Nat) : Int) := by rw [wrap_i64 (by omega) (by omega)]; omega
    have hxj : x / 2 ^ j = 2 ^ (tz x - j) * od x := by
      have h1 := od_mul x
      have hp : 0 < 2 ^ j := Nat.pow_pos (by omega)
      conv => lhs; rw [← h1, show tz x = j + (tz x - j) by omega, Nat.pow_add, Nat.mul_assoc]
      rw [Nat.mul_div_cancel_left _ hp]
    refine ⟨_, rfl, br_intro (fun hb => ?_) (fun hb => ?_)⟩
    · have hne : j ≠ tz x := by
        intro he
        rw [hxj, he, Nat.sub_self, Nat.pow_zero, Nat.one_mul, od_odd hx] at hb
        simp at hb
      exact ⟨⟨rfl, rfl, hx, j + 1, e8, by omega⟩, by rw [e8]; omega⟩
    · have he : j = tz x := by
        rcases Nat.lt_or_ge j (tz x) with hlt | hge
        · exfalso
          rw [hxj, show tz x - j = (tz x - j - 1) + 1 by omega, Nat.pow_succ, Nat.mul_comm (2 ^ _), Nat.mul_assoc, Nat.mul_mod_right] at hb
          simp at hb
        · omega
      subst he
      exact ⟨rfl, rfl⟩

/-- Told, of a dyadic in lowest terms. -/
def tK (n : Nat) (e : Int) : Int := if 67108864 < bl n then 3 else if wi e then 0 else 80

end Dy
end Go.Proofs.YtbeiopoejdkheaaGreatDoor
namespace Go.Proofs.YtbeiopoejdkheaaGreatDoor
open Go Go.RowKit Eng Sp Dg
set_option linter.unusedVariables false
set_option linter.unusedSimpArgs false
set_option maxRecDepth 100000
namespace Dg
theorem bit_digit64 (U s : Nat) (hs : s < 64) : U % 2 ^ 64 / 2 ^ s % 2 = U / 2 ^ s % 2 := by
  have h : (2 : Nat) ^ 64 = 2 ^ s * (2 * 2 ^ (63 - s)) := by rw [← Nat.pow_succ', ← Nat.pow_add]; congr 1; omega
  rw [h, Nat.mod_mul_right_div_self, Nat.mod_mul_right_mod]
end Dg
namespace Nat
open _root_.Go.Proofs.YtbeiopoejdkheaaGreatDoor.Dy (tdivN tmodN)

theorem nBit_spec {w : World} {s : Slc} {l : List Nat} {i : Nat} (h : Rd .u64 w s (nn l)) (hl : l.length ≤ 2 ^ 46) (ol : ok B64 l) (hi : i ≤ 9223372036854775807) :
    Calls pr nat_Bit_id #[s.v, .int .i64 (i : Int)] w fun e w' => w' = w ∧ e = .returned (.int .i64 ((val B64 l / 2 ^ i % 2 : Nat) : Int)) := by
  have hn : s.n = l.length := by rw [h.n, nn_length]
  have hB := B64v
  have hp2 : B64 ^ (i / 64) * 2 ^ (i % 64) = 2 ^ i := (pow_split i 64).symm
  have hx : val B64 l / 2 ^ i % 2 = l.getD (i / 64) 0 / 2 ^ (i % 64) % 2 := by
    rw [digit (by omega : 0 < B64) _ ol (i / 64), ← hp2, ← Nat.div_div_eq_div_mul, show B64 = 2 ^ 64 from rfl, bit_digit64 _ _ (Nat.mod_lt _ (by omega))]
  refine nat_Bit_vc s i w _ (br_false (by simp) ?_)
  rw [tdivN (by omega), tmodN]
  refine br_intro (fun hb => ?_) (fun hb => ?_)
  · refine ⟨rfl, ?_⟩
    have hb' : l.length ≤ i / 64 := by simp at hb; omega
    rw [hx, getD_ge _ 0 hb']
    simp
  · have hb' : i / 64 < l.length := by simp at hb; omega
    refine ldN h (by omega) (by omega) ?_
    refine semShr (by omega) ?_
    rw [Int.toNat_natCast]
    have hlt := ok_getD ol (by omega : 0 < B64) (i / 64)
    generalize l.getD (i / 64) 0 = d at *
    have hd : d / 2 ^ (i % 64) < B64 := Nat.lt_of_le_of_lt (Nat.div_le_self _ _) hlt
    rw [show (1 : Int) = ((1 : Nat) : Int) from rfl, andI_nat hd (by omega), Nat.and_one_is_mod, hx, wrap_i64 (by omega) (by omega)]
    exact ⟨rfl, rfl⟩

end Nat
end Go.Proofs.YtbeiopoejdkheaaGreatDoor
namespace Go.Proofs.YtbeiopoejdkheaaGreatDoor
open Go Go.RowKit Eng Sp Dg
set_option linter.unusedVariables false
set_option linter.unusedSimpArgs false
namespace L2

/-- Types of rows: no local variable's block has such a type. -/
def rowTy (t : TypeId) : Bool := t == tU64 || t == tInt || t == tU64s || t == tInts || t == 40 || t == 37
def noU (cs : Array Value) : Bool := cs.toList.all fun v => match v with
  | .int .u64 _ => false
  | _ => true
/-- The block's cells. -/
def Blt (w : World) (b : Nat) (t : TypeId) (cs : Array Value) : Prop := w.heap[b]? = some (Obj.cells cs t (0, 0))
/-- Rows of numbers stay, and every limb. -/
structure Ext (w w' : World) : Prop where
  size : w.heap.size ≤ w'.heap.size
  row : ∀ (k : Nat) (cs : Array Value) (t : TypeId) (m : Nat × Nat), w.heap[k]? = some (Obj.cells cs t m) → rowTy t = true → w'.heap[k]? = some (Obj.cells cs t m)
  cell : ∀ (ad : Addr) (x : Int), w.cell? ad = some (.int .u64 x) → w'.cell? ad = some (.int .u64 x)
theorem Ext.refl (w : World) : Ext w w := ⟨Nat.le_refl _, fun _ _ _ _ h _ => h, fun _ _ h => h⟩
theorem Ext.trans {a b c : World} (h : Ext a b) (k : Ext b c) : Ext a c :=
  ⟨Nat.le_trans h.size k.size, fun i cs t m hi ht => k.row i cs t m (h.row i cs t m hi ht) ht, fun ad x hx => k.cell ad x (h.cell ad x hx)⟩
theorem Ext.of_ahead {a b : World} (h : Ahead a b) : Ext a b :=
  ⟨h.size, fun k cs t m hk _ => by rw [Below.block h k (Array.getElem?_eq_some_iff.1 hk).1]; exact hk, fun ad x hx => h.cell hx⟩
theorem _root_.Go.Proofs.YtbeiopoejdkheaaGreatDoor.Eng.Ahead.ext {a b : World} (h : Ahead a b) : Ext a b := Ext.of_ahead h

theorem Blt.lt {w : World} {b : Nat} {t : TypeId} {cs : Array Value} (h : Blt w b t cs) : b < w.heap.size := (Array.getElem?_eq_some_iff.1 h).1
theorem Blt.ahead {w w' : World} {b : Nat} {t : TypeId} {cs : Array Value} (h : Blt w b t cs) (ha : Ahead w w') : Blt w' b t cs := by
  unfold Blt; rw [Below.block ha b h.lt]; exact h
theorem Blt.bar {V : Nat → Prop} {w w' : World} {b : Nat} {t : TypeId} {cs : Array Value} (h : Blt w b t cs) (hb : Bar V w w') (hv : ¬ V b) : Blt w' b t cs := by
  unfold Blt; rw [hb.block b h.lt hv]; exact h
theorem Blt.cell {w : World} {b i : Nat} {t : TypeId} {cs : Array Value} {v : Value} (h : Blt w b t cs) (hc : cs[i]? = some v) : w.cell? ⟨b, i, none⟩ = some v := by
  unfold Blt at h
  simp [World.cell?, h, hc]

theorem newC_t {w : World} {cs : Array Value} {t : TypeId} {K : Addr → World → Prop} (h : ∀ b w', b = w.heap.size → Ahead w w' → w'.heap.size = b + 1 → Blt w' b t cs → K ⟨b, 0, none⟩ w') : newC w cs t K :=
  h _ _ rfl (Ahead.alloc _ _) (size_alloc _ _) (get_alloc _ _)
theorem newC_map {w : World} {cs : Array Value} {t : TypeId} {K K' : Addr → World → Prop} (h : newC w cs t K) (hk : ∀ ad w', Ahead w w' → K ad w' → K' ad w') : newC w cs t K' :=
  hk _ _ (Ahead.alloc _ _) h

/-- Nothing but the block has changed; it holds no limb, before and behind. -/
structure Upt (b : Nat) (w w' : World) : Prop where
  os : w'.os = w.os
  tape : w'.tape = w.tape
  output : w'.output = w.output
  size : w'.heap.size = w.heap.size
  block : ∀ k, k ≠ b → w'.heap[k]? = w.heap[k]?
  ext : Ext w w'
theorem Upt.trans {b : Nat} {x y z : World} (h : Upt b x y) (k : Upt b y z) : Upt b x z :=
  ⟨k.os.trans h.os, k.tape.trans h.tape, k.output.trans h.output, k.size.trans h.size, fun i hi => (k.block i hi).trans (h.block i hi), h.ext.trans k.ext⟩
theorem Upt.ahead {b : Nat} {w0 w w' : World} (h : Upt b w w') (ha : Ahead w0 w) (hb : w0.heap.size ≤ b) : Ahead w0 w' :=
  Below.trans ha ⟨h.os, h.tape, h.output, Nat.le_of_eq h.size.symm, fun k hk => h.block k (by omega)⟩
theorem Upt.blt {b k : Nat} {w w' : World} {t : TypeId} {cs : Array Value} (h : Upt k w w') (hr : Blt w b t cs) (hne : b ≠ k) : Blt w' b t cs := by
  unfold Blt; rw [h.block b hne]; exact hr
theorem Upt.bar {b : Nat} {V : Nat → Prop} {w w' : World} (h : Upt b w w') (hv : V b) : Bar V w w' :=
  ⟨h.os, h.tape, h.output, Nat.le_of_eq h.size.symm, fun k _ hk => h.block k fun e => hk (e ▸ hv)⟩

theorem no_limb {w : World} {b : Nat} {t : TypeId} {cs : Array Value} (h : Blt w b t cs) (hn : noU cs = true) (ad : Addr) (x : Int) (hc : w.cell? ad = some (.int .u64 x)) : ad.block ≠ b := by
  intro hb
  unfold Blt at h
  rw [World.cell?, hb, h] at hc
  simp only at hc
  split at hc
  · cases hc
  · have hm := Array.mem_of_getElem? hc
    unfold noU at hn
    have := List.all_eq_true.1 hn _ (Array.mem_toList_iff.2 hm)
    simp at this

theorem stC_t (i : Nat) {w : World} {b : Nat} {t : TypeId} {cs : Array Value} {ad : Addr} {v : Value} {K : World → Prop} (h : Blt w b t cs) (hi : Nat.blt i cs.size = true) (hn : noU cs = true) (ht : rowTy t = false)
    (hk : ∀ w', Upt b w w' → Blt w' b t (cs.setIfInBounds i v) → K w') (hA : ad = ⟨b, i, none⟩ := by first | rfl | exact add_off) : stC ad v w K := by
  subst hA
  have hi' : i < cs.size := by simpa [Nat.blt_eq] using hi
  have hh : w.heap[b]? = some (Obj.cells cs t (0, 0)) := h
  have hlt := (Array.getElem?_eq_some_iff.1 hh).1
  have hget := (Array.getElem?_eq_some_iff.1 hh).2
  have hblk : ∀ k, k ≠ b → (w.setCell ⟨b, i, none⟩ v).heap[k]? = w.heap[k]? := fun k hk => Below.heap_setCell _ _ _ _ hk
  refine ⟨⟨cs[i], by simp [World.cell?, hh, hi']⟩, by simp [World.frozen?, hh], hk _ ⟨rfl, rfl, rfl, by simp [World.setCell], hblk, ⟨by simp [World.setCell], fun k cs' t' m hk' ht' => ?_, fun ad x hx => ?_⟩⟩ ?_⟩
  · by_cases e : k = b
    · subst e
      rw [hh] at hk'
      have := Option.some.inj hk'
      injection this with h1 h2 h3
      subst h2
      rw [ht] at ht'
      cases ht'
    · rw [hblk k e]; exact hk'
  · have hne := no_limb h hn ad x hx
    rw [World.cell?_of_block (hblk _ hne)]; exact hx
  · unfold Blt
    simp [World.setCell, Array.getElem?_modify, hh]

theorem nl {a b : Nat} (h : a < b) : a ≠ b := Nat.ne_of_lt h
theorem ng {a b : Nat} (h : b < a) : a ≠ b := Nat.ne_of_gt h
theorem nd {a b : Nat} {P : Prop} (h : P) (d : a ≠ b := by first | exact nl (by assumption) | exact ng (by assumption) | assumption | exact Ne.symm (by assumption) | omega) : a ≠ b ∧ P := ⟨d, h⟩
theorem up1 {k : Nat} {w w' : World} (u : Upt k w w') {b1 : Nat} {t1 : TypeId} {c1 : Array Value} (h1 : Blt w b1 t1 c1) (d : b1 ≠ k := by first | exact nl (by assumption) | exact ng (by assumption) | assumption | exact Ne.symm (by assumption) | omega) : Blt w' b1 t1 c1 := u.blt h1 d
theorem lt1 {b : Nat} {w : World} (e : b = w.heap.size) {b1 : Nat} {t1 : TypeId} {c1 : Array Value} (h1 : Blt w b1 t1 c1) : b1 < b := by
  subst e
  exact h1.lt
theorem ah2 {w w' : World} (a : Ahead w w') {b1 b2 : Nat} {t1 t2 : TypeId} {c1 c2 : Array Value} (h1 : Blt w b1 t1 c1) (h2 : Blt w b2 t2 c2) : Blt w' b1 t1 c1 ∧ Blt w' b2 t2 c2 := ⟨h1.ahead a, h2.ahead a⟩
theorem up2 {k : Nat} {w w' : World} (u : Upt k w w') {b1 b2 : Nat} {t1 t2 : TypeId} {c1 c2 : Array Value} (h1 : Blt w b1 t1 c1) (h2 : Blt w b2 t2 c2) (d : b1 ≠ k ∧ b2 ≠ k := by refine ⟨?_, ?_⟩ <;> first | exact nl (by assumption) | exact ng (by assumption) | assumption | exact Ne.symm (by assumption) | omega) : Blt w' b1 t1 c1 ∧ Blt w' b2 t2 c2 := by
  obtain ⟨d1, d2⟩ := d
  exact ⟨u.blt h1 d1, u.blt h2 d2⟩
theorem lt2 {b : Nat} {w : World} (e : b = w.heap.size) {b1 b2 : Nat} {t1 t2 : TypeId} {c1 c2 : Array Value} (h1 : Blt w b1 t1 c1) (h2 : Blt w b2 t2 c2) : b1 < b ∧ b2 < b := by
  subst e
  exact ⟨h1.lt, h2.lt⟩
theorem ah3 {w w' : World} (a : Ahead w w') {b1 b2 b3 : Nat} {t1 t2 t3 : TypeId} {c1 c2 c3 : Array Value} (h1 : Blt w b1 t1 c1) (h2 : Blt w b2 t2 c2) (h3 : Blt w b3 t3 c3) : Blt w' b1 t1 c1 ∧ Blt w' b2 t2 c2 ∧ Blt w' b3 t3 c3 := ⟨h1.ahead a, h2.ahead a, h3.ahead a⟩
theorem up3 {k : Nat} {w w' : World} (u : Upt k w w') {b1 b2 b3 : Nat} {t1 t2 t3 : TypeId} {c1 c2 c3 : Array Value} (h1 : Blt w b1 t1 c1) (h2 : Blt w b2 t2 c2) (h3 : Blt w b3 t3 c3) (d : b1 ≠ k ∧ b2 ≠ k ∧ b3 ≠ k := by refine ⟨?_, ?_, ?_⟩ <;> first | exact nl (by assumption) | exact ng (by assumption) | assumption | exact Ne.symm (by assumption) | omega) : Blt w' b1 t1 c1 ∧ Blt w' b2 t2 c2 ∧ Blt w' b3 t3 c3 := by
  obtain ⟨d1, d2, d3⟩ := d
  exact ⟨u.blt h1 d1, u.blt h2 d2, u.blt h3 d3⟩
theorem lt3 {b : Nat} {w : World} (e : b = w.heap.size) {b1 b2 b3 : Nat} {t1 t2 t3 : TypeId} {c1 c2 c3 : Array Value} (h1 : Blt w b1 t1 c1) (h2 : Blt w b2 t2 c2) (h3 : Blt w b3 t3 c3) : b1 < b ∧ b2 < b ∧ b3 < b := by
  subst e
  exact ⟨h1.lt, h2.lt, h3.lt⟩
theorem ah4 {w w' : World} (a : Ahead w w') {b1 b2 b3 b4 : Nat} {t1 t2 t3 t4 : TypeId} {c1 c2 c3 c4 : Array Value} (h1 : Blt w b1 t1 c1) (h2 : Blt w b2 t2 c2) (h3 : Blt w b3 t3 c3) (h4 : Blt w b4 t4 c4) : Blt w' b1 t1 c1 ∧ Blt w' b2 t2 c2 ∧ Blt w' b3 t3 c3 ∧ Blt w' b4 t4 c4 := ⟨h1.ahead a, h2.ahead a, h3.ahead a, h4.ahead a⟩
theorem up4 {k : Nat} {w w' : World} (u : Upt k w w') {b1 b2 b3 b4 : Nat} {t1 t2 t3 t4 : TypeId} {c1 c2 c3 c4 : Array Value} (h1 : Blt w b1 t1 c1) (h2 : Blt w b2 t2 c2) (h3 : Blt w b3 t3 c3) (h4 : Blt w b4 t4 c4) (d : b1 ≠ k ∧ b2 ≠ k ∧ b3 ≠ k ∧ b4 ≠ k := by refine ⟨?_, ?_, ?_, ?_⟩ <;> first | exact nl (by assumption) | exact ng (by assumption) | assumption | exact Ne.symm (by assumption) | omega) : Blt w' b1 t1 c1 ∧ Blt w' b2 t2 c2 ∧ Blt w' b3 t3 c3 ∧ Blt w' b4 t4 c4 := by
  obtain ⟨d1, d2, d3, d4⟩ := d
  exact ⟨u.blt h1 d1, u.blt h2 d2, u.blt h3 d3, u.blt h4 d4⟩
theorem lt4 {b : Nat} {w : World} (e : b = w.heap.size) {b1 b2 b3 b4 : Nat} {t1 t2 t3 t4 : TypeId} {c1 c2 c3 c4 : Array Value} (h1 : Blt w b1 t1 c1) (h2 : Blt w b2 t2 c2) (h3 : Blt w b3 t3 c3) (h4 : Blt w b4 t4 c4) : b1 < b ∧ b2 < b ∧ b3 < b ∧ b4 < b := by
  subst e
  exact ⟨h1.lt, h2.lt, h3.lt, h4.lt⟩
theorem ah5 {w w' : World} (a : Ahead w w') {b1 b2 b3 b4 b5 : Nat} {t1 t2 t3 t4 t5 : TypeId} {c1 c2 c3 c4 c5 : Array Value} (h1 : Blt w b1 t1 c1) (h2 : Blt w b2 t2 c2) (h3 : Blt w b3 t3 c3) (h4 : Blt w b4 t4 c4) (h5 : Blt w b5 t5 c5) : Blt w' b1 t1 c1 ∧ Blt w' b2 t2 c2 ∧ Blt w' b3 t3 c3 ∧ Blt w' b4 t4 c4 ∧ Blt w' b5 t5 c5 := ⟨h1.ahead a, h2.ahead a, h3.ahead a, h4.ahead a, h5.ahead a⟩
theorem up5 {k : Nat} {w w' : World} (u : Upt k w w') {b1 b2 b3 b4 b5 : Nat} {t1 t2 t3 t4 t5 : TypeId} {c1 c2 c3 c4 c5 : Array Value} (h1 : Blt w b1 t1 c1) (h2 : Blt w b2 t2 c2) (h3 : Blt w b3 t3 c3) (h4 : Blt w b4 t4 c4) (h5 : Blt w b5 t5 c5) (d : b1 ≠ k ∧ b2 ≠ k ∧ b3 ≠ k ∧ b4 ≠ k ∧ b5 ≠ k := by refine ⟨?_, ?_, ?_, ?_, ?_⟩ <;> first | exact nl (by assumption) | exact ng (by assumption) | assumption | exact Ne.symm (by assumption) | omega) : Blt w' b1 t1 c1 ∧ Blt w' b2 t2 c2 ∧ Blt w' b3 t3 c3 ∧ Blt w' b4 t4 c4 ∧ Blt w' b5 t5 c5 := by
  obtain ⟨d1, d2, d3, d4, d5⟩ := d
  exact ⟨u.blt h1 d1, u.blt h2 d2, u.blt h3 d3, u.blt h4 d4, u.blt h5 d5⟩
theorem lt5 {b : Nat} {w : World} (e : b = w.heap.size) {b1 b2 b3 b4 b5 : Nat} {t1 t2 t3 t4 t5 : TypeId} {c1 c2 c3 c4 c5 : Array Value} (h1 : Blt w b1 t1 c1) (h2 : Blt w b2 t2 c2) (h3 : Blt w b3 t3 c3) (h4 : Blt w b4 t4 c4) (h5 : Blt w b5 t5 c5) : b1 < b ∧ b2 < b ∧ b3 < b ∧ b4 < b ∧ b5 < b := by
  subst e
  exact ⟨h1.lt, h2.lt, h3.lt, h4.lt, h5.lt⟩
theorem ah6 {w w' : World} (a : Ahead w w') {b1 b2 b3 b4 b5 b6 : Nat} {t1 t2 t3 t4 t5 t6 : TypeId} {c1 c2 c3 c4 c5 c6 : Array Value} (h1 : Blt w b1 t1 c1) (h2 : Blt w b2 t2 c2) (h3 : Blt w b3 t3 c3) (h4 : Blt w b4 t4 c4) (h5 : Blt w b5 t5 c5) (h6 : Blt w b6 t6 c6) : Blt w' b1 t1 c1 ∧ Blt w' b2 t2 c2 ∧ Blt w' b3 t3 c3 ∧ Blt w' b4 t4 c4 ∧ Blt w' b5 t5 c5 ∧ Blt w' b6 t6 c6 := ⟨h1.ahead a, h2.ahead a, h3.ahead a, h4.ahead a, h5.ahead a, h6.ahead a⟩
theorem up6 {k : Nat} {w w' : World} (u : Upt k w w') {b1 b2 b3 b4 b5 b6 : Nat} {t1 t2 t3 t4 t5 t6 : TypeId} {c1 c2 c3 c4 c5 c6 : Array Value} (h1 : Blt w b1 t1 c1) (h2 : Blt w b2 t2 c2) (h3 : Blt w b3 t3 c3) (h4 : Blt w b4 t4 c4) (h5 : Blt w b5 t5 c5) (h6 : Blt w b6 t6 c6) (d : b1 ≠ k ∧ b2 ≠ k ∧ b3 ≠ k ∧ b4 ≠ k ∧ b5 ≠ k ∧ b6 ≠ k := by refine ⟨?_, ?_, ?_, ?_, ?_, ?_⟩ <;> first | exact nl (by assumption) | exact ng (by assumption) | assumption | exact Ne.symm (by assumption) | omega) : Blt w' b1 t1 c1 ∧ Blt w' b2 t2 c2 ∧ Blt w' b3 t3 c3 ∧ Blt w' b4 t4 c4 ∧ Blt w' b5 t5 c5 ∧ Blt w' b6 t6 c6 := by
  obtain ⟨d1, d2, d3, d4, d5, d6⟩ := d
  exact ⟨u.blt h1 d1, u.blt h2 d2, u.blt h3 d3, u.blt h4 d4, u.blt h5 d5, u.blt h6 d6⟩
theorem lt6 {b : Nat} {w : World} (e : b = w.heap.size) {b1 b2 b3 b4 b5 b6 : Nat} {t1 t2 t3 t4 t5 t6 : TypeId} {c1 c2 c3 c4 c5 c6 : Array Value} (h1 : Blt w b1 t1 c1) (h2 : Blt w b2 t2 c2) (h3 : Blt w b3 t3 c3) (h4 : Blt w b4 t4 c4) (h5 : Blt w b5 t5 c5) (h6 : Blt w b6 t6 c6) : b1 < b ∧ b2 < b ∧ b3 < b ∧ b4 < b ∧ b5 < b ∧ b6 < b := by
  subst e
  exact ⟨h1.lt, h2.lt, h3.lt, h4.lt, h5.lt, h6.lt⟩
theorem ah7 {w w' : World} (a : Ahead w w') {b1 b2 b3 b4 b5 b6 b7 : Nat} {t1 t2 t3 t4 t5 t6 t7 : TypeId} {c1 c2 c3 c4 c5 c6 c7 : Array Value} (h1 : Blt w b1 t1 c1) (h2 : Blt w b2 t2 c2) (h3 : Blt w b3 t3 c3) (h4 : Blt w b4 t4 c4) (h5 : Blt w b5 t5 c5) (h6 : Blt w b6 t6 c6) (h7 : Blt w b7 t7 c7) : Blt w' b1 t1 c1 ∧ Blt w' b2 t2 c2 ∧ Blt w' b3 t3 c3 ∧ Blt w' b4 t4 c4 ∧ Blt w' b5 t5 c5 ∧ Blt w' b6 t6 c6 ∧ Blt w' b7 t7 c7 := ⟨h1.ahead a, h2.ahead a, h3.ahead a, h4.ahead a, h5.ahead a, h6.ahead a, h7.ahead a⟩
theorem st2_t {w : World} {b : Nat} {t : TypeId} {c0 c1 v0 v1 : Value} {ad0 ad1 : Addr} {K : World → Prop} (h : Blt w b t #[c0, c1]) (n0 : noU #[c0, c1] = true) (n1 : noU #[v0, c1] = true) (ht : rowTy t = false)
    (hk : ∀ w', Upt b w w' → Blt w' b t #[v0, v1] → K w') (hA0 : ad0 = ⟨b, 0, none⟩ := by first | rfl | exact add_off) (hA1 : ad1 = ⟨b, 1, none⟩ := by first | rfl | exact add_off) : stC ad0 v0 w fun w1 => stC ad1 v1 w1 K :=
  stC_t 0 h rfl n0 ht (fun w1 u1 h1 => stC_t 1 (show Blt w1 b t #[v0, c1] from h1) rfl n1 ht (fun w2 u2 h2 => hk w2 (u1.trans u2) h2) hA1) hA0
theorem st3_t {w : World} {b : Nat} {t : TypeId} {c0 c1 c2 v0 v1 v2 : Value} {ad0 ad1 ad2 : Addr} {K : World → Prop} (h : Blt w b t #[c0, c1, c2]) (n0 : noU #[c0, c1, c2] = true) (n1 : noU #[v0, c1, c2] = true) (n2 : noU #[v0, v1, c2] = true) (ht : rowTy t = false)
    (hk : ∀ w', Upt b w w' → Blt w' b t #[v0, v1, v2] → K w') (hA0 : ad0 = ⟨b, 0, none⟩ := by first | rfl | exact add_off) (hA1 : ad1 = ⟨b, 1, none⟩ := by first | rfl | exact add_off) (hA2 : ad2 = ⟨b, 2, none⟩ := by first | rfl | exact add_off) : stC ad0 v0 w fun w1 => stC ad1 v1 w1 fun w2 => stC ad2 v2 w2 K :=
  stC_t 0 h rfl n0 ht (fun w1 u1 h1 => stC_t 1 (show Blt w1 b t #[v0, c1, c2] from h1) rfl n1 ht (fun w2 u2 h2 => stC_t 2 (show Blt w2 b t #[v0, v1, c2] from h2) rfl n2 ht (fun w3 u3 h3 => hk w3 ((u1.trans u2).trans u3) h3) hA2) hA1) hA0

theorem le_eq {a b c : Nat} (h : a ≤ b) (e : c = b) : a ≤ c := by omega
theorem bb2 {w w' : World} {V0 V1 : Nat → Prop} {P : Prop} (a : Ahead w w') (h : P) : Bar V0 w w' ∧ Bar V1 w w' ∧ P := ⟨Bar.of_ahead a, Bar.of_ahead a, h⟩
theorem axa2 {w0 t w w' : World} (a : Ahead w w') (A : Ahead w0 w) (X : Ext t w) : Ahead w0 w' ∧ Ext t w' := ⟨A.trans a, X.trans (Ext.of_ahead a)⟩
theorem axa3 {w0 t w w' : World} {n : Nat} (a : Ahead w w') (A : Ahead w0 w) (X : Ext t w) (Y : n ≤ w.heap.size) : Ahead w0 w' ∧ Ext t w' ∧ n ≤ w'.heap.size := ⟨A.trans a, X.trans (Ext.of_ahead a), Nat.le_trans Y a.size⟩
theorem axu2 {w0 t w w' : World} {k : Nat} (u : Upt k w w') (g : w0.heap.size ≤ k) (A : Ahead w0 w) (X : Ext t w) : Ahead w0 w' ∧ Ext t w' := ⟨u.ahead A g, X.trans u.ext⟩
theorem axu3 {w0 t w w' : World} {k n : Nat} (u : Upt k w w') (g : w0.heap.size ≤ k) (A : Ahead w0 w) (X : Ext t w) (Y : n ≤ w.heap.size) : Ahead w0 w' ∧ Ext t w' ∧ n ≤ w'.heap.size := ⟨u.ahead A g, X.trans u.ext, Nat.le_trans Y (Nat.le_of_eq u.size.symm)⟩
theorem ldB_t (i : Nat) {w : World} {b : Nat} {t : TypeId} {cs : Array Value} {ad : Addr} {x : Bool} {K : Bool → Prop} (h : Blt w b t cs) (hc : cs[i]? = some (.bool x)) (hk : K x) (hA : ad = ⟨b, i, none⟩ := by first | rfl | exact add_off) : ldB ad w K := by
  subst hA; exact ⟨x, h.cell hc, hk⟩
theorem ldS_t (i : Nat) {w : World} {b : Nat} {t : TypeId} {cs : Array Value} {ad : Addr} {x : Slc} {K : Slc → Prop} (h : Blt w b t cs) (hc : cs[i]? = some x.v) (hk : K x) (hA : ad = ⟨b, i, none⟩ := by first | rfl | exact add_off) : ldS ad w K := by
  subst hA; exact ⟨x, h.cell hc, hk⟩
theorem ldI_t (i : Nat) {w : World} {b : Nat} {t : TypeId} {cs : Array Value} {ad : Addr} {k : IntKind} {x : Int} {K : Int → Prop} (h : Blt w b t cs) (hc : cs[i]? = some (.int k x)) (hk : K x) (hA : ad = ⟨b, i, none⟩ := by first | rfl | exact add_off) : ldI k ad w K := by
  subst hA; exact ⟨x, h.cell hc, hk⟩

theorem out_t {V : Nat → Prop} {ad : Addr} {b i : Nat} {p : Prop} (hA : ad = ⟨b, i, none⟩) (hv : ¬ V b) (h : p) : Out V ad p := by subst hA; exact ⟨hv, h⟩
theorem br_map {b : Bool} {X Y X' Y' : Prop} (h : br b X Y) (hx : X → X') (hy : Y → Y') : br b X' Y' := by cases b; exact hy h; exact hx h
theorem semwp_map {P : Program} {α : Type} {e : Sem α} {w : World} {Q Q' : α → World → Prop} {E : Halt → World → Prop} (h : Sem.wp P e Q E w) (hq : ∀ a w', Q a w' → Q' a w') : Sem.wp P e Q' E w := by
  rw [Sem.wp_iff_run] at h ⊢
  generalize e.run P w = r at h
  cases r with
  | halt x w' => exact h
  | ok n w' => exact hq _ _ h
section
variable {P : Program} {e : Sem Value} {w : World}
theorem semA_map {K K' : Addr → World → Prop} (h : semA P e w K) (hk : ∀ x w', K x w' → K' x w') : semA P e w K' := semwp_map h fun _ _ ⟨x, h1, h2⟩ => ⟨x, h1, hk _ _ h2⟩
end

theorem _root_.Go.Proofs.YtbeiopoejdkheaaGreatDoor.Sp.Rd.ext {w w' : World} {s : Slc} {l : List Int} (h : Rd .u64 w s l) (x : Ext w w') : Rd .u64 w' s l :=
  ⟨h.n, h.c, fun i hi => by obtain ⟨ad, e, hc⟩ := h.get i hi; exact ⟨ad, e, x.cell _ _ hc⟩⟩
theorem _root_.Go.Proofs.YtbeiopoejdkheaaGreatDoor.Sp.Owr.ext {k : IntKind} {t : TypeId} {w w' : World} {s : Slc} {l : List Int} {b : Nat} (h : Owr k t w s l b) (x : Ext w w') (ht : rowTy t = true := by rfl) : Owr k t w' s l b := by
  obtain ⟨sp, h1, h2⟩ := h.mem
  exact ⟨h.hd, sp, h1, x.row _ _ _ _ h2 ht⟩

end L2
end Go.Proofs.YtbeiopoejdkheaaGreatDoor
namespace Go.Proofs.YtbeiopoejdkheaaGreatDoor
open Go Go.RowKit Eng Sp Dg
set_option linter.unusedVariables false
set_option linter.unusedSimpArgs false
set_option maxRecDepth 100000
namespace Ref
open _root_.Go.Proofs.YtbeiopoejdkheaaGreatDoor.Nat (ldN OwnNil)

/-- The slice's row lies in this block. -/
def Bk (s : Slc) (k : Nat) : Prop := s.A = some ⟨k, 0, none⟩
def upd {α : Type} (f : Nat → α) (i : Nat) (x : α) : Nat → α := fun j => if j = i then x else f j

/-- The state of a call of Owr: the lists lie apart, in memory from base on; their heads stand in the block ab. -/
structure St (V : Nat → Prop) (base : Nat) (w0 : World) (ab n : Nat) (T : List Value) (w : World) (S : Nat → Slc) (L : Nat → List Nat) : Prop where
  low : Below base w0 w
  hab : base ≤ ab
  hsz : base ≤ w.heap.size
  row : w.heap[ab]? = some (.cells (((List.range n).map fun j => (S j).v) ++ T).toArray tU64s (0, 0))
  own : ∀ j, j < n → OwnNil base w (S j) (L j)
  nab : ∀ j, j < n → ¬ Bk (S j) ab
  apart : ∀ i j k, i < n → j < n → i ≠ j → Bk (S i) k → ¬ Bk (S j) k
  keepV : ∀ k, k < w0.heap.size → ¬ V k → w.heap[k]? = w0.heap[k]?
  vab : V ab
  vbig : ∀ k, w0.heap.size ≤ k → V k
  vS : ∀ j k, j < n → Bk (S j) k → V k

theorem St.ablt {V : Nat → Prop} {base : Nat} {w0 : World} {ab n : Nat} {T : List Value} {w : World} {S : Nat → Slc} {L : Nat → List Nat} (h : St V base w0 ab n T w S L) : ab < w.heap.size := (Array.getElem?_eq_some_iff.1 h.row).1

theorem OwnNil.block {base : Nat} {w w' : World} {s : Slc} {l : List Nat} (h : OwnNil base w s l) (hb : ∀ k, k < w.heap.size → Bk s k → w'.heap[k]? = w.heap[k]?) : OwnNil base w' s l := by
  rcases h with h | ⟨b, h1, h2, h3⟩
  · exact .inl h
  · refine .inr ⟨b, h1, h2, h3.hd, ?_⟩
    obtain ⟨sp, hc, hm⟩ := h3.mem
    exact ⟨sp, hc, by rw [hb b h3.lt h3.A]; exact hm⟩

theorem St.alloc {V : Nat → Prop} {base : Nat} {w0 : World} {ab n : Nat} {T : List Value} {w : World} {S : Nat → Slc} {L : Nat → List Nat} (h : St V base w0 ab n T w S L) (o : Obj) : St V base w0 ab n T (w.alloc o) S L where
  low := Below.alloc h.low h.hsz o
  hab := h.hab
  hsz := by rw [size_alloc]; have := h.hsz; omega
  row := by rw [Below.heap_alloc _ _ _ h.ablt]; exact h.row
  own := fun j hj => OwnNil.block (h.own j hj) fun k hk _ => Below.heap_alloc _ _ _ hk
  nab := h.nab
  apart := h.apart
  keepV := fun k hk hv => by rw [Below.heap_alloc _ _ _ (Nat.lt_of_lt_of_le hk h.low.size)]; exact h.keepV k hk hv
  vab := h.vab
  vbig := h.vbig
  vS := h.vS

/-- A number is written into one of the lists. -/
theorem St.st {V : Nat → Prop} {base : Nat} {w0 : World} {ab n : Nat} {T : List Value} {w : World} {S : Nat → Slc} {L : Nat → List Nat} (h : St V base w0 ab n T w S L) {t : TypeId} (hT : isSl pr t .u64 = some tU64) {i k : Nat} (hi : i < n) (hk : k < (L i).length) {x : Nat} {K : World → Prop}
    (hK : ∀ w', St V base w0 ab n T w' S (upd L i ((L i).set k x)) → K w') :
    semA pr (Instr.indexAt t (S i).v (.int .i64 (k : Int))) w fun ad w1 => stC ad (.int .u64 (x : Int)) w1 fun w2 => K w2 := by
  rcases h.own i hi with ⟨_, hnil⟩ | ⟨b, hb, hc, ho⟩
  · rw [hnil] at hk; simp at hk
  · unfold semA
    rw [Sem.wp_iff_run, run_indexAt hT w (S i) k _ ho.A (by omega) (by rw [ho.n]; simpa using hk), add_off]
    refine ⟨_, rfl, ⟨_, ho.cell (by simpa using hk)⟩, ho.frozen _, hK _ ?_⟩
    have hbab : b ≠ ab := fun e => h.nab i hi (by rw [← e]; exact ho.A)
    refine ⟨Below.setCell h.low hb _, h.hab, by simpa [World.setCell] using h.hsz, ?_, ?_, h.nab, h.apart, ?_, h.vab, h.vbig, h.vS⟩
    · rw [Below.heap_setCell _ _ _ _ (by simpa using fun e => hbab e.symm)]; exact h.row
    · intro j hj
      unfold upd
      split
      · rename_i hji
        subst hji
        refine .inr ⟨b, hb, hc, ?_⟩
        have := ho.set (i := k) (by simpa using hk) (x : Int)
        rw [nn_set] at this
        exact this
      · rename_i hji
        refine OwnNil.block (h.own j hj) fun m hm hbm => Below.heap_setCell _ _ _ _ ?_
        intro e
        subst e
        exact h.apart i j _ hi hj (fun e => hji e.symm) ho.A hbm
    · intro m hm hv
      rw [Below.heap_setCell _ _ _ _ (by intro e; subst e; exact hv (h.vS i _ hi ho.A))]
      exact h.keepV m hm hv

end Ref
end Go.Proofs.YtbeiopoejdkheaaGreatDoor
namespace Go.Proofs.YtbeiopoejdkheaaGreatDoor
open Go Go.RowKit Eng Sp Dg
set_option linter.unusedVariables false
set_option linter.unusedSimpArgs false
set_option maxRecDepth 100000
namespace Ref
open _root_.Go.Proofs.YtbeiopoejdkheaaGreatDoor.Nat (OwnNil Num Ret bigC subC Yes own_num num_of digs_len_bl bigC_ok)

theorem len32 {l : List Nat} (h : ok B64 l) : (digs B32 (val B64 l)).length ≤ 2 * l.length := by
  refine digs_length_le two32 ?_
  rw [← b64_sq]
  exact val_lt h

end Ref
end Go.Proofs.YtbeiopoejdkheaaGreatDoor
namespace Go.Proofs.YtbeiopoejdkheaaGreatDoor
open Go Go.RowKit Eng Sp Dg L2
set_option linter.unusedVariables false
namespace Nat
theorem OwnNil.ext {base : Nat} {w w' : World} {s : Slc} {l : List Nat} (h : OwnNil base w s l) (x : Ext w w') : OwnNil base w' s l := by
  rcases h with h | ⟨b, h1, h2, h3⟩
  · exact .inl h
  · exact .inr ⟨b, h1, h2, h3.ext x⟩
theorem Num.ext {w w' : World} {s : Slc} {n : Nat} (h : Num w s n) (x : Ext w w') : Num w' s n := by
  obtain ⟨l, h1, h2⟩ := h
  exact ⟨l, h1.ext x, h2⟩
end Nat
namespace Ref
theorem Lent.ext {base : Nat} {w w' : World} {s t : Slc} {l : List Nat} (h : Lent base w s t l) (x : Ext w w') : Lent base w' s t l := by
  obtain ⟨b, h1, h2, h3, h4⟩ := h
  exact ⟨b, h1, h2, h3.ext x, h4⟩
theorem RN.ext {w w' : World} {s : Slc} {n : Nat} (h : RN w s n) (x : Ext w w') : RN w' s n := Sp.Rd.ext h x
end Ref
end Go.Proofs.YtbeiopoejdkheaaGreatDoor
namespace Go.Proofs.YtbeiopoejdkheaaGreatDoor
open Go Go.RowKit Eng
set_option linter.unusedVariables false

set_option maxRecDepth 100000 in
/-- surd/whole.fits: function 165. -/
theorem whole_fits_vc (a0_a_0 : Bool) (a0_a_1 : Slc) (w : World) (R : Ending → World → Prop)
    
    (h : newC w #[Value.bool a0_a_0, a0_a_1.v] 25 fun ad1 w1 =>
    newC w1 #[Value.bool false, (⟨none, 0, 0⟩ : Slc).v] 25 fun ad2 w2 =>
    ldS (ad1.add 1) w2 fun s1 =>
    Calls Tryz.prog 46 #[s1.v] w2 fun e1 w3 =>
    ∃ x1 : Int, e1 = .returned (Value.int .i64 x1) ∧
    (br (decide (x1 > 67108864))
     (stC ad2 (Value.bool false) w3 fun w4 =>
      stC (ad2.add 1) ((⟨none, 0, 0⟩ : Slc).v) w4 fun w5 =>
      ldB ad2 w5 fun b1 =>
      ldS (ad2.add 1) w5 fun s2 =>
      R (.returned (Value.tuple #[Value.agg #[Value.bool b1, s2.v], Value.int .i64 3])) w5)
     (ldB ad1 w3 fun b2 =>
      ldS (ad1.add 1) w3 fun s3 =>
      Calls Tryz.prog 172 #[Value.agg #[Value.bool b2, s3.v]] w3 fun e2 w6 =>
      ∃ b3 : Bool, ∃ s4 : Slc, e2 = .returned (Value.agg #[Value.bool b3, s4.v]) ∧
      (stC ad2 (Value.bool b3) w6 fun w7 =>
       stC (ad2.add 1) s4.v w7 fun w8 =>
       ldB ad2 w8 fun b4 =>
       ldS (ad2.add 1) w8 fun s5 =>
       R (.returned (Value.tuple #[Value.agg #[Value.bool b4, s5.v], Value.int .i64 0])) w8)))) :
    Calls Tryz.prog 165 #[Value.agg #[Value.bool a0_a_0, a0_a_1.v]] w R := by
  refine calls_of_vc (fun _ => none) (by kernel_rfl) Tryz.func165 rfl ?_ ?_
  · refine kcast h ?_; kernel_rfl
  · exact (obl_seq rfl (obl_reg (obl_seq rfl (obl_seq rfl (obl_reg (obl_cond (obl_seq rfl (obl_reg (obl_ret (obl_skip (obl_seq rfl (obl_reg (obl_ret trivial)))))))))))))

set_option maxRecDepth 100000 in
/-- surd/whole.norm: function 172. -/
theorem whole_norm_vc (a0_a_0 : Bool) (a0_a_1 : Slc) (w : World) (R : Ending → World → Prop)
    
    (h : newC w #[Value.bool a0_a_0, a0_a_1.v] 25 fun ad1 w1 =>
    newC w1 #[Value.bool false, (⟨none, 0, 0⟩ : Slc).v] 25 fun ad2 w2 =>
    ldS (ad1.add 1) w2 fun s1 =>
    Calls Tryz.prog 85 #[s1.v] w2 fun e1 w3 =>
    ∃ s2 : Slc, e1 = .returned s2.v ∧
    (ldB ad1 w3 fun b1 =>
     br b1
     (stC ad2 (Value.bool (decide ((s2.n : Int) > 0))) w3 fun w4 =>
      stC (ad2.add 1) s2.v w4 fun w5 =>
      ldB ad2 w5 fun b2 =>
      ldS (ad2.add 1) w5 fun s3 =>
      R (.returned (Value.agg #[Value.bool b2, s3.v])) w5)
     (stC ad2 (Value.bool false) w3 fun w6 =>
      stC (ad2.add 1) s2.v w6 fun w7 =>
      ldB ad2 w7 fun b3 =>
      ldS (ad2.add 1) w7 fun s4 =>
      R (.returned (Value.agg #[Value.bool b3, s4.v])) w7))) :
    Calls Tryz.prog 172 #[Value.agg #[Value.bool a0_a_0, a0_a_1.v]] w R := by
  refine calls_of_vc (fun _ => none) (by kernel_rfl) Tryz.func172 rfl ?_ ?_
  · refine kcast h ?_; kernel_rfl
  · exact (obl_seq rfl (obl_reg (obl_seq rfl (obl_reg (obl_seq rfl (obl_reg (obl_ret trivial)))))))

end Go.Proofs.YtbeiopoejdkheaaGreatDoor
namespace Go.Proofs.YtbeiopoejdkheaaGreatDoor
open Go Go.RowKit Eng Sp Dg L2
set_option linter.unusedVariables false
set_option linter.unusedSimpArgs false
set_option maxRecDepth 100000
namespace Dy
open _root_.Go.Proofs.YtbeiopoejdkheaaGreatDoor.Nat (ldN ldNf stF stFf mkF Fill OwnNil Num Num.bl OwnNil.mono OwnNil.ext OwnNil.rd OwnNil.ahead OwnNil.nil bigC bigC_ok leftC left_num Norm_spec Length_spec len_num semShr semShl fixShl orI_nat digs_len_bl From_spec nBit_spec)
open _root_.Go.Proofs.YtbeiopoejdkheaaGreatDoor.Ref (len_mono)
open Sb

/-- Does the size grow by a step? -/
def upR (neg : Bool) (n gap : Nat) (m : Int) : Bool := if m = 2 then decide (n / 2 ^ (gap - 1) % 2 = 1) && (decide (tz n < gap - 1) || decide (n / 2 ^ gap % 2 = 1)) else if m = 0 then neg else !neg
/-- The size of a number of so many steps, rounded. -/
def rq (neg : Bool) (n gap : Nat) (m : Int) : Nat := n / 2 ^ gap + if upR neg n gap m then 1 else 0

end Dy
end Go.Proofs.YtbeiopoejdkheaaGreatDoor
namespace Go.Proofs.YtbeiopoejdkheaaGreatDoor
open Go Go.RowKit Eng Sp Dg L2
set_option linter.unusedVariables false
set_option linter.unusedSimpArgs false
set_option maxRecDepth 100000
namespace Dy
open _root_.Go.Proofs.YtbeiopoejdkheaaGreatDoor.Ref (RN RN.nil RN.ext RN.ahead Len_spec zero_spec Shl_spec Cmp_spec Int_spec rDiv_spec rMul_spec len_mono len_lt_of bl_len32)
open Sb

/-- The number of a sign and a size. -/
def sg (neg : Bool) (n : Nat) : Int := if neg then -(n : Int) else n
theorem sg_abs (neg : Bool) (n : Nat) : (sg neg n).natAbs = n := by unfold sg; cases neg <;> simp

end Dy
end Go.Proofs.YtbeiopoejdkheaaGreatDoor
namespace Go.Proofs.YtbeiopoejdkheaaGreatDoor
open Go Go.RowKit Eng Sp Dg L2
set_option linter.unusedVariables false
set_option linter.unusedSimpArgs false
set_option maxRecDepth 100000
namespace Dy
open _root_.Go.Proofs.YtbeiopoejdkheaaGreatDoor.Nat (OwnNil Num Num.bl OwnNil.mono OwnNil.ext OwnNil.rd OwnNil.ahead digs_len_bl num_of Yes)
open _root_.Go.Proofs.YtbeiopoejdkheaaGreatDoor.Ref (RN RN.nil RN.ext RN.ahead Len_spec Shl_spec Int_spec Lent Lent.ahead Lent.whole len_mono bl_len32 len_lt_of len32)
open Sb

def okM (m : Int) : Prop := 0 ≤ m ∧ m ≤ 2
instance (m : Int) : Decidable (okM m) := inferInstanceAs (Decidable (_ ∧ _))

end Dy
end Go.Proofs.YtbeiopoejdkheaaGreatDoor
namespace Go.Proofs.YtbeiopoejdkheaaGreatDoor
open Go Go.RowKit Eng Sp Dg L2
set_option linter.unusedVariables false
set_option linter.unusedSimpArgs false
set_option maxRecDepth 100000
namespace Dy
open _root_.Go.Proofs.YtbeiopoejdkheaaGreatDoor.Nat (OwnNil Num Num.bl OwnNil.mono OwnNil.ext OwnNil.rd OwnNil.ahead digs_len_bl num_of Yes)
open _root_.Go.Proofs.YtbeiopoejdkheaaGreatDoor.Ref (RN RN.nil RN.ext RN.ahead Lent Lent.ahead Lent.ext Lent.whole len_mono len32 Bk)
open Sb

/-- A program's answer (c, b4 s4 x3) beside the document's (f, b s5 x5): what 'alike' asks. -/
structure Beside (bs : Nat) (w' : World) (c f : Int) (b4 : Bool) (s4 : Slc) (x3 : Int) (b : Bool) (s5 : Slc) (x5 : Int) (N : Nat) (E : Int) (neg : Bool) : Prop where
  r : RN w' s5 N
  len : (digs B32 N).length ≤ 2 ^ 46
  code : c = if f = 0 then tK N E else f
  wn : f = 0 → b = neg
  we : f = 0 → x5 = E
  pn : b4 = if c = 0 then neg else false
  pe : x3 = if c = 0 then E else 0
  o : OwnNil bs w' s4 (if c = 0 then digs B64 N else [])
  len64 : bl N ≤ 67108864 → (digs B64 N).length ≤ 2 ^ 44
theorem Beside.ext {bs : Nat} {w w' : World} {c f : Int} {b4 : Bool} {s4 : Slc} {x3 : Int} {b : Bool} {s5 : Slc} {x5 : Int} {N : Nat} {E : Int} {neg : Bool} (h : Beside bs w c f b4 s4 x3 b s5 x5 N E neg) (x : Ext w w') : Beside bs w' c f b4 s4 x3 b s5 x5 N E neg :=
  ⟨h.r.ext x, h.len, h.code, h.wn, h.we, h.pn, h.pe, h.o.ext x, h.len64⟩

end Dy
end Go.Proofs.YtbeiopoejdkheaaGreatDoor
namespace Go.Proofs.YtbeiopoejdkheaaGreatDoor
open Go Go.RowKit Eng L2
set_option linter.unusedVariables false
set_option maxHeartbeats 2000000
set_option maxRecDepth 100000

/-- surd/whole.fits: function 165, its local variables as values. -/
theorem whole_fits_v2 (a0_a_0 : Bool) (a0_a_1 : Slc) (w : World) (R : Ending → World → Prop)
    
    (h : ∀ w1, Ext w w1 → Ahead w w1 →
    (Calls Tryz.prog 46 #[a0_a_1.v] w1 fun e1 w2 =>
     ∃ x1 : Int, e1 = .returned (Value.int .i64 x1) ∧ Ahead w1 w2 ∧
     (br (decide (x1 > 67108864))
      (∀ w3, Ext w2 w3 → Ahead w w3 →
       (R (.returned (Value.tuple #[Value.agg #[Value.bool (false), ((⟨none, 0, 0⟩ : Slc)).v], Value.int .i64 3])) w3))
      (Calls Tryz.prog 172 #[Value.agg #[Value.bool a0_a_0, a0_a_1.v]] w2 fun e2 w4 =>
       ∃ b1 : Bool, ∃ s1 : Slc, e2 = .returned (Value.agg #[Value.bool b1, s1.v]) ∧ Ahead w2 w4 ∧
       (∀ w5, Ext w4 w5 → Ahead w w5 →
        (R (.returned (Value.tuple #[Value.agg #[Value.bool b1, s1.v], Value.int .i64 0])) w5))))))
     :
    Calls Tryz.prog 165 #[Value.agg #[Value.bool a0_a_0, a0_a_1.v]] w (fun e_ w_ => Ahead w w_ ∧ R e_ w_) := by
  refine whole_fits_vc a0_a_0 a0_a_1 w _  ?_
  · have A : Ahead w w := Ahead.refl w
    have X : Ext w w := Ext.refl w
    refine newC_t fun bk1 u1 hb1 ha_u1 _ B1 => ?_
    have g1 := le_eq A.size hb1
    obtain ⟨A, X⟩ := axa2 ha_u1 A X
    refine newC_t fun bk2 u2 hb2 ha_u2 _ B2 => ?_
    have g2 := le_eq A.size hb2
    have l1_2 := lt1 hb2 B1
    replace B1 := B1.ahead ha_u2
    obtain ⟨A, X⟩ := axa2 ha_u2 A X
    refine ldS_t 1 B1 rfl ?_
    replace h := h _ X A
    refine Calls.mono h ?_
    clear h
    rintro e1 w2 ⟨x1, he_, ha_w2, h⟩
    refine ⟨x1, he_, ?_⟩
    clear he_
    obtain ⟨B1, B2⟩ := ah2 ha_w2 B1 B2
    obtain ⟨A, X⟩ := axa2 ha_w2 A X
    replace X : Ext w2 w2 := Ext.refl _
    refine br_map h (fun h_ => ?_) (fun h_ => ?_)
    ·clear h
     have h := h_
     clear h_
     refine st2_t B2 rfl rfl rfl fun u3 k_u3 B2 => ?_
     replace B1 := up1 k_u3 B1
     obtain ⟨A, X⟩ := axu2 k_u3 g2 A X
     refine ldB_t 0 B2 rfl ?_
     refine ldS_t 1 B2 rfl ?_
     replace h := h _ X A
     exact ⟨A, h⟩
    ·clear h
     have h := h_
     clear h_
     refine ldB_t 0 B1 rfl ?_
     refine ldS_t 1 B1 rfl ?_
     refine Calls.mono h ?_
     clear h
     rintro e2 w4 ⟨b1, s1, he_, ha_w4, h⟩
     refine ⟨b1, s1, he_, ?_⟩
     clear he_
     obtain ⟨B1, B2⟩ := ah2 ha_w4 B1 B2
     obtain ⟨A, X⟩ := axa2 ha_w4 A X
     replace X : Ext w4 w4 := Ext.refl _
     refine st2_t B2 rfl rfl rfl fun u4 k_u4 B2 => ?_
     replace B1 := up1 k_u4 B1
     obtain ⟨A, X⟩ := axu2 k_u4 g2 A X
     refine ldB_t 0 B2 rfl ?_
     refine ldS_t 1 B2 rfl ?_
     replace h := h _ X A
     exact ⟨A, h⟩

/-- surd/whole.norm: function 172, its local variables as values. -/
theorem whole_norm_v2 (a0_a_0 : Bool) (a0_a_1 : Slc) (w : World) (R : Ending → World → Prop)
    
    (h : ∀ w1, Ext w w1 → Ahead w w1 →
    (Calls Tryz.prog 85 #[a0_a_1.v] w1 fun e1 w2 =>
     ∃ s1 : Slc, e1 = .returned s1.v ∧ Ahead w1 w2 ∧
     (br a0_a_0
      (∀ w3, Ext w2 w3 → Ahead w w3 →
       (R (.returned (Value.agg #[Value.bool (decide ((s1.n : Int) > 0)), s1.v])) w3))
      (∀ w4, Ext w2 w4 → Ahead w w4 →
       (R (.returned (Value.agg #[Value.bool (false), s1.v])) w4)))))
     :
    Calls Tryz.prog 172 #[Value.agg #[Value.bool a0_a_0, a0_a_1.v]] w (fun e_ w_ => Ahead w w_ ∧ R e_ w_) := by
  refine whole_norm_vc a0_a_0 a0_a_1 w _  ?_
  · have A : Ahead w w := Ahead.refl w
    have X : Ext w w := Ext.refl w
    refine newC_t fun bk1 u1 hb1 ha_u1 _ B1 => ?_
    have g1 := le_eq A.size hb1
    obtain ⟨A, X⟩ := axa2 ha_u1 A X
    refine newC_t fun bk2 u2 hb2 ha_u2 _ B2 => ?_
    have g2 := le_eq A.size hb2
    have l1_2 := lt1 hb2 B1
    replace B1 := B1.ahead ha_u2
    obtain ⟨A, X⟩ := axa2 ha_u2 A X
    refine ldS_t 1 B1 rfl ?_
    replace h := h _ X A
    refine Calls.mono h ?_
    clear h
    rintro e1 w2 ⟨s1, he_, ha_w2, h⟩
    refine ⟨s1, he_, ?_⟩
    clear he_
    obtain ⟨B1, B2⟩ := ah2 ha_w2 B1 B2
    obtain ⟨A, X⟩ := axa2 ha_w2 A X
    replace X : Ext w2 w2 := Ext.refl _
    refine ldB_t 0 B1 rfl ?_
    refine br_map h (fun h_ => ?_) (fun h_ => ?_)
    ·clear h
     have h := h_
     clear h_
     refine st2_t B2 rfl rfl rfl fun u3 k_u3 B2 => ?_
     replace B1 := up1 k_u3 B1
     obtain ⟨A, X⟩ := axu2 k_u3 g2 A X
     refine ldB_t 0 B2 rfl ?_
     refine ldS_t 1 B2 rfl ?_
     replace h := h _ X A
     exact ⟨A, h⟩
    ·clear h
     have h := h_
     clear h_
     refine st2_t B2 rfl rfl rfl fun u4 k_u4 B2 => ?_
     replace B1 := up1 k_u4 B1
     obtain ⟨A, X⟩ := axu2 k_u4 g2 A X
     refine ldB_t 0 B2 rfl ?_
     refine ldS_t 1 B2 rfl ?_
     replace h := h _ X A
     exact ⟨A, h⟩

end Go.Proofs.YtbeiopoejdkheaaGreatDoor
namespace Go.Proofs.YtbeiopoejdkheaaGreatDoor
open Go Go.RowKit Eng Sp Dg L2
set_option linter.unusedVariables false
set_option linter.unusedSimpArgs false
set_option maxRecDepth 100000
namespace Dy
open _root_.Go.Proofs.YtbeiopoejdkheaaGreatDoor.Nat (OwnNil Num Num.bl OwnNil.mono OwnNil.ext OwnNil.rd OwnNil.ahead OwnNil.nil digs_len_bl num_of Yes Norm_spec len_num)
open _root_.Go.Proofs.YtbeiopoejdkheaaGreatDoor.Ref (RN RN.nil RN.ext RN.ahead Len_spec Shl_spec Int_spec Lent Lent.ahead Lent.ext Lent.whole len_mono bl_len32 len_lt_of len32 Bk)
open Sb

theorem wnorm_spec {w : World} {neg : Bool} {s : Slc} {x : Nat} (h : Num w s x) : Calls pr whole_norm_id #[.agg (c2 neg s)] w fun e w' => Ahead w w' ∧ ∃ s', e = .returned (.agg (c2 (nD neg x) s')) ∧ OwnNil w.heap.size w' s' (digs B64 x) := by
  obtain ⟨l, r, hl, ol, rfl⟩ := h
  refine whole_norm_v2 neg s w _ fun w1 x1 a1 => Calls.mono (Norm_spec (r.ahead a1) hl ol) ?_
  rintro e w2 ⟨h2, s1, rfl, o1⟩
  have hn : s1.n = (digs B64 (val B64 l)).length := by rw [o1.rd.n, nn_length]
  refine ⟨_, rfl, h2, br_intro (fun hb => ?_) (fun hb => ?_)⟩
  · intro w3 x3 a3
    refine ⟨s1, ?_, (o1.ext x3).mono a1.size⟩
    congr 3
    rw [hb, hn]
    by_cases h0 : val B64 l = 0
    · rw [h0, digs_zero]; rfl
    · have := List.length_pos_iff.2 (digs_ne_nil two64 h0)
      rw [nD_ne h0]
      simp; omega
  · intro w3 x3 a3
    refine ⟨s1, ?_, (o1.ext x3).mono a1.size⟩
    rw [hb]; rfl
/-- A whole number as the program answers it. -/
def WOut (w : World) (code : Int) (neg : Bool) (q : Nat) (e : Ending) (w' : World) : Prop := ∃ s, e = .returned (.tuple #[.agg (c2 (if code = 0 then nD neg q else false) s), .int .i64 code]) ∧ OwnNil w.heap.size w' s (if code = 0 then digs B64 q else [])
def bC (q : Nat) : Int := if 67108864 < bl q then 3 else 0
theorem fits_spec {w : World} {neg : Bool} {s : Slc} {x : Nat} (h : Num w s x) : Calls pr whole_fits_id #[.agg (c2 neg s)] w fun e w' => Ahead w w' ∧ WOut w (bC x) neg x e w' := by
  refine whole_fits_v2 neg s w _ fun w1 x1 a1 => Calls.mono (len_num (h.ahead a1)) ?_
  rintro e w2 ⟨rfl, rfl⟩
  refine ⟨_, rfl, Ahead.refl _, br_intro (fun hb => ?_) (fun hb => ?_)⟩
  · have hb' : 67108864 < bl x := by have := of_decide_eq_true hb; omega
    have hc : bC x = 3 := if_pos hb'
    rw [hc]
    exact fun w3 x3 a3 => ⟨_, rfl, OwnNil.nil⟩
  · have hb' : ¬ 67108864 < bl x := by have := of_decide_eq_false hb; omega
    have hc : bC x = 0 := if_neg hb'
    rw [hc]
    refine Calls.mono (wnorm_spec (h.ahead a1)) ?_
    rintro e w4 ⟨h4, s1, rfl, o1⟩
    exact ⟨_, _, rfl, h4, fun w5 x5 a5 => ⟨s1, rfl, (o1.ext x5).mono a1.size⟩⟩

end Dy
end Go.Proofs.YtbeiopoejdkheaaGreatDoor
namespace Go.Proofs.YtbeiopoejdkheaaGreatDoor
open Go Go.RowKit Eng Sp Dg L2
set_option linter.unusedVariables false
set_option linter.unusedSimpArgs false
set_option maxRecDepth 100000
namespace Dy
open _root_.Go.Proofs.YtbeiopoejdkheaaGreatDoor.Nat (OwnNil Num Num.bl OwnNil.mono OwnNil.ext OwnNil.rd OwnNil.ahead OwnNil.nil digs_len_bl num_of Yes cmp_num)
open _root_.Go.Proofs.YtbeiopoejdkheaaGreatDoor.Ref (RN RN.nil RN.ext RN.ahead Len_spec Shl_spec Int_spec Cmp_spec len_mono bl_len32)
open Sb

def cmpZ (a b : Int) : Int := if a < b then -1 else if a = b then 0 else 1
theorem sg_mul (neg : Bool) (n m : Nat) : sg neg n * (m : Int) = sg neg (n * m) := by
  unfold sg; cases neg <;> simp [Int.neg_mul]
def far (e : Int) : Prop := -2305843009213693952 ≤ e ∧ e ≤ 2305843009213693952
theorem num_digs {w : World} {s : Slc} {n : Nat} (r : Rd .u64 w s (nn (digs B64 n))) (h : (digs B64 n).length ≤ 2 ^ 44) : Num w s n := ⟨_, r, h, ok_digs two64 _, val_digs two64 _⟩

end Dy
end Go.Proofs.YtbeiopoejdkheaaGreatDoor
namespace Go.Proofs.YtbeiopoejdkheaaGreatDoor
open Go Go.RowKit Eng Sp Dg
set_option linter.unusedVariables false
set_option linter.unusedSimpArgs false
set_option maxRecDepth 100000
namespace Mul
open _root_.Go.Proofs.YtbeiopoejdkheaaGreatDoor.Nat (ldN ldNf stN mkN Fill mkF stF stFf Num OwnNil add64 sub64)

theorem row_step (x y o cr : Nat) (hx : x < B64) (hy : y < B64) (ho : o < B64) (hc : cr < B64) :
    (o + (x * y % B64 + cr) % B64) % B64 + B64 * (x * y / B64 + (x * y % B64 + cr) / B64 + (o + (x * y % B64 + cr) % B64) / B64) = o + x * y + cr ∧
      x * y / B64 + (x * y % B64 + cr) / B64 + (o + (x * y % B64 + cr) % B64) / B64 < B64 := by
  have hB := B64v
  have h1 := Nat.mod_add_div (x * y) B64
  have h2 := Nat.mod_add_div (x * y % B64 + cr) B64
  have h3 := Nat.mod_add_div (o + (x * y % B64 + cr) % B64) B64
  have hxy : x * y ≤ (B64 - 1) * (B64 - 1) := Nat.mul_le_mul (by omega) (by omega)
  generalize (o + (x * y % B64 + cr) % B64) % B64 = s at *
  generalize (o + (x * y % B64 + cr) % B64) / B64 = c2 at *
  generalize (x * y % B64 + cr) % B64 = lo2 at *
  generalize (x * y % B64 + cr) / B64 = c1 at *
  generalize x * y % B64 = lo at *
  generalize x * y / B64 = hi at *
  generalize x * y = p at *
  have e : s + B64 * (hi + c1 + c2) = o + p + cr := by rw [Nat.mul_add, Nat.mul_add]; omega
  refine ⟨e, ?_⟩
  rcases Nat.lt_or_ge (hi + c1 + c2) B64 with h | h
  · exact h
  · exfalso
    have h5 := Nat.mul_le_mul_left B64 h
    have h6 : (B64 - 1) * (B64 - 1) + 2 * B64 = B64 * B64 + 1 := by decide
    clear h1 h2 h3
    generalize (B64 - 1) * (B64 - 1) = Q at *
    generalize B64 * B64 = BB at *
    generalize B64 * (hi + c1 + c2) = T at *
    omega

theorem school_spec {w : World} {a b : Slc} {la lb : List Nat} (ha : Rd .u64 w a (nn la)) (hb : Rd .u64 w b (nn lb)) (oa : ok B64 la) (ob : ok B64 lb) (nab : la.length + lb.length ≤ 2 ^ 45) :
    Calls pr mul_school_id #[a.v, b.v] w fun e w' => Ahead w w' ∧ ∃ s l, e = .returned (Slc.v s) ∧ OwnNil w.heap.size w' s l ∧ l.length = la.length + lb.length ∧ ok B64 l ∧ val B64 l = val B64 la * val B64 lb := by
  have hB := B64v
  have hna : a.n = la.length := by rw [ha.n, nn_length]
  have hnb : b.n = lb.length := by rw [hb.n, nn_length]
  refine mul_school_vc a b w _
    (fun t1 out t20 t21 t22 w' => t1 = b ∧ t20 = a ∧ t21 = (la.length : Int) ∧ Ahead w w' ∧ ∃ (i : Nat) (l : List Nat), t22 = (i : Int) ∧ i ≤ la.length ∧ Owr .u64 tU64 w' out (nn l) w.heap.size ∧ out.c ≤ maxLen ∧ l.length = la.length + lb.length ∧ ok B64 l ∧
      (∀ j, i + lb.length ≤ j → j < l.length → l.getD j 0 = 0) ∧ val B64 l = val B64 (la.take i) * val B64 lb)
    (fun _ _ _ n i _ => (n - i).toNat)
    (fun o1 o5 o20 o21 o22 ow t1 out t6 t7 t8 t20 t21 t22 t27 t28 t29 w' => o21 = t21 ∧ o22 = t22 ∧ t1 = b ∧ t20 = a ∧ t21 = (la.length : Int) ∧ t27 = b ∧ t28 = (lb.length : Int) ∧ Ahead w w' ∧ ∃ (i k cr : Nat) (l : List Nat), t6 = (i : Int) ∧ t22 = (i : Int) ∧ i < la.length ∧ t7 = ((la.getD i 0 : Nat) : Int) ∧
      t8 = (cr : Int) ∧ cr < B64 ∧ t29 = (k : Int) ∧ k ≤ lb.length ∧ Owr .u64 tU64 w' out (nn l) w.heap.size ∧ out.c ≤ maxLen ∧ l.length = la.length + lb.length ∧ ok B64 l ∧
      (∀ j, i + lb.length ≤ j → j < l.length → l.getD j 0 = 0) ∧ val B64 l + cr * B64 ^ (i + k) = val B64 (la.take i) * val B64 lb + la.getD i 0 * val B64 (lb.take k) * B64 ^ i)
    (fun _ _ _ _ _ _ _ _ _ _ _ _ _ _ _ n k _ => (n - k).toNat) ?_ ?_ ?_
  · rw [hna, hnb, wrap_i64 (by omega) (by omega)]
    refine mkN (by omega) (by omega) ?_
    intro c w1 hc ho h1 hs1
    refine ⟨rfl, rfl, rfl, h1, 0, _, rfl, Nat.zero_le _, ho, by rw [hc]; unfold maxLen; omega, by rw [List.length_replicate]; omega, ok_replicate (by omega) _, fun j h2 h3 => ?_, by rw [val_replicate]; simp [val]⟩
    rw [List.length_replicate] at h3
    simp [List.getD_eq_getElem?_getD, List.getElem?_replicate, h3]
  · rintro t1 out t20 t21 t22 w1 ⟨rfl, rfl, rfl, h1, i, l, rfl, hi, ho, hoc, hl, ol, hz, hv⟩
    refine br_intro (fun hlt => ?_) (fun hge => ?_)
    · have hi' : i < la.length := by simp at hlt; omega
      refine ldN (ha.ahead h1) (by omega) (by omega) ?_
      rw [Int.toNat_natCast]
      exact ⟨rfl, rfl, rfl, rfl, rfl, rfl, by rw [hnb], h1, i, 0, 0, l, rfl, rfl, hi', rfl, rfl, by omega, rfl, Nat.zero_le _, ho, hoc, hl, ol, hz, by simp [val, hv]⟩
    · have hi' : i = la.length := by simp at hge; omega
      subst hi'
      exact ⟨h1, out, l, rfl, .inr ⟨_, Nat.le_refl _, hoc, ho⟩, hl, ol, by rw [hv, List.take_length]⟩
  · rintro o1 o5 o20 o21 o22 ow _ t1 out t6 t7 t8 t20 t21 t22 t27 t28 t29 w1 ⟨rfl, rfl, rfl, rfl, rfl, rfl, rfl, h1, i, k, cr, l, rfl, rfl, hi, rfl, rfl, hcr, rfl, hk, ho, hoc, hl, ol, hz, hv⟩
    have hx := ok_getD oa (by omega : 0 < B64) i
    refine br_intro (fun hlt => ?_) (fun hge => ?_)
    · have hk' : k < lb.length := by simp at hlt; omega
      have e8 : IntKind.i64.wrap ((k : Int) + 1) = ((k + 1 : Nat) : Int) := by rw [wrap_i64 (by omega) (by omega)]; omega
      have hy := ok_getD ob (by omega : 0 < B64) k
      have hoo := ok_getD ol (by omega : 0 < B64) (i + k)
      refine ldN (hb.ahead h1) (by omega) (by omega) ?_
      rw [Int.toNat_natCast]
      refine Calls.mono (Tryz.bits_Mul64 _ _ (by omega) (by omega) _) ?_
      rintro e w4 ⟨rfl, rfl⟩
      refine ⟨_, _, rfl, ?_⟩
      rw [← B64v]
      refine add64 (c := 0) (by omega) ?_
      rw [wrap_i64 (x := (i : Int) + (k : Int)) (by omega) (by omega), show (i : Int) + (k : Int) = ((i + k : Nat) : Int) by omega]
      refine ldN ho.rd (by omega) (by omega) ?_
      rw [Int.toNat_natCast]
      refine add64 (c := 0) (by omega) ?_
      refine stO ho (by omega) (by omega) ?_
      intro w9 ho9 hon9
      rw [Int.toNat_natCast] at ho9
      obtain ⟨r1, r2⟩ := row_step (la.getD i 0) (lb.getD k 0) (l.getD (i + k) 0) cr hx hy hoo hcr
      simp only [Nat.add_zero] at ho9 ⊢
      have vs := val_set (B := B64) l (i + k) ((l.getD (i + k) 0 + (la.getD i 0 * lb.getD k 0 % B64 + cr) % B64) % B64) (by omega)
      have tk := val_take_succ' lb k (B := B64)
      have hsB : (l.getD (i + k) 0 + (la.getD i 0 * lb.getD k 0 % B64 + cr) % B64) % B64 < B64 := Nat.mod_lt _ (by omega)
      generalize (l.getD (i + k) 0 + (la.getD i 0 * lb.getD k 0 % B64 + cr) % B64) % B64 = s at *
      generalize la.getD i 0 * lb.getD k 0 / B64 = hi' at *
      generalize (la.getD i 0 * lb.getD k 0 % B64 + cr) / B64 = c1 at *
      generalize (l.getD (i + k) 0 + (la.getD i 0 * lb.getD k 0 % B64 + cr) % B64) / B64 = c2 at *
      have ec : IntKind.u64.wrap (IntKind.u64.wrap ((hi' : Int) + (c1 : Int)) + (c2 : Int)) = ((hi' + c1 + c2 : Nat) : Int) := by
        rw [wrap_u64' (x := (hi' : Int) + c1) (by omega) (by omega), wrap_u64' (by omega) (by omega)]; omega
      rw [ec, e8]
      refine ⟨⟨by trivial, by trivial, by trivial, by trivial, by trivial, by trivial, by trivial, hon9.ahead h1 (Nat.le_refl _), i, k + 1, _, _, rfl, rfl, hi, rfl, rfl, r2, rfl, hk', ho9, hoc, by simpa using hl, ok_set ol hsB, fun j h2 h3 => ?_, ?_⟩, by omega⟩
      · rw [List.length_set] at h3
        rw [getD_set _ _ _ _ (by omega), if_neg (by omega)]
        exact hz j h2 h3
      · rw [tk, show i + (k + 1) = i + k + 1 by omega, Nat.pow_succ]
        have e1 : la.getD i 0 * (val B64 (lb.take k) + B64 ^ k * lb.getD k 0) * B64 ^ i = la.getD i 0 * val B64 (lb.take k) * B64 ^ i + B64 ^ (i + k) * (la.getD i 0 * lb.getD k 0) := by
          rw [Nat.mul_add, Nat.add_mul, Nat.pow_add]; congr 1; ac_rfl
        rw [e1, ← Nat.add_assoc, ← hv]
        generalize la.getD i 0 * lb.getD k 0 = xy at *
        generalize l.getD (i + k) 0 = o at *
        generalize B64 ^ (i + k) = P at *
        have e2 : P * s + (hi' + c1 + c2) * (P * B64) = P * o + P * xy + cr * P := by
          have f1 : P * (s + B64 * (hi' + c1 + c2)) = P * s + (hi' + c1 + c2) * (P * B64) := by rw [Nat.mul_add]; congr 1; ac_rfl
          have f2 : P * (o + xy + cr) = P * o + P * xy + cr * P := by rw [Nat.mul_add, Nat.mul_add, Nat.mul_comm P cr]
          rw [← f1, r1, f2]
        omega
    · have hk' : k = lb.length := by simp at hge; omega
      subst hk'
      have e8 : IntKind.i64.wrap ((i : Int) + 1) = ((i + 1 : Nat) : Int) := by rw [wrap_i64 (by omega) (by omega)]; omega
      rw [hnb, wrap_i64 (x := (i : Int) + ((lb.length : Nat) : Int)) (by omega) (by omega), show (i : Int) + ((lb.length : Nat) : Int) = ((i + lb.length : Nat) : Int) by omega]
      refine stO ho (by omega) (by omega) ?_
      intro w9 ho9 hon9
      rw [Int.toNat_natCast] at ho9
      have hzero := hz (i + lb.length) (Nat.le_refl _) (by omega)
      refine ⟨⟨rfl, rfl, rfl, hon9.ahead h1 (Nat.le_refl _), i + 1, _, e8, hi, ho9, hoc, by simpa using hl, ok_set ol hcr, fun j h2 h3 => ?_, ?_⟩, by rw [e8]; omega⟩
      · rw [List.length_set] at h3
        rw [getD_set _ _ _ _ (by omega), if_neg (by omega)]
        exact hz j (by omega) h3
      · have vs := val_set (B := B64) l (i + lb.length) cr (by omega)
        rw [hzero, Nat.mul_zero, Nat.add_zero] at vs
        rw [vs, Nat.mul_comm (B64 ^ (i + lb.length)), hv, List.take_length, val_take_succ', Nat.add_mul]
        congr 1
        ac_rfl

end Mul
end Go.Proofs.YtbeiopoejdkheaaGreatDoor
namespace Go.Proofs.YtbeiopoejdkheaaGreatDoor
open Go Go.RowKit Eng Sp Dg
set_option linter.unusedVariables false
set_option linter.unusedSimpArgs false
set_option maxRecDepth 100000
namespace Mul
open _root_.Go.Proofs.YtbeiopoejdkheaaGreatDoor.Nat (ldN ldNf stN mkN Fill mkF stF stFf Num OwnNil add64 sub64 len_le Norm_spec)

theorem part_lo {w : World} {a : Slc} {l : List Nat} (h : Rd .u64 w a (nn l)) (ol : ok B64 l) (ll : l.length ≤ 2 ^ 46) (k : Nat) :
    Calls pr mul_part_id #[a.v, .int .i64 0, .int .i64 (k : Int)] w fun e w' => w' = w ∧ ∃ s, e = .returned (Slc.v s) ∧ Rd .u64 w s (nn (digs B64 (val B64 (l.take k)))) ∧ (digs B64 (val B64 (l.take k))).length ≤ k := by
  refine Calls.mono (part_spec h ol ll (f := 0) (t := (k : Int)) (by omega) (by simp) (by omega)) ?_
  rintro e w' ⟨rfl, s, rfl, hr⟩
  have e1 : (l.drop (min (0 : Int).toNat l.length)).take (min ((k : Int)).toNat l.length - min (0 : Int).toNat l.length) = l.take k := by
    simp
  rw [e1] at hr
  exact ⟨rfl, s, rfl, hr, Nat.le_trans (len_le (ok_take ol k)) (by simp; omega)⟩
theorem part_hi {w : World} {a : Slc} {l : List Nat} (h : Rd .u64 w a (nn l)) (ol : ok B64 l) (ll : l.length ≤ 2 ^ 46) (k : Nat) (n : Nat) (hn : n = l.length) :
    Calls pr mul_part_id #[a.v, .int .i64 (k : Int), .int .i64 (n : Int)] w fun e w' => w' = w ∧ ∃ s, e = .returned (Slc.v s) ∧ Rd .u64 w s (nn (digs B64 (val B64 (l.drop k)))) ∧ (digs B64 (val B64 (l.drop k))).length ≤ l.length - k := by
  refine Calls.mono (part_spec h ol ll (f := (k : Int)) (t := (n : Int)) (by omega) (by simp; omega) (by omega)) ?_
  rintro e w' ⟨rfl, s, rfl, hr⟩
  have e1 : (l.drop (min ((k : Int)).toNat l.length)).take (min ((n : Int)).toNat l.length - min ((k : Int)).toNat l.length) = l.drop k := by
    rw [hn]
    simp
    rw [Nat.min_def]; split
    · rw [List.take_of_length_le (by simp)]
    · rw [List.drop_of_length_le (Nat.le_refl _), List.drop_of_length_le (by omega)]; simp
  rw [e1] at hr
  exact ⟨rfl, s, rfl, hr, Nat.le_trans (len_le (ok_drop ol k)) (by simp)⟩

/-- An answer that is a row of the call's own with limbs of the number. -/
def Res (w : World) (N m : Nat) (e : Ending) (w' : World) : Prop := Ahead w w' ∧ ∃ s l, e = .returned (Slc.v s) ∧ OwnNil w.heap.size w' s l ∧ l.length ≤ m ∧ ok B64 l ∧ val B64 l = N

theorem kara (A B C D P : Nat) : A * C + ((A + B) * (C + D) - A * C - B * D) * P + B * D * (P * P) = (A + P * B) * (C + P * D) := by
  have h1 : (A + B) * (C + D) = A * C + A * D + B * C + B * D := by rw [Nat.add_mul, Nat.mul_add, Nat.mul_add]; omega
  have h2 : (A + B) * (C + D) - A * C - B * D = A * D + B * C := by rw [h1]; omega
  rw [h2, Nat.add_mul (A * D), Nat.mul_add (A + P * B), Nat.add_mul A, Nat.add_mul A]
  have e1 : A * (P * D) = A * D * P := by ac_rfl
  have e2 : P * B * C = B * C * P := by ac_rfl
  have e3 : P * B * (P * D) = B * D * (P * P) := by ac_rfl
  rw [e1, e2, e3]
  omega

set_option maxHeartbeats 2000000 in
theorem halved_spec : ∀ (n : Nat) (w : World) (a : Slc) (la : List Nat) (ha : Rd .u64 w a (nn la)) (oa : ok B64 la) (b : Slc) (lb : List Nat) (hb : Rd .u64 w b (nn lb)) (ob : ok B64 lb) (cut : Int) (hc0 : 4 ≤ cut) (hc1 : cut ≤ 9223372036854775807)
    (hsz : la.length + lb.length + 4 ≤ 2 ^ 44) (hn : la.length + lb.length ≤ n), Calls pr mul_halved_id #[a.v, b.v, .int .i64 cut] w (Res w (val B64 la * val B64 lb) (la.length + lb.length + 1)) := by
  have hB := B64v
  intro n
  induction n using Nat.strongRecOn with
  | ind n ih =>
  intro w a la ha oa b lb hb ob cut hc0 hc1 hsz hn
  have hna : a.n = la.length := by rw [ha.n, nn_length]
  have hnb : b.n = lb.length := by rw [hb.n, nn_length]
  refine mul_halved_vc a b cut w _ ?_
  have key : ∀ m, m < la.length + lb.length → ∀ (w : World) (a : Slc) (la : List Nat) (ha : Rd .u64 w a (nn la)) (oa : ok B64 la) (b : Slc) (lb : List Nat) (hb : Rd .u64 w b (nn lb)) (ob : ok B64 lb),
      la.length + lb.length + 4 ≤ 2 ^ 44 → la.length + lb.length ≤ m → Calls pr mul_halved_id #[a.v, b.v, .int .i64 cut] w (Res w (val B64 la * val B64 lb) (la.length + lb.length + 1)) :=
    fun m hm w a la ha oa b lb hb ob h1 h2 => ih m (by omega) w a la ha oa b lb hb ob cut hc0 hc1 h1 h2
  clear ih hn
  refine br_intro (fun hlt => ?_) (fun hge => ?_)
  have hle : la.length ≤ lb.length := by simp at hlt; omega
  clear hlt
  obtain ⟨p, e⟩ : ∃ p, p = b := ⟨_, rfl⟩
  subst e
  obtain ⟨q, e⟩ : ∃ q, q = a := ⟨_, rfl⟩
  subst e
  obtain ⟨lp, e⟩ : ∃ lp, lp = lb := ⟨_, rfl⟩
  subst e
  obtain ⟨lq, e⟩ : ∃ lq, lq = la := ⟨_, rfl⟩
  subst e
  rw [Nat.mul_comm, Nat.add_comm lq.length lp.length]
  rw [Nat.add_comm lq.length lp.length] at hsz key
  have hp := hb
  have hq := ha
  have op := ob
  have oq := oa
  have hnp := hnb
  have hnq := hna
  clear ha hb oa ob hna hnb
  rotate_left 1
  have hle : lb.length ≤ la.length := by simp at hge; omega
  clear hge
  obtain ⟨p, e⟩ : ∃ p, p = a := ⟨_, rfl⟩
  subst e
  obtain ⟨q, e⟩ : ∃ q, q = b := ⟨_, rfl⟩
  subst e
  obtain ⟨lp, e⟩ : ∃ lp, lp = la := ⟨_, rfl⟩
  subst e
  obtain ⟨lq, e⟩ : ∃ lq, lq = lb := ⟨_, rfl⟩
  subst e
  have hp := ha
  have hq := hb
  have op := oa
  have oq := ob
  have hnp := hna
  have hnq := hnb
  clear ha hb oa ob hna hnb
  rotate_left 1
  all_goals
    have hXY : val B64 lp * val B64 lq < B64 ^ (lp.length + lq.length + 1) := by
      have h1 := val_lt op
      have h2 := val_lt oq
      have h3 : val B64 lp * val B64 lq < B64 ^ (lp.length + lq.length) := by
        rw [Nat.pow_add]; exact Nat.mul_lt_mul_of_lt_of_lt h1 h2
      exact Nat.lt_of_lt_of_le h3 (Nat.pow_le_pow_right (by omega) (by omega))
    refine br_intro (fun hs => ?_) (fun hs => ?_)
    · refine Calls.mono (school_spec hp hq op oq (by omega)) ?_
      rintro e w1 ⟨h1, s, l, rfl, ho, hl, ol, hv⟩
      exact ⟨_, rfl, h1, s, l, rfl, ho, by omega, ol, hv⟩
    · have hq4 : 4 ≤ lq.length := by simp at hs; omega
      have ek : IntKind.i64.wrap (Int.tdiv (IntKind.i64.wrap ((p.n : Int) + 1)) 2) = (((lp.length + 1) / 2 : Nat) : Int) := by
        rw [wrap_i64 (x := (p.n : Int) + 1) (by omega) (by omega), Int.tdiv_eq_ediv_of_nonneg (by omega), wrap_i64 (by omega) (by omega)]; omega
      have em : IntKind.i64.wrap (IntKind.i64.wrap ((p.n : Int) + (q.n : Int)) + 1) = ((lp.length + lq.length + 1 : Nat) : Int) := by
        rw [wrap_i64 (x := (p.n : Int) + (q.n : Int)) (by omega) (by omega), wrap_i64 (by omega) (by omega)]; omega
      rw [ek, em]
      generalize hk : (lp.length + 1) / 2 = k at *
      have hX : val B64 lp = val B64 (lp.take k) + B64 ^ k * val B64 (lp.drop k) := val_take_drop lp k (by omega)
      refine br_intro (fun hu => ?_) (fun hu => ?_)
      · -- the shorter one is not parted
        refine mkN (by omega) (by omega) ?_
        intro c w2 hcc ho2 h2 hs2
        have hlc : (List.replicate ((lp.length + lq.length + 1 : Nat) : Int).toNat 0).length = lp.length + lq.length + 1 := by rw [List.length_replicate]; omega
        have hvc : val B64 (List.replicate ((lp.length + lq.length + 1 : Nat) : Int).toNat 0) = 0 := val_replicate _
        have olc : ok B64 (List.replicate ((lp.length + lq.length + 1 : Nat) : Int).toNat 0) := ok_replicate (by omega) _
        generalize List.replicate ((lp.length + lq.length + 1 : Nat) : Int).toNat 0 = C0 at *
        refine Calls.mono (part_lo (hp.ahead h2) op (by omega) k) ?_
        rintro e w3 ⟨rfl, s3, rfl, r3, l3⟩
        refine ⟨_, rfl, Calls.mono (key (k + lq.length) (by omega) _ _ _ r3 (ok_digs two64 _) _ _ (hq.ahead h2) oq (by omega) (by omega)) ?_⟩
        rintro e w4 ⟨h4, s4, L4, rfl, o4, n4, k4, v4⟩
        rw [val_digs two64] at v4
        have hpos : 0 < B64 ^ k := Nat.pow_pos (by omega)
        have hsum : val B64 lp * val B64 lq = val B64 (lp.take k) * val B64 lq + val B64 (lp.drop k) * val B64 lq * B64 ^ k := by
          rw [hX, Nat.add_mul]; congr 1; ac_rfl
        refine ⟨_, rfl, Calls.mono (addAt_spec (at_ := 0) (ho2.ahead h4) o4.rd (off_new o4 (by omega)) olc k4 (by omega) (by omega) (Nat.zero_le _) ?_) ?_⟩
        · rw [hvc, v4, hlc, Nat.pow_zero, Nat.mul_one, Nat.zero_add]
          exact Nat.lt_of_le_of_lt (by rw [hsum]; exact Nat.le_add_right _ _) hXY
        rintro e w5 ⟨rfl, hon5, l5, o5, n5, k5, v5⟩
        have h5 : Ahead w w5 := hon5.ahead (h2.trans h4) (Nat.le_refl _)
        refine ⟨rfl, ?_⟩
        rw [hnp]
        refine Calls.mono (part_hi (hp.ahead h5) op (by omega) k _ rfl) ?_
        rintro e w6 ⟨rfl, s5, rfl, r5, l5'⟩
        refine ⟨_, rfl, Calls.mono (key (lp.length - k + lq.length) (by omega) _ _ _ r5 (ok_digs two64 _) _ _ (hq.ahead h5) oq (by omega) (by omega)) ?_⟩
        rintro e w7 ⟨h7, s6, L6, rfl, o6, n6, k6, v6⟩
        rw [val_digs two64] at v6
        have hlt5 := o5.lt
        refine ⟨_, rfl, Calls.mono (addAt_spec (at_ := k) (o5.ahead h7) o6.rd (off_new o6 (by omega)) k5 k6 (by omega) (by omega) (by omega) ?_) ?_⟩
        · rw [v5, v6, n5, hlc, hvc, v4, Nat.pow_zero, Nat.mul_one, Nat.zero_add, ← hsum]
          exact hXY
        rintro e w8 ⟨rfl, hon8, l8, o8, n8, k8, v8⟩
        refine ⟨rfl, hon8.ahead (h5.trans h7) (Nat.le_refl _), c, l8, rfl, .inr ⟨_, Nat.le_refl _, by rw [hcc]; unfold maxLen; omega, o8⟩, by omega, k8, ?_⟩
        rw [v8, v5, v6, hvc, v4, Nat.pow_zero, Nat.mul_one, Nat.zero_add, hsum]
      · have hu' : k < lq.length := by simp at hu; omega
        have hY : val B64 lq = val B64 (lq.take k) + B64 ^ k * val B64 (lq.drop k) := val_take_drop lq k (by omega)
        refine Calls.mono (part_lo hp op (by omega) k) ?_
        rintro e w9 ⟨rfl, al, rfl, ral, nal⟩
        refine ⟨_, rfl, ?_⟩
        rw [hnp]
        refine Calls.mono (part_hi hp op (by omega) k _ rfl) ?_
        rintro e w10 ⟨rfl, ah, rfl, rah, nah⟩
        refine ⟨_, rfl, Calls.mono (part_lo hq oq (by omega) k) ?_⟩
        rintro e w11 ⟨rfl, bl', rfl, rbl, nbl⟩
        refine ⟨_, rfl, ?_⟩
        rw [hnq]
        refine Calls.mono (part_hi hq oq (by omega) k _ rfl) ?_
        rintro e w12 ⟨rfl, bh, rfl, rbh, nbh⟩
        have kal := ok_digs two64 (val B64 (lp.take k))
        have kah := ok_digs two64 (val B64 (lp.drop k))
        have kbl := ok_digs two64 (val B64 (lq.take k))
        have kbh := ok_digs two64 (val B64 (lq.drop k))
        have val1 := val_digs two64 (val B64 (lp.take k))
        have val2 := val_digs two64 (val B64 (lp.drop k))
        have val3 := val_digs two64 (val B64 (lq.take k))
        have val4 := val_digs two64 (val B64 (lq.drop k))
        generalize val B64 (lp.take k) = A at *
        generalize val B64 (lp.drop k) = B at *
        generalize val B64 (lq.take k) = C at *
        generalize val B64 (lq.drop k) = D at *
        refine ⟨_, rfl, Calls.mono (key (k + k) (by omega) _ _ _ ral kal _ _ rbl kbl (by omega) (by omega)) ?_⟩
        rintro e w13 ⟨h13, s11, L11, rfl, o11, n11, k11, v11⟩
        refine ⟨_, rfl, Calls.mono (key (lp.length - k + (lq.length - k)) (by omega) _ _ _ (rah.ahead h13) kah _ _ (rbh.ahead h13) kbh (by omega) (by omega)) ?_⟩
        rintro e w14 ⟨h14, s12, L12, rfl, o12, n12, k12, v12⟩
        have h014 := h13.trans h14
        refine ⟨_, rfl, Calls.mono (sum_spec (ral.ahead h014) (rah.ahead h014) kal kah (by omega) (by omega)) ?_⟩
        rintro e w15 ⟨h15, s13, L13, rfl, o13, n13, k13, v13⟩
        refine ⟨_, rfl, Calls.mono (Norm_spec o13.rd (by omega) k13) ?_⟩
        rintro e w16 ⟨h16, s14, rfl, o14⟩
        have h016 := (h014.trans h15).trans h16
        refine ⟨_, rfl, Calls.mono (sum_spec (rbl.ahead h016) (rbh.ahead h016) kbl kbh (by omega) (by omega)) ?_⟩
        rintro e w17 ⟨h17, s15, L15, rfl, o15, n15, k15, v15⟩
        refine ⟨_, rfl, Calls.mono (Norm_spec o15.rd (by omega) k15) ?_⟩
        rintro e w18 ⟨h18, s16, rfl, o16⟩
        have h018 := (h016.trans h17).trans h18
        have d13 := len_le k13
        have d15 := len_le k15
        refine ⟨_, rfl, Calls.mono (key (k + 1 + (k + 1)) (by omega) _ _ _ ((o14.ahead h17).ahead h18).rd (ok_digs two64 _) _ _ o16.rd (ok_digs two64 _) (by omega) (by omega)) ?_⟩
        rintro e w19 ⟨h19, s17, L17, rfl, o17, n17, k17, v17⟩
        rw [val_digs two64, val_digs two64, v13, v15, val1, val2, val3, val4] at v17
        rw [val1, val3] at v11
        rw [val2, val4] at v12
        have h019 := h018.trans h19
        have hAC : A * C + B * D ≤ (A + B) * (C + D) := by
          rw [Nat.add_mul, Nat.mul_add, Nat.mul_add]; omega
        have h1419 := ((((h15.trans h16).trans h17).trans h18).trans h19)
        have o11' := (o11.ahead h14).ahead h1419
        have o12' := o12.ahead h1419
        refine ⟨_, rfl, Calls.mono (less_spec o17.rd o11'.rd k17 k11 (by omega) (by omega) (by rw [v17, v11]; omega)) ?_⟩
        rintro e w20 ⟨h20, s18, L18, rfl, o18, n18, k18, v18⟩
        refine ⟨_, rfl, Calls.mono (less_spec o18.rd (o12'.ahead h20).rd k18 k12 (by omega) (by omega) (by rw [v18, v17, v11, v12]; omega)) ?_⟩
        rintro e w21 ⟨h21, s19, L19, rfl, o19, n19, k19, v19⟩
        rw [v18, v17, v11, v12] at v19
        have h021 := (h019.trans h20).trans h21
        have hsz21 := h021.size
        refine ⟨_, rfl, mkN (by omega) (by omega) ?_⟩
        intro c w22 hcc ho22 h22 hs22
        have hlc : (List.replicate ((lp.length + lq.length + 1 : Nat) : Int).toNat 0).length = lp.length + lq.length + 1 := by rw [List.length_replicate]; omega
        have hvc : val B64 (List.replicate ((lp.length + lq.length + 1 : Nat) : Int).toNat 0) = 0 := val_replicate _
        have olc : ok B64 (List.replicate ((lp.length + lq.length + 1 : Nat) : Int).toNat 0) := ok_replicate (by omega) _
        generalize List.replicate ((lp.length + lq.length + 1 : Nat) : Int).toNat 0 = C0 at *
        have r11 := ((o11'.ahead h20).ahead h21).rd
        have r12 := ((o12'.ahead h20).ahead h21).rd
        have r19 := o19.rd
        have hsum := kara A B C D (B64 ^ k)
        rw [← hX, ← hY] at hsum
        have f11 := rd_off r11 (Nat.le_refl w21.heap.size)
        have f12 := rd_off r12 (Nat.le_refl w21.heap.size)
        have f19 := rd_off r19 (Nat.le_refl w21.heap.size)
        have hpw : B64 ^ (2 * k) = B64 ^ k * B64 ^ k := by rw [Nat.two_mul, Nat.pow_add]
        refine Calls.mono (addAt_spec (at_ := 0) ho22 (r11.ahead h22) f11 olc k11 (by omega) (by omega) (Nat.zero_le _) ?_) ?_
        · rw [hvc, v11, hlc, Nat.pow_zero, Nat.mul_one, Nat.zero_add]
          exact Nat.lt_of_le_of_lt (by rw [← hsum]; omega) hXY
        rintro e w23 ⟨rfl, hon23, l23, o23, n23, k23, v23⟩
        rw [hvc, v11, Nat.pow_zero, Nat.mul_one, Nat.zero_add] at v23
        refine ⟨rfl, Calls.mono (addAt_spec (at_ := k) o23 (hon23.rd (r19.ahead h22) f19) f19 k23 k19 (by omega) (by omega) (by omega) ?_) ?_⟩
        · rw [v23, v19, n23, hlc]
          exact Nat.lt_of_le_of_lt (by rw [← hsum]; omega) hXY
        rintro e w24 ⟨rfl, hon24, l24, o24, n24, k24, v24⟩
        rw [v23, v19] at v24
        have hon := hon23.trans hon24
        have e2k : IntKind.i64.wrap (2 * ((k : Nat) : Int)) = ((2 * k : Nat) : Int) := by rw [wrap_i64 (by omega) (by omega)]; omega
        rw [e2k]
        refine ⟨rfl, Calls.mono (addAt_spec (at_ := 2 * k) o24 (hon.rd (r12.ahead h22) f12) f12 k24 k12 (by omega) (by omega) (by omega) ?_) ?_⟩
        · rw [v24, v12, n24, n23, hlc, hpw, hsum]
          exact hXY
        rintro e w25 ⟨rfl, hon25, l25, o25, n25, k25, v25⟩
        rw [v24, v12, hpw, hsum] at v25
        exact ⟨rfl, (hon.trans hon25).ahead (h021.trans h22) hsz21, c, l25, rfl, .inr ⟨_, hsz21, by rw [hcc]; unfold maxLen; omega, o25⟩, by omega, k25, v25⟩

end Mul
end Go.Proofs.YtbeiopoejdkheaaGreatDoor
namespace Go.Proofs.YtbeiopoejdkheaaGreatDoor
open Go Go.RowKit Eng Sp Dg
set_option linter.unusedVariables false
set_option linter.unusedSimpArgs false
set_option maxRecDepth 100000
namespace Mul
open _root_.Go.Proofs.YtbeiopoejdkheaaGreatDoor.Nat (ldN ldNf stN mkN Num OwnNil len_le Norm_spec Length_spec Ret bigC bigC_ok own_num digs_len_bl Yes)

theorem fits_spec {w : World} {s : Slc} {l : List Nat} (h : Rd .u64 w s (nn l)) (hl : l.length ≤ 2 ^ 44) (ol : ok B64 l) : Calls pr mul_fits_id #[s.v] w (Ret w (bigC (val B64 l)) (val B64 l)) := by
  have hd := len_le ol
  refine mul_fits_vc s w _ (Calls.mono (Norm_spec h hl ol) ?_)
  rintro e w1 ⟨h1, t, rfl, ho⟩
  refine ⟨_, rfl, Calls.mono (Length_spec ho.rd (by omega) (ok_digs two64 _)) ?_⟩
  rintro e w2 ⟨rfl, rfl⟩
  rw [val_digs two64]
  refine ⟨_, rfl, br_intro (fun hb => ?_) (fun hb => ?_)⟩
  · have hc : bigC (val B64 l) = 3 := by rw [bigC, if_neg (by simp at hb; omega)]
    rw [hc]
    exact ⟨h1, _, rfl, by rw [if_neg (by omega)]; exact OwnNil.nil⟩
  · have hc : bigC (val B64 l) = 0 := by rw [bigC, if_pos (by simp at hb; omega)]
    rw [hc]
    exact ⟨h1, _, rfl, by rw [if_pos rfl]; exact ho⟩

theorem bl_mul {x y : Nat} (hx : x ≠ 0) (hy : y ≠ 0) : bl x + bl y - 1 ≤ bl (x * y) := by
  have h1 := (bl_bounds hx).1
  have h2 := (bl_bounds hy).1
  have p1 := bl_pos hx
  have p2 := bl_pos hy
  have h3 := Nat.mul_le_mul h1 h2
  rw [← Nat.pow_add] at h3
  rcases Nat.lt_or_ge (bl (x * y)) (bl x + bl y - 1) with h | h
  · exfalso
    have h4 := bl_le_iff.1 (show bl (x * y) ≤ bl x - 1 + (bl y - 1) by omega)
    omega
  · exact h

theorem great_spec {w : World} {a b : Slc} {x y : Nat} (ha : Num w a x) (hb : Num w b y) :
    Calls pr mul_great_id #[a.v, b.v] w fun e w' => w' = w ∧ ∃ c : Bool, e = .returned (.bool c) ∧ (c = true ↔ x ≠ 0 ∧ y ≠ 0 ∧ 67108864 < bl x + bl y - 1) := by
  have bx := ha.bl
  have by' := hb.bl
  refine mul_great_vc a b w _ (Calls.mono (Nat.len_num ha) ?_)
  rintro e w1 ⟨rfl, rfl⟩
  refine ⟨_, rfl, Calls.mono (Nat.len_num hb) ?_⟩
  rintro e w2 ⟨rfl, rfl⟩
  have zx : bl x = 0 ↔ x = 0 := ⟨fun h => by rcases Nat.eq_zero_or_pos x with h1 | h1; exact h1; have := bl_pos (n := x) (by omega); omega, fun h => by rw [h, bl_zero]⟩
  have zy : bl y = 0 ↔ y = 0 := ⟨fun h => by rcases Nat.eq_zero_or_pos y with h1 | h1; exact h1; have := bl_pos (n := y) (by omega); omega, fun h => by rw [h, bl_zero]⟩
  refine ⟨_, rfl, br_intro (fun h => br_intro (fun h' => ?_) (fun h' => ?_)) (fun h => ?_)⟩
  · have h1 : 0 < bl x := by simp at h; omega
    have h2 : 0 < bl y := by simp at h'; omega
    rw [wrap_i64 (x := (bl x : Int) + (bl y : Int)) (by omega) (by omega), wrap_i64 (by omega) (by omega)]
    refine ⟨rfl, _, rfl, ?_⟩
    simp only [decide_eq_true_eq]
    constructor
    · intro h3
      exact ⟨fun e => by have := zx.2 e; omega, fun e => by have := zy.2 e; omega, by omega⟩
    · rintro ⟨_, _, h3⟩
      omega
  · have h2 : bl y = 0 := by simp at h'; omega
    exact ⟨rfl, _, rfl, by simp [zy.1 h2]⟩
  · have h2 : bl x = 0 := by simp at h; omega
    exact ⟨rfl, _, rfl, by simp [zx.1 h2]⟩

theorem Mul_spec {w : World} {a b : Slc} {x y : Nat} (ha : Num w a x) (hb : Num w b y) (la : (digs B64 x).length + 16 ≤ 2 ^ 44) (lb : (digs B64 y).length + 16 ≤ 2 ^ 44) :
    Calls pr mul_Mul_id #[a.v, b.v] w (Ret w (bigC (x * y)) (x * y)) := by
  obtain ⟨l, ra, na, oa, rfl⟩ := ha
  obtain ⟨m, rb, nb, ob, rfl⟩ := hb
  refine mul_Mul_vc a b w _ ?_
  refine mul_product__mul_Mul_1_vc a b w _ (Calls.mono (Norm_spec ra na oa) ?_)
  rintro e w1 ⟨h1, s, rfl, os⟩
  refine ⟨_, rfl, Calls.mono (Norm_spec (rb.ahead h1) nb ob) ?_⟩
  rintro e w2 ⟨h2, t, rfl, ot⟩
  have h12 := h1.trans h2
  have rs := (os.ahead h2).rd
  have rt := ot.rd
  have ns : Num w2 s (val B64 l) := ⟨_, rs, by omega, ok_digs two64 _, val_digs two64 _⟩
  have nt : Num w2 t (val B64 m) := ⟨_, rt, by omega, ok_digs two64 _, val_digs two64 _⟩
  generalize val B64 l = x at *
  generalize val B64 m = y at *
  refine ⟨_, rfl, Calls.mono (great_spec ns nt) ?_⟩
  rintro e w3 ⟨rfl, c, rfl, hc⟩
  refine ⟨_, rfl, br_intro (fun h => ?_) (fun h => ?_)⟩
  · obtain ⟨h3, h4, h5⟩ := hc.1 h
    have := bl_mul h3 h4
    have hcc : bigC (x * y) = 3 := by rw [bigC, if_neg (by omega)]
    rw [hcc]
    exact ⟨_, _, rfl, h12, _, rfl, by rw [if_neg (by omega)]; exact OwnNil.nil⟩
  · have hsz : (digs B64 x).length + (digs B64 y).length + 16 ≤ 2 ^ 44 := by
      by_cases hx : x = 0
      · subst hx; rw [digs_zero]; simp; omega
      · by_cases hy : y = 0
        · subst hy; rw [digs_zero]; simp; omega
        · have hbl : bl x + bl y - 1 ≤ 67108864 := by
            rcases Nat.lt_or_ge 67108864 (bl x + bl y - 1) with h6 | h6
            · have := hc.2 ⟨hx, hy, h6⟩; rw [h] at this; cases this
            · exact h6
          have p1 := bl_pos hx
          have p2 := bl_pos hy
          have := digs_len_bl (N := x) (m := 2 ^ 21) (by omega)
          have := digs_len_bl (N := y) (m := 2 ^ 21) (by omega)
          omega
    refine mul_Mul_1_vc s t w3 _ (Calls.mono (halved_spec _ w3 s _ rs (ok_digs two64 x) t _ rt (ok_digs two64 y) 40 (by omega) (by omega) (by omega) (Nat.le_refl _)) ?_)
    rintro e w4 ⟨h4, u, L, rfl, ou, nu, ku, vu⟩
    rw [val_digs two64, val_digs two64] at vu
    refine ⟨_, rfl, _, rfl, Calls.mono (fits_spec ou.rd (by omega) ku) ?_⟩
    rw [vu]
    rintro e w5 ⟨h5, v, rfl, ov⟩
    have hsz := (h12.trans h4).size
    exact ⟨_, _, rfl, _, _, rfl, (h12.trans h4).trans h5, _, rfl, ov.mono hsz⟩

end Mul
end Go.Proofs.YtbeiopoejdkheaaGreatDoor
namespace Go.Proofs.YtbeiopoejdkheaaGreatDoor
open Go Go.RowKit Eng Sp Dg
set_option linter.unusedVariables false
set_option linter.unusedSimpArgs false
set_option maxRecDepth 100000
namespace Mul
open _root_.Go.Proofs.YtbeiopoejdkheaaGreatDoor.Nat (Num OwnNil Ret bigC bigC_ok digs_len_bl Yes num_of)
open _root_.Go.Proofs.YtbeiopoejdkheaaGreatDoor.Ref (RN Of_spec rMul_spec Len_spec zero_spec bl_len32)

theorem len32 {l : List Nat} (h : ok B64 l) : (digs B32 (val B64 l)).length ≤ 2 * l.length := by
  refine digs_length_le two32 ?_
  rw [← Ref.b64_sq]
  exact val_lt h

end Mul
end Go.Proofs.YtbeiopoejdkheaaGreatDoor
namespace Go.Proofs.YtbeiopoejdkheaaGreatDoor
open Go Go.RowKit Eng Sp Dg
set_option linter.unusedVariables false
set_option linter.unusedSimpArgs false
set_option maxRecDepth 100000
namespace Mul
open _root_.Go.Proofs.YtbeiopoejdkheaaGreatDoor.Nat (Num OwnNil Ret bigC bigC_ok digs_len_bl Yes num_of)
open _root_.Go.Proofs.YtbeiopoejdkheaaGreatDoor.Ref (RN Of_spec rMul_spec Len_spec zero_spec bl_len32)

theorem lit_rd (k : IntKind) (t : TypeId) (w : World) (l : List Int) : Rd k (w.alloc (.cells (ints k l).toArray t (0, 0))) ⟨some ⟨w.heap.size, 0, none⟩, l.length, l.length⟩ l :=
  Owr.rd (t := t) (b := w.heap.size) ⟨rfl, [], by simp, by rw [get_alloc]; simp⟩

/-- What reads as limbs of a number, of a size that the laws' own functions take. -/
def NumB (w : World) (s : Slc) (n : Nat) : Prop := ∃ l, Rd .u64 w s (nn l) ∧ l.length * 8 ≤ 140737488351232 ∧ ok B64 l ∧ val B64 l = n
theorem NumB.num {w : World} {s : Slc} {n : Nat} (h : NumB w s n) : Num w s n := by
  obtain ⟨l, h1, h2, h3, h4⟩ := h; exact ⟨l, h1, by omega, h3, h4⟩
theorem NumB.ahead {w w' : World} {s : Slc} {n : Nat} (h : NumB w s n) (ha : Ahead w w') : NumB w' s n := by
  obtain ⟨l, h1, h2⟩ := h; exact ⟨l, h1.ahead ha, h2⟩
theorem NumB.len {w : World} {s : Slc} {n : Nat} (h : NumB w s n) : (digs B64 n).length * 8 ≤ 140737488351232 ∧ (digs B32 n).length ≤ 2 ^ 45 - 1024 := by
  obtain ⟨l, h1, h2, h3, rfl⟩ := h
  have := Nat.len_le h3
  have := len32 h3
  omega

end Mul
end Go.Proofs.YtbeiopoejdkheaaGreatDoor
namespace Go.Proofs.YtbeiopoejdkheaaGreatDoor
open Go Go.RowKit Eng Sp Dg
set_option linter.unusedVariables false
set_option linter.unusedSimpArgs false
set_option maxRecDepth 100000
namespace Dg

theorem fB (c0 c1 c2 c3 c4 c5 c6 c7 : Nat) : (c0 + c1 + 256 * (c1 + c2)) + 65536 * (c2 + c3 + 256 * (c3 + c4) + 65536 * (c4 + c5 + 256 * (c5 + c6) + 65536 * (c6 + c7 + 256 * c7))) + (c2 + c3 + 256 * (c3 + c4) + 65536 * (c4 + c5 + 256 * (c5 + c6) + 65536 * (c6 + c7 + 256 * c7))) =
    (c0 + c1 + c2 + c3 + 256 * (c1 + c2 + c3 + c4) + 65536 * (c2 + c3 + c4 + c5 + 256 * (c3 + c4 + c5 + c6))) + 4294967296 * (c4 + c5 + c6 + c7 + 256 * (c5 + c6 + c7) + 65536 * (c6 + c7 + 256 * c7)) := by omega
end Dg
namespace Nat
theorem andI_i64 {x y : Nat} (hx : x < 9223372036854775808) (hy : y < 9223372036854775808) : andI .i64 (x : Int) (y : Int) = ((x &&& y : Nat) : Int) := by
  unfold andI
  have e : (BitVec.ofInt IntKind.i64.bits (x : Int) &&& BitVec.ofInt IntKind.i64.bits (y : Int)).toNat = x &&& y := by
    rw [BitVec.toNat_and, BitVec.ofInt_natCast, BitVec.ofInt_natCast, BitVec.toNat_ofNat, BitVec.toNat_ofNat]
    show x % 2 ^ 64 &&& y % 2 ^ 64 = _
    rw [Nat.mod_eq_of_lt (by omega), Nat.mod_eq_of_lt (by omega)]
  rw [e]
  have : x &&& y < 2 ^ 63 := Nat.and_lt_two_pow _ (by omega)
  exact wrap_i64 (by omega) (by omega)
theorem fdivN (x k : Nat) : Int.fdiv (x : Int) (2 ^ (k : Nat)) = ((x / 2 ^ k : Nat) : Int) := by
  rw [Int.fdiv_eq_ediv_of_nonneg _ (Int.le_of_lt (Int.pow_pos (by omega)))]
  norm_cast

end Nat
end Go.Proofs.YtbeiopoejdkheaaGreatDoor
namespace Go.Proofs.YtbeiopoejdkheaaGreatDoor
open Go Go.RowKit Eng Sp Dg
set_option linter.unusedVariables false
set_option linter.unusedSimpArgs false
set_option maxRecDepth 100000
namespace Nat

theorem binQuo {x y : Nat} {t : TypeId} (hx : x < B64) (hy : y ≠ 0) : binOp .quo t (.int .u64 (x : Int)) (.int .u64 (y : Int)) = pure (.int .u64 ((x / y : Nat) : Int)) := by
  have e : Int.tdiv (x : Int) (y : Int) = ((x / y : Nat) : Int) := by rw [Int.tdiv_eq_ediv_of_nonneg (by omega)]; simp
  have hle := Nat.div_le_self x y
  have hB := B64v
  unfold binOp
  simp only [Op.intDiv]
  rw [if_neg (by simp), if_neg (by simpa using hy)]
  simp only [e]
  generalize x / y = q at *
  rw [wrap_u64' (by omega) (by omega)]
theorem binRem {x y : Nat} {t : TypeId} (hx : x < B64) (hy : y ≠ 0) : binOp .rem t (.int .u64 (x : Int)) (.int .u64 (y : Int)) = pure (.int .u64 ((x % y : Nat) : Int)) := by
  have e : Int.tmod (x : Int) (y : Int) = ((x % y : Nat) : Int) := by rw [Int.tmod_eq_emod_of_nonneg (by omega)]; simp
  have hle := Nat.mod_le x y
  have hB := B64v
  unfold binOp
  simp only [Op.intDiv]
  rw [if_neg (by simp), if_neg (by simpa using hy)]
  simp only [e]

theorem semQuo {x y : Nat} {t : TypeId} {w : World} {K : Int → World → Prop} (hx : x < B64) (hy : y ≠ 0) (h : K ((x / y : Nat) : Int) w) : semI pr .u64 (binOp .quo t (.int .u64 (x : Int)) (.int .u64 (y : Int))) w K := by
  unfold semI
  rw [binQuo hx hy, Sem.wp_iff_run]
  exact ⟨_, rfl, h⟩
theorem fixQuo {x y : Nat} {t : TypeId} {w : World} {K : Int → Prop} (hx : x < B64) (hy : y ≠ 0) (h : K ((x / y : Nat) : Int)) : fixI pr .u64 (binOp .quo t (.int .u64 (x : Int)) (.int .u64 (y : Int))) w K := by
  rw [fixI, binQuo hx hy]
  exact ⟨_, fun _ _ => rfl, h⟩
theorem fixRem {x y : Nat} {t : TypeId} {w : World} {K : Int → Prop} (hx : x < B64) (hy : y ≠ 0) (h : K ((x % y : Nat) : Int)) : fixI pr .u64 (binOp .rem t (.int .u64 (x : Int)) (.int .u64 (y : Int))) w K := by
  rw [fixI, binRem hx hy]
  exact ⟨_, fun _ _ => rfl, h⟩

/-- The guess q, with its rest r, of U b + u through y = y1 b + y0. -/
structure Guess (U u y y1 y0 q r : Nat) : Prop where
  eq : q * y1 + r = U
  ge : (U * 4294967296 + u) / y ≤ q
theorem Guess.over {U u y y1 y0 q r : Nat} (h : Guess U u y y1 y0 q r) (hy : y = y1 * 4294967296 + y0) : q * y0 > 4294967296 * r + u ↔ q * y > U * 4294967296 + u := by
  have e1 : q * y = q * y1 * 4294967296 + q * y0 := by rw [hy, Nat.mul_add, Nat.mul_assoc]
  have := h.eq
  generalize q * y1 = A at *
  generalize q * y0 = B at *
  generalize q * y = C at *
  omega
theorem Guess.less {U u y y1 y0 q r : Nat} (h : Guess U u y y1 y0 q r) (hq : 0 < q) (hl : (U * 4294967296 + u) / y < q) : Guess U u y y1 y0 (q - 1) (r + y1) := by
  refine ⟨?_, by omega⟩
  have := h.eq
  obtain ⟨k, rfl⟩ : ∃ k, q = k + 1 := ⟨q - 1, by omega⟩
  rw [Nat.add_sub_cancel]
  rw [Nat.succ_mul] at this
  omega
theorem Guess.done {U u y y1 y0 q r : Nat} (h : Guess U u y y1 y0 q r) (hy0 : 0 < y) (hl : q * y ≤ U * 4294967296 + u) : q = (U * 4294967296 + u) / y :=
  Nat.le_antisymm ((Nat.le_div_iff_mul_le hy0).2 hl) h.ge
theorem Guess.far {U u y y1 y0 q r : Nat} (h : Guess U u y y1 y0 q r) (hy : y = y1 * 4294967296 + y0) (h0 : y0 < 4294967296) (hq : q ≤ 4294967296) (hr : 4294967296 ≤ r) : q * y ≤ U * 4294967296 + u := by
  have e1 : q * y = q * y1 * 4294967296 + q * y0 := by rw [hy, Nat.mul_add, Nat.mul_assoc]
  have := h.eq
  have h2 : q * y0 ≤ 4294967296 * 4294967295 := Nat.mul_le_mul hq (by omega)
  generalize q * y1 = A at *
  generalize q * y0 = B at *
  generalize q * y = C at *
  omega
theorem Guess.first {U u y y1 y0 : Nat} (hy : y = y1 * 4294967296 + y0) (h1 : 2147483648 ≤ y1) (h0 : y0 < 4294967296) (hu : u < 4294967296) (hU : U < y) :
    Guess U u y y1 y0 (U / y1) (U - U / y1 * y1) ∧ U / y1 ≤ 4294967297 ∧ U - U / y1 * y1 < 4294967296 + y1 := by
  have hd := Nat.div_add_mod U y1
  have hm := Nat.mod_lt U (show y1 > 0 by omega)
  have hc : y1 * (U / y1) = U / y1 * y1 := Nat.mul_comm _ _
  refine ⟨⟨by omega, ?_⟩, ?_, by omega⟩
  · rw [← Nat.lt_succ_iff, Nat.div_lt_iff_lt_mul (by omega)]
    have e1 : (U / y1).succ * y = (U / y1 * y1 + y1) * 4294967296 + (U / y1).succ * y0 := by
      rw [hy, Nat.mul_add, ← Nat.mul_assoc, Nat.succ_mul]
    rw [e1]
    have : U + 1 ≤ U / y1 * y1 + y1 := by omega
    generalize U / y1 * y1 = A at *
    generalize (U / y1).succ * y0 = B at *
    omega
  · rw [← Nat.lt_succ_iff, Nat.div_lt_iff_lt_mul (by omega)]
    omega
theorem quot_lt {U u y : Nat} (hu : u < 4294967296) (hU : U < y) : (U * 4294967296 + u) / y < 4294967296 := by
  rw [Nat.div_lt_iff_lt_mul (by omega)]; omega
/-- What stays, reckoned modulo 2^64. -/
theorem rest_wrap {U u y q : Nat} (hy : y < 18446744073709551616) (hy0 : 0 < y) (hq : q = (U * 4294967296 + u) / y) :
    IntKind.u64.wrap (IntKind.u64.wrap (IntKind.u64.wrap ((U : Int) * 4294967296) + (u : Int)) - IntKind.u64.wrap ((q : Int) * (y : Int))) = (((U * 4294967296 + u) % y : Nat) : Int) := by
  have hd := Nat.div_add_mod (U * 4294967296 + u) y
  have hm := Nat.mod_lt (U * 4294967296 + u) hy0
  rw [← hq, Nat.mul_comm] at hd
  have e : (q : Int) * (y : Int) = ((q * y : Nat) : Int) := by push_cast; rfl
  rw [e, wrap_u64, wrap_u64, wrap_u64, wrap_u64]
  generalize (U * 4294967296 + u) % y = m at *
  generalize q * y = C at *
  omega

def J0r (w : World) (Y s y1 y0 U u1 u0 : Nat) (t2 t8 t9 t10 t11 t13 t14 t15 t16 : Int) (w' : World) : Prop :=
  w' = w ∧ t2 = (Y : Int) ∧ t8 = (s : Int) ∧ t9 = (y1 : Int) ∧ t10 = (y0 : Int) ∧ t11 = (U : Int) ∧ t13 = (u1 : Int) ∧ t14 = (u0 : Int) ∧ ∃ q r : Nat, t15 = (q : Int) ∧ t16 = (r : Int) ∧ Guess U u1 Y y1 y0 q r ∧ r < 4294967296 ∧ q ≤ 4294967297
def J2r (w : World) (Y s y1 y0 u0 Q1 R1 : Nat) (t2 t8 t9 t10 t14 t15 t16 t17 t18 : Int) (w' : World) : Prop :=
  w' = w ∧ t2 = (Y : Int) ∧ t8 = (s : Int) ∧ t9 = (y1 : Int) ∧ t10 = (y0 : Int) ∧ t14 = (u0 : Int) ∧ t15 = (Q1 : Int) ∧ t17 = (R1 : Int) ∧ ∃ q r : Nat, t18 = (q : Int) ∧ t16 = (r : Int) ∧ Guess R1 u0 Y y1 y0 q r ∧ r < 4294967296 ∧ q ≤ 4294967297
theorem guess_wrap {U y1 : Nat} (hU : U < B64) (h1 : 0 < y1) : IntKind.u64.wrap ((U : Int) - IntKind.u64.wrap (((U / y1 : Nat) : Int) * (y1 : Int))) = ((U - U / y1 * y1 : Nat) : Int) ∧ U - U / y1 * y1 < y1 := by
  have hB := B64v
  have hd := Nat.div_mul_le_self U y1
  have h2 := Nat.div_add_mod U y1
  have h3 := Nat.mod_lt U h1
  have h4 : y1 * (U / y1) = U / y1 * y1 := Nat.mul_comm _ _
  have e : ((U / y1 : Nat) : Int) * (y1 : Int) = ((U / y1 * y1 : Nat) : Int) := by push_cast; rfl
  rw [e]
  generalize U / y1 * y1 = A at *
  refine ⟨?_, by omega⟩
  rw [wrap_u64' (x := (A : Int)) (by omega) (by omega), wrap_u64' (by omega) (by omega)]
  omega
theorem exit1 {w : World} {Y s y1 y0 u0 Q1 R1 : Nat} (eY : Y = y1 * 4294967296 + y0) (hy1lo : 2147483648 ≤ y1) (hy1hi : y1 < 4294967296) (hy0lt : y0 < 4294967296) (hu0lt : u0 < 4294967296) (hR : R1 < Y) :
    semI pr .u64 (binOp .quo tU64 (.int .u64 (R1 : Int)) (.int .u64 (y1 : Int))) w fun x9 w8 => J2r w Y s y1 y0 u0 Q1 R1 Y s y1 y0 u0 Q1 (IntKind.u64.wrap ((R1 : Int) - IntKind.u64.wrap (x9 * (y1 : Int)))) R1 x9 w8 := by
  have hB := B64v
  obtain ⟨k1, k2, k3⟩ := Guess.first (u := u0) eY hy1lo hy0lt hu0lt hR
  obtain ⟨e6, hm⟩ := guess_wrap (U := R1) (y1 := y1) (by omega) (by omega)
  refine semQuo (by omega) (by omega) ?_
  rw [e6]
  exact ⟨rfl, rfl, rfl, rfl, rfl, rfl, rfl, rfl, _, _, rfl, rfl, k1, by omega, k2⟩

theorem Div64_spec {w : World} {hi lo y : Nat} (hh : hi < y) (hl : lo < B64) (hy : y < B64) :
    Calls pr bits_Div64_id #[.int .u64 (hi : Int), .int .u64 (lo : Int), .int .u64 (y : Int)] w fun e w' => Ahead w w' ∧ e = .returned (.tuple #[.int .u64 (((hi * B64 + lo) / y : Nat) : Int), .int .u64 (((hi * B64 + lo) % y : Nat) : Int)]) := by
  have hB := B64v
  obtain ⟨s, hs⟩ : ∃ s, s = 64 - bl y := ⟨_, rfl⟩
  have hbl : bl y ≤ 64 := bl_le_iff.2 hy
  have hbp : 0 < bl y := bl_pos (by omega)
  obtain ⟨Y, hY⟩ : ∃ Y, Y = y * 2 ^ s := ⟨_, rfl⟩
  obtain ⟨M, hM⟩ : ∃ M, M = (hi * B64 + lo) * 2 ^ s := ⟨_, rfl⟩
  have hp : 0 < 2 ^ s := Nat.pow_pos (by omega)
  have hYlo : 9223372036854775808 ≤ Y := by
    have h1 : 2 ^ (bl y - 1) ≤ y := by
      rcases Nat.lt_or_ge y (2 ^ (bl y - 1)) with h | h
      · have := bl_le h; omega
      · exact h
    have h2 : (2 : Nat) ^ (bl y - 1) * 2 ^ s = 9223372036854775808 := by rw [← Nat.pow_add, show bl y - 1 + s = 63 by omega]
    rw [hY, ← h2]
    exact Nat.mul_le_mul_right _ h1
  have hYhi : Y < 18446744073709551616 := by
    have h1 := bl_le_iff.1 (Nat.le_refl (bl y))
    have h2 : (2 : Nat) ^ bl y * 2 ^ s = 18446744073709551616 := by rw [← Nat.pow_add, show bl y + s = 64 by omega]
    rw [hY, ← h2]
    exact Nat.mul_lt_mul_of_pos_right h1 hp
  -- the parts
  obtain ⟨y1, hy1⟩ : ∃ y1, y1 = Y / 4294967296 := ⟨_, rfl⟩
  obtain ⟨y0, hy0⟩ : ∃ y0, y0 = Y % 4294967296 := ⟨_, rfl⟩
  obtain ⟨U, hU⟩ : ∃ U, U = M / 18446744073709551616 := ⟨_, rfl⟩
  obtain ⟨L, hL⟩ : ∃ L, L = M % 18446744073709551616 := ⟨_, rfl⟩
  obtain ⟨u1, hu1⟩ : ∃ u1, u1 = L / 4294967296 := ⟨_, rfl⟩
  obtain ⟨u0, hu0⟩ : ∃ u0, u0 = L % 4294967296 := ⟨_, rfl⟩
  have eY : Y = y1 * 4294967296 + y0 := by omega
  have hUY : U < Y := by
    rw [hU, Nat.div_lt_iff_lt_mul (by omega), hM, hY, Nat.mul_right_comm]
    refine Nat.mul_lt_mul_of_pos_right ?_ hp
    rw [← hB]
    calc hi * B64 + lo < hi * B64 + B64 := by omega
      _ = (hi + 1) * B64 := by rw [Nat.succ_mul]
      _ ≤ y * B64 := Nat.mul_le_mul_right _ hh
  have hu1lt : u1 < 4294967296 := by omega
  have hu0lt : u0 < 4294967296 := by omega
  have hy0lt : y0 < 4294967296 := by omega
  have hy1lo : 2147483648 ≤ y1 := by omega
  have hy1hi : y1 < 4294967296 := by omega
  obtain ⟨Q1, hQ1⟩ : ∃ Q1, Q1 = (U * 4294967296 + u1) / Y := ⟨_, rfl⟩
  obtain ⟨R1, hR1⟩ : ∃ R1, R1 = (U * 4294967296 + u1) % Y := ⟨_, rfl⟩
  have hR1lt : R1 < Y := by rw [hR1]; exact Nat.mod_lt _ (by omega)
  have hQ1lt := quot_lt hu1lt hUY
  rw [← hQ1] at hQ1lt
  obtain ⟨Q0, hQ0⟩ : ∃ Q0, Q0 = (R1 * 4294967296 + u0) / Y := ⟨_, rfl⟩
  have hQ0lt := quot_lt hu0lt hR1lt
  rw [← hQ0] at hQ0lt
  have eM : M = (U * 4294967296 + u1) * 4294967296 + u0 := by omega
  have hq : (hi * B64 + lo) / y = Q1 * 4294967296 + Q0 := by
    have e1 : (hi * B64 + lo) / y = M / Y := by rw [hM, hY, Nat.mul_div_mul_right _ _ hp]
    have d1 := Nat.div_add_mod (U * 4294967296 + u1) Y
    have d0 := Nat.div_add_mod (R1 * 4294967296 + u0) Y
    rw [← hQ1, ← hR1] at d1
    have m0 := Nat.mod_lt (R1 * 4294967296 + u0) (show Y > 0 by omega)
    rw [← hQ0] at d0
    rw [e1]
    refine Nat.div_eq_of_lt_le ?_ ?_
    · rw [eM, ← d1, Nat.add_mul, Nat.add_mul, Nat.mul_comm Y Q1] 
      have : Q1 * 4294967296 * Y = Q1 * Y * 4294967296 := Nat.mul_right_comm _ _ _
      have e3 : Y * Q0 = Q0 * Y := Nat.mul_comm _ _
      omega
    · rw [eM, ← d1, Nat.add_mul, Nat.succ_mul, Nat.add_mul, Nat.mul_comm Y Q1]
      have : Q1 * 4294967296 * Y = Q1 * Y * 4294967296 := Nat.mul_right_comm _ _ _
      have e3 : Y * Q0 = Q0 * Y := Nat.mul_comm _ _
      omega
  have hr : (R1 * 4294967296 + u0) % Y / 2 ^ s = (hi * B64 + lo) % y := by
    have e2 : (R1 * 4294967296 + u0) % Y = M % Y := by
      rw [eM, hR1]
      have d1 := Nat.div_add_mod (U * 4294967296 + u1) Y
      rw [← hQ1] at d1
      conv => rhs; rw [← d1, Nat.add_mul, Nat.mul_assoc, Nat.add_assoc, Nat.mul_add_mod]
    rw [e2, hM, hY, Nat.mul_mod_mul_right, Nat.mul_div_cancel _ hp]
  refine bits_Div64_vc hi lo y w _ (J0r w Y s y1 y0 U u1 u0) (fun _ _ _ _ _ _ _ t15 _ _ => t15.toNat) (J2r w Y s y1 y0 u0 Q1 R1)
    (fun _ _ _ _ _ _ _ _ t18 _ => t18.toNat) ?_ ?_ ?_
  · refine br_false (by simp; omega) (br_false (by simp; omega) (br_intro (fun h0 => ?_) (fun h0 => ?_)))
    · have h0' : hi = 0 := by simpa using h0
      refine fixQuo hl (by omega) (fixRem hl (by omega) fun w1 ha => ⟨ha, ?_⟩)
      rw [h0', Nat.zero_mul, Nat.zero_add]
    · have hlz := Tryz.bits_LeadingZeros64 (y : Int) w (by omega) (by omega)
      refine Calls.mono hlz ?_
      rintro e w1 ⟨rfl, rfl⟩
      have e3 : (64 : Int) - (Lib.bitLen ((y : Int)).toNat : Int) = (s : Int) := by
        rw [Int.toNat_natCast, bitLen_eq hy]; omega
      rw [e3]
      have e4 : IntKind.u64.wrap (s : Int) = (s : Int) := wrap_u64' (by omega) (by omega)
      have e5 : IntKind.u64.wrap (64 - (s : Int)) = ((64 - s : Nat) : Int) := by rw [wrap_u64' (by omega) (by omega)]; omega
      refine ⟨_, rfl, ?_⟩
      rw [e4, e5]
      refine semShl (by omega) (semShl (by omega) (semShr (by omega) (semShl (by omega) ?_)))
      have f1 : y * 2 ^ s % B64 = Y := by rw [← hY]; exact Nat.mod_eq_of_lt (by omega)
      have hhi : hi * 2 ^ s < B64 := by
        have : hi * 2 ^ s < y * 2 ^ s := Nat.mul_lt_mul_of_pos_right hh hp
        omega
      have eM2 : M = hi * 2 ^ s * 18446744073709551616 + lo * 2 ^ s := by rw [hM, Nat.add_mul, hB, Nat.mul_right_comm]
      have hlo2 : lo * 2 ^ s / 18446744073709551616 = lo / 2 ^ (64 - s) := by
        rw [show (18446744073709551616 : Nat) = 2 ^ (64 - s) * 2 ^ s by rw [← Nat.pow_add, show 64 - s + s = 64 by omega], Nat.mul_div_mul_right _ _ hp]
      have hlos : lo / 2 ^ (64 - s) < 2 ^ s := by
        rw [Nat.div_lt_iff_lt_mul (Nat.pow_pos (by omega)), ← Nat.pow_add, show s + (64 - s) = 64 by omega]
        omega
      have f2 : (hi * 2 ^ s % B64) ||| (lo / 2 ^ (64 - s)) = U := by
        rw [Nat.mod_eq_of_lt hhi, Nat.mul_comm, ← Nat.two_pow_add_eq_or_of_lt hlos, hU, eM2]
        rw [Nat.mul_comm (hi * 2 ^ s), Nat.mul_add_div (by omega), hlo2, Nat.mul_comm]
      have f3 : lo * 2 ^ s % B64 = L := by rw [hL, eM2, Nat.mul_comm (hi * 2 ^ s), Nat.mul_add_mod, hB]
      have hlo3 : lo / 2 ^ (64 - s) < B64 := Nat.lt_of_le_of_lt (Nat.div_le_self _ _) hl
      rw [f1, orI_nat (Nat.mod_lt _ (by omega)) hlo3, f2, f3, show (4294967295 : Int) = ((4294967295 : Nat) : Int) from rfl, andI_nat (by omega) (by omega), andI_nat (by omega) (by omega)]
      have g1 : ∀ x : Nat, Int.fdiv (x : Int) (2 ^ (32 : Nat)) = ((x / 4294967296 : Nat) : Int) := fun x => by
        have := fdivN x 32
        exact this
      have g2 : ∀ x : Nat, x &&& 4294967295 = x % 4294967296 := fun x => Nat.and_two_pow_sub_one_eq_mod x 32
      rw [g1, g1, g2, g2, ← hy1, ← hu1, ← hy0, ← hu0]
      obtain ⟨k1, k2, k3⟩ := Guess.first (u := u1) eY hy1lo hy0lt hu1lt hUY
      obtain ⟨e6, hm⟩ := guess_wrap (U := U) (y1 := y1) (by omega) (by omega)
      refine semQuo (by omega) (by omega) ?_
      rw [e6]
      exact ⟨rfl, rfl, rfl, rfl, rfl, rfl, rfl, rfl, _, _, rfl, rfl, k1, by omega, k2⟩
  · rintro t2 t8 t9 t10 t11 t13 t14 t15 t16 w' ⟨rfl, rfl, rfl, rfl, rfl, rfl, rfl, rfl, q, r, rfl, rfl, hg, hr', hqm⟩
    have out : ∀ {t : Int}, t = (Q1 : Int) → IntKind.u64.wrap (IntKind.u64.wrap (IntKind.u64.wrap ((U : Int) * 4294967296) + (u1 : Int)) - IntKind.u64.wrap (t * (Y : Int))) = (R1 : Int) := by
      rintro t rfl
      rw [rest_wrap (by omega) (by omega) hQ1, hR1]
    have e2 : IntKind.u64.wrap ((r : Int) + (y1 : Int)) = ((r + y1 : Nat) : Int) := by rw [wrap_u64' (by omega) (by omega)]; omega
    have dec : Q1 < q → br (decide (IntKind.u64.wrap ((r : Int) + (y1 : Int)) ≥ 4294967296))
        (semI pr .u64 (binOp .quo tU64 (.int .u64 (IntKind.u64.wrap (IntKind.u64.wrap (IntKind.u64.wrap ((U : Int) * 4294967296) + (u1 : Int)) - IntKind.u64.wrap (IntKind.u64.wrap ((q : Int) - 1) * (Y : Int))))) (.int .u64 (y1 : Int))) w' fun x9 w8 =>
          J2r w' Y s y1 y0 u0 Q1 R1 Y s y1 y0 u0 (IntKind.u64.wrap ((q : Int) - 1)) (IntKind.u64.wrap (IntKind.u64.wrap (IntKind.u64.wrap (IntKind.u64.wrap ((U : Int) * 4294967296) + (u1 : Int)) - IntKind.u64.wrap (IntKind.u64.wrap ((q : Int) - 1) * (Y : Int))) - IntKind.u64.wrap (x9 * (y1 : Int))))
            (IntKind.u64.wrap (IntKind.u64.wrap (IntKind.u64.wrap ((U : Int) * 4294967296) + (u1 : Int)) - IntKind.u64.wrap (IntKind.u64.wrap ((q : Int) - 1) * (Y : Int)))) x9 w8)
        (J0r w' Y s y1 y0 U u1 u0 Y s y1 y0 U u1 u0 (IntKind.u64.wrap ((q : Int) - 1)) (IntKind.u64.wrap ((r : Int) + (y1 : Int))) w' ∧ (IntKind.u64.wrap ((q : Int) - 1)).toNat < ((q : Int)).toNat) := by
      intro hlt
      have hg' := hg.less (by omega) (by omega)
      have e1 : IntKind.u64.wrap ((q : Int) - 1) = ((q - 1 : Nat) : Int) := by rw [wrap_u64' (by omega) (by omega)]; omega
      refine br_intro (fun h => ?_) (fun h => ?_)
      · rw [e2] at h
        have hf := hg'.done (by omega) (hg'.far eY hy0lt (by omega) (by simp at h; omega))
        rw [out (by rw [e1]; omega), e1, show q - 1 = Q1 by omega]
        exact exit1 eY hy1lo hy1hi hy0lt hu0lt hR1lt
      · rw [e2] at h ⊢
        rw [e1]
        exact ⟨⟨rfl, rfl, rfl, rfl, rfl, rfl, rfl, rfl, _, _, rfl, rfl, hg', by simp at h; omega, by omega⟩, by omega⟩
    refine br_intro (fun h1 => dec (by simp at h1; omega)) (fun h1 => ?_)
    have h1' : q < 4294967296 := by simp at h1; omega
    have m1 : q * y0 ≤ 4294967295 * 4294967295 := Nat.mul_le_mul (by omega) (by omega)
    have e3 : IntKind.u64.wrap ((q : Int) * (y0 : Int)) = ((q * y0 : Nat) : Int) := by
      have e : (q : Int) * (y0 : Int) = ((q * y0 : Nat) : Int) := by push_cast; rfl
      rw [e, wrap_u64' (by omega) (by omega)]
    have e4 : IntKind.u64.wrap (IntKind.u64.wrap (4294967296 * (r : Int)) + (u1 : Int)) = ((4294967296 * r + u1 : Nat) : Int) := by
      rw [wrap_u64' (x := 4294967296 * (r : Int)) (by omega) (by omega), wrap_u64' (by omega) (by omega)]; omega
    rw [e3, e4]
    have ho := hg.over eY
    refine br_intro (fun h2 => dec ?_) (fun h2 => ?_)
    · have := ho.1 (by simp at h2; omega)
      rw [hQ1, Nat.div_lt_iff_lt_mul (by omega)]
      exact this
    · have hle : q * Y ≤ U * 4294967296 + u1 := by
        rcases Nat.lt_or_ge (U * 4294967296 + u1) (q * Y) with h | h
        · have := ho.2 h; simp at h2; omega
        · exact h
      have hf := hg.done (by omega) hle
      rw [out (by omega), show q = Q1 by omega]
      exact exit1 eY hy1lo hy1hi hy0lt hu0lt hR1lt
  · rintro t2 t8 t9 t10 t14 t15 t16 t17 t18 w' ⟨rfl, rfl, rfl, rfl, rfl, rfl, rfl, rfl, q, r, rfl, rfl, hg, hr', hqm⟩
    have out : ∀ {t : Int}, t = (Q0 : Int) → IntKind.u64.wrap (IntKind.u64.wrap (IntKind.u64.wrap ((R1 : Int) * 4294967296) + (u0 : Int)) - IntKind.u64.wrap (t * (Y : Int))) = (((R1 * 4294967296 + u0) % Y : Nat) : Int) := by
      rintro t rfl
      rw [rest_wrap (by omega) (by omega) hQ0]
    have e2 : IntKind.u64.wrap ((r : Int) + (y1 : Int)) = ((r + y1 : Nat) : Int) := by rw [wrap_u64' (by omega) (by omega)]; omega
    have eq : IntKind.u64.wrap (IntKind.u64.wrap ((Q1 : Int) * 4294967296) + (Q0 : Int)) = (((hi * B64 + lo) / y : Nat) : Int) := by
      rw [hq, wrap_u64' (x := (Q1 : Int) * 4294967296) (by omega) (by omega), wrap_u64' (by omega) (by omega)]; omega
    have fin : semI pr .u64 (binOp .shr tU64 (.int .u64 (((R1 * 4294967296 + u0) % Y : Nat) : Int)) (.int .u64 (s : Int))) w' fun x10 w9 =>
        Ahead w' w9 ∧ Ending.returned (.tuple #[.int .u64 (((hi * B64 + lo) / y : Nat) : Int), .int .u64 x10]) = .returned (.tuple #[.int .u64 (((hi * B64 + lo) / y : Nat) : Int), .int .u64 (((hi * B64 + lo) % y : Nat) : Int)]) := by
      refine semShr (by omega) ⟨Ahead.refl _, ?_⟩
      rw [hr]
    have dec : Q0 < q → br (decide (IntKind.u64.wrap ((r : Int) + (y1 : Int)) ≥ 4294967296))
        (semI pr .u64 (binOp .shr tU64 (.int .u64 (IntKind.u64.wrap (IntKind.u64.wrap (IntKind.u64.wrap ((R1 : Int) * 4294967296) + (u0 : Int)) - IntKind.u64.wrap (IntKind.u64.wrap ((q : Int) - 1) * (Y : Int))))) (.int .u64 (s : Int))) w' fun x10 w9 =>
          Ahead w' w9 ∧ Ending.returned (.tuple #[.int .u64 (IntKind.u64.wrap (IntKind.u64.wrap ((Q1 : Int) * 4294967296) + IntKind.u64.wrap ((q : Int) - 1))), .int .u64 x10]) = .returned (.tuple #[.int .u64 (((hi * B64 + lo) / y : Nat) : Int), .int .u64 (((hi * B64 + lo) % y : Nat) : Int)]))
        (J2r w' Y s y1 y0 u0 Q1 R1 Y s y1 y0 u0 Q1 (IntKind.u64.wrap ((r : Int) + (y1 : Int))) R1 (IntKind.u64.wrap ((q : Int) - 1)) w' ∧ (IntKind.u64.wrap ((q : Int) - 1)).toNat < ((q : Int)).toNat) := by
      intro hlt
      have hg' := hg.less (by omega) (by omega)
      have e1 : IntKind.u64.wrap ((q : Int) - 1) = ((q - 1 : Nat) : Int) := by rw [wrap_u64' (by omega) (by omega)]; omega
      refine br_intro (fun h => ?_) (fun h => ?_)
      · rw [e2] at h
        have hf := hg'.done (by omega) (hg'.far eY hy0lt (by omega) (by simp at h; omega))
        rw [out (by rw [e1]; omega), e1, show q - 1 = Q0 by omega, eq]
        exact fin
      · rw [e2] at h ⊢
        rw [e1]
        exact ⟨⟨rfl, rfl, rfl, rfl, rfl, rfl, rfl, rfl, _, _, rfl, rfl, hg', by simp at h; omega, by omega⟩, by omega⟩
    refine br_intro (fun h1 => dec (by simp at h1; omega)) (fun h1 => ?_)
    have h1' : q < 4294967296 := by simp at h1; omega
    have m1 : q * y0 ≤ 4294967295 * 4294967295 := Nat.mul_le_mul (by omega) (by omega)
    have e3 : IntKind.u64.wrap ((q : Int) * (y0 : Int)) = ((q * y0 : Nat) : Int) := by
      have e : (q : Int) * (y0 : Int) = ((q * y0 : Nat) : Int) := by push_cast; rfl
      rw [e, wrap_u64' (by omega) (by omega)]
    have e4 : IntKind.u64.wrap (IntKind.u64.wrap (4294967296 * (r : Int)) + (u0 : Int)) = ((4294967296 * r + u0 : Nat) : Int) := by
      rw [wrap_u64' (x := 4294967296 * (r : Int)) (by omega) (by omega), wrap_u64' (by omega) (by omega)]; omega
    rw [e3, e4]
    have ho := hg.over eY
    refine br_intro (fun h2 => dec ?_) (fun h2 => ?_)
    · have := ho.1 (by simp at h2; omega)
      rw [hQ0, Nat.div_lt_iff_lt_mul (by omega)]
      exact this
    · have hle : q * Y ≤ R1 * 4294967296 + u0 := by
        rcases Nat.lt_or_ge (R1 * 4294967296 + u0) (q * Y) with h | h
        · have := ho.2 h; simp at h2; omega
        · exact h
      have hf := hg.done (by omega) hle
      rw [out (by omega), show q = Q0 by omega, eq]
      exact fin

end Nat
end Go.Proofs.YtbeiopoejdkheaaGreatDoor
namespace Go.Proofs.YtbeiopoejdkheaaGreatDoor
open Go Go.RowKit Eng Sp Dg
set_option linter.unusedVariables false
set_option linter.unusedSimpArgs false
set_option maxRecDepth 100000
namespace Nat

theorem bl_add_le {x y k : Nat} (hx : bl x ≤ k) (hy : bl y ≤ k) : bl (x + y) ≤ k + 1 := by
  have h1 := bl_le_iff.1 hx
  have h2 := bl_le_iff.1 hy
  exact bl_le (by rw [Nat.pow_succ]; omega)

end Nat
end Go.Proofs.YtbeiopoejdkheaaGreatDoor
namespace Go.Proofs.YtbeiopoejdkheaaGreatDoor
open Go Go.RowKit Eng Sp Dg
set_option linter.unusedVariables false
set_option linter.unusedSimpArgs false
set_option maxRecDepth 100000
namespace Nat

theorem times_step {V P A x m c s c' B : Nat} (h : s + B * c' = x * m + c) (ih : V + c * P = A * m) : V + P * s + c' * (P * B) = (A + P * x) * m := by
  have e1 : P * (s + B * c') = P * s + c' * (P * B) := by rw [Nat.mul_add]; congr 1; ac_rfl
  have e2 : P * (x * m + c) = P * x * m + c * P := by rw [Nat.mul_add, Nat.mul_assoc, Nat.mul_comm c P]
  rw [Nat.add_mul, ← ih, Nat.add_assoc, ← e1, h, e2]; omega
theorem times_digit {x m c B : Nat} (hx : x < B) (hm : m < B) (hc : c < B) :
    (x * m % B + c) % B + B * (x * m / B + (x * m % B + c) / B) = x * m + c ∧ x * m / B + (x * m % B + c) / B < B := by
  have hB : 0 < B := by omega
  have d1 := Nat.mod_add_div (x * m) B
  have d2 := Nat.mod_add_div (x * m % B + c) B
  have e : (x * m % B + c) % B + B * (x * m / B + (x * m % B + c) / B) = x * m + c := by rw [Nat.mul_add]; omega
  refine ⟨e, ?_⟩
  have h1 : x * m ≤ (B - 1) * (B - 1) := Nat.mul_le_mul (by omega) (by omega)
  have h2 : (B - 1) * (B - 1) + (B - 1) = (B - 1) * B := by
    obtain ⟨k, rfl⟩ : ∃ k, B = k + 1 := ⟨B - 1, by omega⟩
    rw [Nat.add_sub_cancel, Nat.mul_succ]
  have h3 : B * (x * m / B + (x * m % B + c) / B) ≤ B * (B - 1) := by rw [Nat.mul_comm B (B - 1)]; omega
  have := Nat.le_of_mul_le_mul_left h3 hB
  omega

theorem Times_spec {w : World} {p : Slc} {a : List Nat} {m : Nat} (hp : Rd .u64 w p (nn a)) (la : a.length ≤ 2 ^ 44) (oa : ok B64 a) (hm : m < B64) :
    Calls pr nat_Times_id #[p.v, .int .u64 (m : Int)] w (Ret w (bigC (val B64 a * m)) (val B64 a * m)) := by
  have hB := B64v
  have hlen := len_le oa
  have hA0 : val B64 (digs B64 (val B64 a)) = val B64 a := val_digs two64 _
  have hoA := ok_digs two64 (val B64 a)
  generalize hA : digs B64 (val B64 a) = A at *
  refine nat_Times_vc p m w _ (fun t0 t1 c t7 t20 t21 t22 w' => t0.n = A.length ∧ t1 = (m : Int) ∧ t21 = (A.length : Int) ∧ ∃ (l : List Nat) (j cr : Nat), t7 = (cr : Int) ∧ cr < B64 ∧ t22 = (j : Int) ∧ j ≤ A.length ∧
    Fill w w' c l (fun w' => Rd .u64 w' t20 (nn A)) ∧ l.length = A.length + 1 ∧ ok B64 l ∧ val B64 (l.take j) + cr * B64 ^ j = val B64 (A.take j) * m) (fun _ _ _ _ _ n i _ => (n - i).toNat) ?_ ?_
  · refine Calls.mono (trim_rd hp la oa) ?_
    rw [hA]
    rintro e w' ⟨rfl, s, rfl, hsn, hs⟩
    refine ⟨_, rfl, ?_⟩
    rw [hsn, wrap_i64 (x := (A.length : Int) + 1) (by omega) (by omega)]
    refine mkF (w0 := w') (S := fun w' => Rd .u64 w' s (nn A)) (by omega) (by omega) (Ahead.refl _) hs ?_
    intro c w3 hcn hf ha
    exact ⟨by first | exact hsn | rfl, rfl, rfl, _, 0, 0, rfl, by omega, rfl, Nat.zero_le _, hf, by simp, ok_replicate (by omega) _, by simp [val]⟩
  · rintro t0 t1 c t7 t20 t21 t22 w' ⟨htn, rfl, rfl, l, j, cr, rfl, hcr, rfl, hj, hf, hl, ol, hv⟩
    have hS := hf.src (fun _ h hs => Rd.ahead hs h)
    refine br_intro (fun hlt => ?_) (fun hge => ?_)
    · have hj' : j < A.length := by simpa using hlt
      have hx := ok_getD hoA (by omega : 0 < B64) j
      refine ldN hS (by omega) (by omega) ?_
      rw [Int.toNat_natCast]
      refine Calls.mono (Tryz.bits_Mul64 _ _ (by omega) (by omega) _) ?_
      rintro e w4 ⟨rfl, rfl⟩
      refine ⟨_, _, rfl, ?_⟩
      rw [← B64v]
      refine add64 (c := 0) (by omega) ?_
      refine stF hf (by omega) (by omega) ?_
      intro w7 hf7
      rw [Int.toNat_natCast] at hf7
      simp only [Nat.add_zero] at hf7 ⊢
      obtain ⟨r1, r2⟩ := times_digit hx hm hcr
      have hsB : (A.getD j 0 * m % B64 + cr) % B64 < B64 := Nat.mod_lt _ (by omega)
      generalize (A.getD j 0 * m % B64 + cr) % B64 = s at *
      generalize A.getD j 0 * m / B64 = hi' at *
      generalize (A.getD j 0 * m % B64 + cr) / B64 = c1 at *
      have ec : IntKind.u64.wrap ((hi' : Int) + (c1 : Int)) = ((hi' + c1 : Nat) : Int) := by rw [wrap_u64' (by omega) (by omega)]; omega
      have e8 : IntKind.i64.wrap ((j : Int) + 1) = ((j + 1 : Nat) : Int) := by rw [wrap_i64 (by omega) (by omega)]; omega
      rw [ec, e8]
      refine ⟨⟨htn, by trivial, by trivial, _, j + 1, _, rfl, r2, rfl, by omega, hf7, by simpa using hl, ok_set ol hsB, ?_⟩, by omega⟩
      rw [val_take_set _ _ _ (by omega), val_take_succ', Nat.pow_succ]
      exact times_step r1 hv
    · have hj' : j = A.length := by simp at hge; omega
      subst hj'
      rw [htn]
      refine stF hf (by omega) (by omega) ?_
      intro w8 hf8
      rw [Int.toNat_natCast] at hf8
      have hfin : val B64 (l.set A.length cr) = val B64 a * m := by
        rw [← val_take_all (l.set A.length cr) (m := A.length + 1) (by simp; omega), val_take_set _ _ _ (by omega), Nat.mul_comm, hv, val_take_all A (Nat.le_refl _), hA0]
      refine Calls.mono (hf8.told (by simp; omega) (ok_set ol hcr)) ?_
      rw [hfin]
      intro e w3 h
      obtain ⟨h1, s, rfl, h2⟩ := h.ret
      exact ⟨_, _, rfl, h1, _, rfl, h2⟩

/-- Through's answer. -/
def RetQ (w : World) (code : Int) (Q r : Nat) (e : Ending) (w' : World) : Prop :=
  Ahead w w' ∧ ∃ s, e = .returned (.tuple #[Slc.v s, .int .u64 (if code = 0 then r else 0 : Nat), .int .i64 code]) ∧ OwnNil w.heap.size w' s (if code = 0 then digs B64 Q else [])
def thC (x d : Nat) : Int := if d = 0 then 1 else bigC (x / d)
theorem drop_set_self (l : List Nat) (i q : Nat) (h : i < l.length) : (l.set i q).drop i = q :: l.drop (i + 1) := by
  apply List.ext_getElem?
  intro k
  rw [List.getElem?_drop]
  cases k with
  | zero => simp [h]
  | succ k =>
    rw [List.getElem?_set_ne (by omega)]
    simp; congr 1; omega
theorem quot_limb {r x d B : Nat} (hr : r < d) (hx : x < B) : (r * B + x) / d < B := by
  rw [Nat.div_lt_iff_lt_mul (by omega)]
  have : (r + 1) * B ≤ d * B := Nat.mul_le_mul_right _ hr
  rw [Nat.succ_mul] at this
  rw [Nat.mul_comm B d]; omega

theorem Through_spec {w : World} {p : Slc} {a : List Nat} {d : Nat} (hp : Rd .u64 w p (nn a)) (la : a.length ≤ 2 ^ 44) (oa : ok B64 a) (hd : d < B64) :
    Calls pr nat_Through_id #[p.v, .int .u64 (d : Int)] w (RetQ w (thC (val B64 a) d) (val B64 a / d) (val B64 a % d)) := by
  have hB := B64v
  have hlen := len_le oa
  have hA0 : val B64 (digs B64 (val B64 a)) = val B64 a := val_digs two64 _
  have hoA := ok_digs two64 (val B64 a)
  generalize hA : digs B64 (val B64 a) = A at *
  refine nat_Through_vc p d w _ (fun t0 t1 c t8 t9 w' => 0 < d ∧ t1 = (d : Int) ∧ ∃ (l : List Nat) (j r : Nat), t8 = (r : Int) ∧ r < d ∧ t9 = (j : Int) - 1 ∧ j ≤ A.length ∧
    Fill w w' c l (fun w' => Rd .u64 w' t0 (nn A)) ∧ l.length = A.length ∧ ok B64 l ∧ val B64 (A.drop j) = val B64 (l.drop j) * d + r) (fun _ _ _ _ i _ => (i + 1).toNat) ?_ ?_
  · refine br_intro (fun h0 => ?_) (fun h0 => ?_)
    · have h0' : d = 0 := by simpa using h0
      have hc : thC (val B64 a) d = 1 := if_pos h0'
      rw [hc]
      exact ⟨Ahead.refl _, _, rfl, OwnNil.nil⟩
    · have h0' : 0 < d := by simp at h0; omega
      refine Calls.mono (trim_rd hp la oa) ?_
      rw [hA]
      rintro e w' ⟨rfl, s, rfl, hsn, hs⟩
      refine ⟨_, rfl, ?_⟩
      rw [hsn, wrap_i64 (x := (A.length : Int) - 1) (by omega) (by omega)]
      refine mkF (w0 := w') (S := fun w' => Rd .u64 w' s (nn A)) (by omega) (by omega) (Ahead.refl _) hs ?_
      intro c w3 hcn hf ha
      refine ⟨h0', rfl, _, A.length, 0, rfl, h0', rfl, Nat.le_refl _, hf, by simp, ok_replicate (by omega) _, ?_⟩
      rw [List.drop_eq_nil_of_le (Nat.le_refl _), List.drop_eq_nil_of_le (by simp)]; simp [val]
  · rintro t0 t1 c t8 t9 w' ⟨h0, rfl, l, j, r, rfl, hr, rfl, hj, hf, hl, ol, hv⟩
    have hS := hf.src (fun _ h hs => Rd.ahead hs h)
    refine br_intro (fun hge => ?_) (fun hlt => ?_)
    · have hj' : 1 ≤ j := by simp at hge; omega
      have e1 : ((j : Int) - 1) = ((j - 1 : Nat) : Int) := by omega
      have hx := ok_getD hoA (by omega : 0 < B64) (j - 1)
      rw [e1]
      refine ldN hS (by omega) (by omega) ?_
      rw [Int.toNat_natCast]
      refine Calls.mono (Div64_spec hr hx hd) ?_
      rintro e w4 ⟨h4, rfl⟩
      refine ⟨_, _, rfl, ?_⟩
      have hf4 := hf.ahead h4
      refine stF hf4 (by omega) (by omega) ?_
      intro w6 hf6
      rw [Int.toNat_natCast] at hf6
      have hq := quot_limb hr hx
      have hm := Nat.mod_lt (r * B64 + A.getD (j - 1) 0) h0
      have hdm := Nat.mod_add_div (r * B64 + A.getD (j - 1) 0) d
      rw [wrap_i64 (by omega) (by omega)]
      refine ⟨⟨h0, by trivial, _, j - 1, _, rfl, hm, rfl, by omega, hf6, by simpa using hl, ok_set ol hq, ?_⟩, by omega⟩
      rw [drop_set_self _ _ _ (by omega), List.drop_eq_getElem_cons (by omega : j - 1 < A.length), ← getD_lt _ 0, show j - 1 + 1 = j by omega]
      simp only [val]
      rw [hv]
      generalize (r * B64 + A.getD (j - 1) 0) / d = q at *
      generalize (r * B64 + A.getD (j - 1) 0) % d = m at *
      generalize A.getD (j - 1) 0 = x at *
      generalize val B64 (l.drop j) = V at *
      rw [Nat.mul_add, Nat.add_mul, ← Nat.mul_assoc, Nat.mul_comm B64 r, Nat.mul_comm q d]
      omega
    · have hj' : j = 0 := by simp at hlt; omega
      subst hj'
      rw [List.drop_zero, List.drop_zero, hA0] at hv
      have hq : val B64 l = val B64 a / d := by
        rw [hv, Nat.add_comm, Nat.add_mul_div_right _ _ h0, Nat.div_eq_of_lt hr]; omega
      have hm : r = val B64 a % d := by
        rw [hv, Nat.add_comm, Nat.add_mul_mod_self_right, Nat.mod_eq_of_lt hr]
      refine Calls.mono (hf.told (by omega) ol) ?_
      rw [hq]
      intro e w3 h
      obtain ⟨h1, s, rfl, h2⟩ := h.ret
      have hc : thC (val B64 a) d = bigC (val B64 a / d) := if_neg (by omega)
      rw [← hc] at h2 ⊢
      refine ⟨_, _, rfl, br_intro (fun hz => ?_) (fun hz => ?_)⟩
      · have hz' : ¬ thC (val B64 a) d = 0 := by simpa using hz
        refine ⟨h1, _, by rw [if_neg hz']; rfl, ?_⟩
        rw [if_neg hz']; exact OwnNil.nil
      · have hz' : thC (val B64 a) d = 0 := by simpa using hz
        rw [hz', if_pos rfl] at h2
        rw [hz', ← hm]
        exact ⟨h1, _, rfl, h2⟩

theorem times_num {w : World} {p : Slc} {x m : Nat} (hp : Num w p x) (hm : m < B64) : Calls pr nat_Times_id #[p.v, .int .u64 (m : Int)] w (Ret w (bigC (x * m)) (x * m)) := by
  obtain ⟨a, ra, la, oa, rfl⟩ := hp
  exact Times_spec ra la oa hm
theorem through_num {w : World} {p : Slc} {x d : Nat} (hp : Num w p x) (hd : d < B64) : Calls pr nat_Through_id #[p.v, .int .u64 (d : Int)] w (RetQ w (thC x d) (x / d) (x % d)) := by
  obtain ⟨a, ra, la, oa, rfl⟩ := hp
  exact Through_spec ra la oa hd

end Nat
end Go.Proofs.YtbeiopoejdkheaaGreatDoor
namespace Go.Proofs.YtbeiopoejdkheaaGreatDoor
set_option linter.unusedVariables false
set_option linter.unusedSimpArgs false
namespace Cb
def ch : Nat → Nat → Nat
  | _, 0 => 1
  | 0, _ + 1 => 0
  | n + 1, k + 1 => ch n k + ch n (k + 1)
/-- The sum of the first i of row n. -/
def rs (n : Nat) : Nat → Nat
  | 0 => 0
  | i + 1 => rs n i + ch n i
/-- The product of m numbers from lo on. -/
def run (lo : Nat) : Nat → Nat
  | 0 => 1
  | m + 1 => run lo m * (lo + m)
end Cb
end Go.Proofs.YtbeiopoejdkheaaGreatDoor
namespace Go.Proofs.YtbeiopoejdkheaaGreatDoor
open Go Go.RowKit Eng
set_option linter.unusedVariables false

def mul_Pow_cut (J0 : Slc → Int → Slc → Int → World → Prop) (m0 : Slc → Int → Slc → Int → World → Nat) : Nat → Option ((Act → World → Prop) × (Act → World → Nat))
  | 0 => some (fun a_ w_ => atSz a_ 63 (atS a_ 0 fun t0_a => atI .i64 a_ 1 fun t1_n => atS a_ 7 fun t7_out => atI .i64 a_ 8 fun t8_i => J0 t0_a t1_n t7_out t8_i w_), fun a_ w_ => mS a_ 0 fun t0_a => mI a_ 1 fun t1_n => mS a_ 7 fun t7_out => mI a_ 8 fun t8_i => m0 t0_a t1_n t7_out t8_i w_)
  | _ => none

set_option maxRecDepth 100000 in
/-- surd/mul.Pow: function 125. -/
theorem mul_Pow_vc (a0_a : Slc) (a1_n : Int) (w : World) (R : Ending → World → Prop)
    (J0 : Slc → Int → Slc → Int → World → Prop) (m0 : Slc → Int → Slc → Int → World → Nat)
    (h : br (decide (a1_n < 0))
    (R (.returned (Value.tuple #[(⟨none, 0, 0⟩ : Slc).v, Value.int .i64 1])) w)
    (Calls Tryz.prog 85 #[a0_a.v] w fun e1 w1 =>
     ∃ s1 : Slc, e1 = .returned s1.v ∧
     (br (a1_n == 0)
      (Calls Tryz.prog 84 #[Value.int .u64 1] w1 fun e2 w2 =>
       ∃ s2 : Slc, e2 = .returned s2.v ∧
       (R (.returned (Value.tuple #[s2.v, Value.int .i64 0])) w2))
      (Calls Tryz.prog 46 #[s1.v] w1 fun e3 w3 =>
       ∃ x1 : Int, e3 = .returned (Value.int .i64 x1) ∧
       (br (decide (x1 ≤ 1))
        (R (.returned (Value.tuple #[s1.v, Value.int .i64 0])) w3)
        (br (decide (a1_n > 67108864))
         (R (.returned (Value.tuple #[(⟨none, 0, 0⟩ : Slc).v, Value.int .i64 3])) w3)
         (br (decide ((IntKind.i64.wrap ((IntKind.i64.wrap ((IntKind.i64.wrap (x1 - 1)) * a1_n)) + 1)) > 67108864))
          (R (.returned (Value.tuple #[(⟨none, 0, 0⟩ : Slc).v, Value.int .i64 3])) w3)
          (Calls Tryz.prog 84 #[Value.int .u64 1] w3 fun e4 w4 =>
           ∃ s3 : Slc, e4 = .returned s3.v ∧
           (J0 s1 a1_n s3 62 w4)))))))))
    (h0 : ∀ (t0_a : Slc) (t1_n : Int) (t7_out : Slc) (t8_i : Int) (w_ : World), J0 t0_a t1_n t7_out t8_i w_ → 
    br (decide (t8_i ≥ 0))
    (br (decide ((t7_out.n : Int) > 0))
     (Calls Tryz.prog 147 #[t7_out.v] w_ fun e5 w5 =>
      ∃ s4 : Slc, ∃ x2 : Int, e5 = .returned (Value.tuple #[s4.v, Value.int .i64 x2]) ∧
      (br (x2 != 0)
       (R (.returned (Value.tuple #[(⟨none, 0, 0⟩ : Slc).v, Value.int .i64 x2])) w5)
       (semI Tryz.prog .i64 (binOp .shr 3 (Value.int .i64 t1_n) (Value.int .i64 t8_i)) w5 fun x3 w6 =>
        br ((andI .i64 x3 1) == 1)
        (Calls Tryz.prog 79 #[s4.v, t0_a.v] w6 fun e6 w7 =>
         ∃ s5 : Slc, ∃ x4 : Int, e6 = .returned (Value.tuple #[s5.v, Value.int .i64 x4]) ∧
         (br (x4 != 0)
          (R (.returned (Value.tuple #[(⟨none, 0, 0⟩ : Slc).v, Value.int .i64 x4])) w7)
          (J0 t0_a t1_n s5 (IntKind.i64.wrap (t8_i - 1)) w7 ∧
           m0 t0_a t1_n s5 (IntKind.i64.wrap (t8_i - 1)) w7 < m0 t0_a t1_n t7_out t8_i w_)))
        (J0 t0_a t1_n s4 (IntKind.i64.wrap (t8_i - 1)) w6 ∧
         m0 t0_a t1_n s4 (IntKind.i64.wrap (t8_i - 1)) w6 < m0 t0_a t1_n t7_out t8_i w_))))
     (semI Tryz.prog .i64 (binOp .shr 3 (Value.int .i64 t1_n) (Value.int .i64 t8_i)) w_ fun x5 w8 =>
      br ((andI .i64 x5 1) == 1)
      (Calls Tryz.prog 79 #[t7_out.v, t0_a.v] w8 fun e7 w9 =>
       ∃ s6 : Slc, ∃ x6 : Int, e7 = .returned (Value.tuple #[s6.v, Value.int .i64 x6]) ∧
       (br (x6 != 0)
        (R (.returned (Value.tuple #[(⟨none, 0, 0⟩ : Slc).v, Value.int .i64 x6])) w9)
        (J0 t0_a t1_n s6 (IntKind.i64.wrap (t8_i - 1)) w9 ∧
         m0 t0_a t1_n s6 (IntKind.i64.wrap (t8_i - 1)) w9 < m0 t0_a t1_n t7_out t8_i w_)))
      (J0 t0_a t1_n t7_out (IntKind.i64.wrap (t8_i - 1)) w8 ∧
       m0 t0_a t1_n t7_out (IntKind.i64.wrap (t8_i - 1)) w8 < m0 t0_a t1_n t7_out t8_i w_)))
    (R (.returned (Value.tuple #[t7_out.v, Value.int .i64 0])) w_)) :
    Calls Tryz.prog 125 #[a0_a.v, Value.int .i64 a1_n] w R := by
  refine calls_of_vc (mul_Pow_cut J0 m0) (by kernel_rfl) Tryz.func125 rfl ?_ ?_
  · refine kcast h ?_; kernel_rfl
  · exact (obl_seq rfl (obl_reg (obl_seq rfl (obl_seq rfl (obl_reg (obl_cond (obl_seq rfl (obl_reg (obl_ret (obl_skip (obl_seq rfl (obl_reg (obl_seq rfl (obl_seq rfl (obl_reg (obl_cond (obl_seq rfl (obl_reg (obl_ret (obl_skip (obl_seq rfl (obl_reg (obl_seq rfl (obl_seq rfl (obl_reg (obl_cond (obl_seq rfl (obl_reg (obl_ret (obl_skip (obl_seq rfl (obl_seq rfl (obl_reg (obl_cond (obl_seq rfl (obl_reg (obl_ret (obl_skip (obl_seq rfl (obl_reg (obl_seq rfl (obl_seq rfl (obl_reg (obl_loop _ rfl (fun a_ w_ hL_ => (by
    obtain ⟨hz_, hd_, hL_⟩ := atSz_out hL_
    obtain ⟨t0_a, h0_, hL_⟩ := atS_out hL_
    obtain ⟨t1_n, h1_, hL_⟩ := atI_out hL_
    obtain ⟨t7_out, h7_, hL_⟩ := atS_out hL_
    obtain ⟨t8_i, h8_, hL_⟩ := atI_out hL_
    obtain ⟨g0, rfl⟩ : ∃ g, a_ = Fr 63 [(0, t0_a.v), (1, Value.int .i64 t1_n), (7, t7_out.v), (8, Value.int .i64 t8_i)] g := ⟨_, fr_of hz_ hd_ [(0, t0_a.v), (1, Value.int .i64 t1_n), (7, t7_out.v), (8, Value.int .i64 t8_i)] (sel_cons h0_ (sel_cons h1_ (sel_cons h7_ (sel_cons h8_ sel_nil))))⟩
    clear hz_ hd_ h0_ h1_ h7_ h8_
    have hJ0_ := hL_
    refine ⟨(fun _ => none), kcast (h0 t0_a t1_n t7_out t8_i w_ hJ0_) ?_, ?_⟩
    · kernel_rfl
    · exact (obl_seq rfl (obl_seq rfl (obl_reg (obl_cond (obl_skip (obl_exit (obl_seq rfl (obl_blk rfl (obl_seq rfl (obl_reg (obl_seq rfl (obl_seq rfl (obl_reg (obl_cond (obl_seq rfl (obl_reg (obl_seq rfl (obl_reg (obl_cond (obl_seq rfl (obl_reg (obl_ret (obl_skip (obl_skip (obl_seq rfl (obl_reg (obl_cond (obl_seq rfl (obl_reg (obl_seq rfl (obl_reg (obl_cond (obl_seq rfl (obl_reg (obl_ret (obl_skip (obl_skip (obl_reg trivial)))))))))))))))))))))))))))))))))))))))) (obl_seq rfl (obl_reg (obl_ret trivial)))))))))))))))))))))))))))))))))))))))))))))))

end Go.Proofs.YtbeiopoejdkheaaGreatDoor
namespace Go.Proofs.YtbeiopoejdkheaaGreatDoor
open Go Go.RowKit Eng Sp Dg
set_option linter.unusedVariables false
set_option linter.unusedSimpArgs false
set_option maxRecDepth 100000
namespace Mul
open _root_.Go.Proofs.YtbeiopoejdkheaaGreatDoor.Nat (Num OwnNil OwnNil.nil OwnNil.rd OwnNil.mono OwnNil.ahead Ret bigC bigC_ok digs_len_bl Yes num_of own_num Norm_spec From_spec times_num through_num thC len_num andI_i64)

theorem semShrI {x y : Nat} {t : TypeId} {w : World} {K : Int → World → Prop} (hy : y < 64) (h : K ((x / 2 ^ y : Nat) : Int) w) :
    semI pr .i64 (binOp .shr t (.int .i64 (x : Int)) (.int .i64 (y : Int))) w K := by
  have e : binOp .shr t (.int .i64 (x : Int)) (.int .i64 (y : Int)) = pure (.int .i64 ((x / 2 ^ y : Nat) : Int)) := by
    rw [binOp_shr, shift_shr_any .i64 .i64 _ _ (by omega)]
    have : min ((y : Int)).toNat IntKind.i64.bits = y := by
      have : IntKind.i64.bits = 64 := rfl
      rw [this]; omega
    rw [this]
    congr 2
  unfold semI
  rw [e, Sem.wp_iff_run]
  exact ⟨_, rfl, h⟩

theorem pow_bl {x n m : Nat} (h : m ≤ n) (hb : bl x * n ≤ 67108864) : bl (x ^ m) ≤ 67108864 := by
  have h1 : x ^ m < 2 ^ (bl x * m + 1) := by
    refine Nat.lt_of_le_of_lt (Nat.pow_le_pow_left (Nat.le_of_lt (lt_bl x)) m) ?_
    rw [← Nat.pow_mul]
    exact Nat.pow_lt_pow_right (by omega) (by omega)
  rcases Nat.eq_zero_or_pos m with h0 | h0
  · subst h0
    rw [Nat.pow_zero]
    exact Nat.le_trans (bl_le (k := 1) (by omega)) (by omega)
  · have : x ^ m < 2 ^ (bl x * m) := by
      rw [Nat.pow_mul]
      exact Nat.pow_lt_pow_left (lt_bl x) (by omega)
    exact Nat.le_trans (bl_le this) (Nat.le_trans (Nat.mul_le_mul_left _ h) hb)
theorem Pow_spec {w : World} {a : Slc} {x n : Nat} (ha : Num w a x) (hx : 2 ≤ bl x) (h0 : 1 ≤ n) (hb : bl x * n ≤ 67108864) : Calls pr mul_Pow_id #[a.v, .int .i64 (n : Int)] w (Ret w 0 (x ^ n)) := by
  have hB := B64v
  have hn : n ≤ 67108864 := Nat.le_trans (Nat.le_mul_of_pos_left n (by omega)) hb
  have hxb : bl x ≤ 67108864 := Nat.le_trans (Nat.le_mul_of_pos_right (bl x) h0) hb
  have hne : x ≠ 0 := fun h => by rw [h, bl_zero] at hx; omega
  have lx := digs_len_bl (N := x) (m := 2 ^ 20) (by omega)
  have lp : ∀ m, m ≤ n → bl (x ^ m) ≤ 67108864 ∧ (digs B64 (x ^ m)).length ≤ 2 ^ 20 := fun m h => ⟨pow_bl h hb, digs_len_bl (m := 2 ^ 20) (by have := pow_bl h hb; omega)⟩
  refine mul_Pow_vc a _ w _ (fun s t out i w' => t = (n : Int) ∧ ∃ j : Nat, i = (j : Int) - 1 ∧ j ≤ 63 ∧ Ahead w w' ∧ OwnNil w.heap.size w' s (digs B64 x) ∧ OwnNil w.heap.size w' out (digs B64 (x ^ (n / 2 ^ j)))) (fun _ _ _ i _ => (i + 1).toNat) ?_ ?_
  · refine br_false (decide_eq_false (by omega)) ?_
    obtain ⟨l, rl, ll, ol, vl⟩ := ha
    refine Calls.mono (Norm_spec rl ll ol) ?_
    rw [vl]
    rintro e w1 ⟨h1, s, rfl, os⟩
    refine ⟨_, rfl, br_false (beq_eq_false_iff_ne.2 (by omega)) (Calls.mono (len_num (own_num os hxb)) ?_)⟩
    rintro e w2 ⟨rfl, rfl⟩
    refine ⟨_, rfl, br_false (decide_eq_false (by omega)) (br_false (decide_eq_false (by omega)) ?_)⟩
    have hm : (bl x - 1) * n + 1 ≤ 67108864 := by
      have : (bl x - 1) * n + n = bl x * n := by rw [← Nat.succ_mul]; congr 1; omega
      omega
    have e1 : ((bl x : Int) - 1) * (n : Int) = (((bl x - 1) * n : Nat) : Int) := by rw [Int.natCast_mul]; congr 1; omega
    rw [wrap_i64 (x := (bl x : Int) - 1) (by omega) (by omega), e1, wrap_i64 (x := (((bl x - 1) * n : Nat) : Int)) (by omega) (by omega), wrap_i64 (by omega) (by omega)]
    refine br_false (decide_eq_false (by omega)) ?_
    refine Calls.mono (From_spec (v := 1) (by omega)) ?_
    rintro e w3 ⟨h3, t, rfl, ot⟩
    refine ⟨_, rfl, rfl, 63, rfl, Nat.le_refl _, h1.trans h3, os.ahead h3, ?_⟩
    rw [Nat.div_eq_of_lt (by omega), Nat.pow_zero]
    exact ot.mono h1.size
  · rintro s t out i w1 ⟨rfl, j, rfl, hj, h1, os, oo⟩
    refine br_intro (fun hge => ?_) (fun hlt => ?_)
    · have hj' : 1 ≤ j := by have := of_decide_eq_true hge; omega
      have hle : n / 2 ^ j ≤ n := Nat.div_le_self _ _
      have hle2 : n / 2 ^ (j - 1) ≤ n := Nat.div_le_self _ _
      have hdd : n / 2 ^ (j - 1) / 2 = n / 2 ^ j := by
        rw [Nat.div_div_eq_div_mul, ← Nat.pow_succ]; congr 2; omega
      have hpos : 0 < x ^ (n / 2 ^ j) := Nat.pow_pos (by omega)
      have hlen : 0 < out.n := by
        rw [oo.rd.n, nn_length]
        exact List.length_pos_iff.2 (digs_ne_nil two64 (by omega))
      have lo := lp _ hle
      have l2 := lp _ hle2
      have hsq : x ^ (n / 2 ^ j) * x ^ (n / 2 ^ j) = x ^ (2 * (n / 2 ^ j)) := by rw [← Nat.pow_add]; congr 1; omega
      have lsq := lp (2 * (n / 2 ^ j)) (by omega)
      have no : Num w1 out (x ^ (n / 2 ^ j)) := own_num oo lo.1
      refine br_true (decide_eq_true (by omega)) (mul_Square_vc out w1 _ (Calls.mono (Mul_spec no no (by omega) (by omega)) ?_))
      rw [hsq]
      intro e w2 hr
      obtain ⟨h2, q, rfl, oq, nq⟩ := hr.num (bigC_ok lsq.1) lsq.1
      refine ⟨_, _, rfl, _, _, rfl, br_false rfl ?_⟩
      rw [show (j : Int) - 1 = ((j - 1 : Nat) : Int) by omega]
      refine semShrI (by omega) ?_
      rw [show (1 : Int) = ((1 : Nat) : Int) from rfl, andI_i64 (by omega) (by omega), Nat.and_one_is_mod, show ((j - 1 : Nat) : Int) - ((1 : Nat) : Int) = ((j - 1 : Nat) : Int) - 1 from rfl, wrap_i64 (x := ((j - 1 : Nat) : Int) - 1) (by omega) (by omega)]
      refine br_intro (fun hbit => ?_) (fun hbit => ?_)
      · have hb1 : n / 2 ^ (j - 1) % 2 = 1 := by have := eq_of_beq hbit; omega
        have ee : x ^ (2 * (n / 2 ^ j)) * x = x ^ (n / 2 ^ (j - 1)) := by rw [← Nat.pow_succ]; congr 1; omega
        refine Calls.mono (Mul_spec nq (own_num (os.ahead h2) hxb) (by omega) (by omega)) ?_
        rw [ee]
        intro e w3 hr
        obtain ⟨h3, u, rfl, ou, nu⟩ := hr.num (bigC_ok l2.1) l2.1
        refine ⟨_, _, rfl, br_false rfl ⟨⟨rfl, j - 1, rfl, by omega, (h1.trans h2).trans h3, (os.ahead h2).ahead h3, ou.mono (h1.trans h2).size⟩, by omega⟩⟩
      · have hb0 : n / 2 ^ (j - 1) % 2 = 0 := by
          have : ¬ n / 2 ^ (j - 1) % 2 = 1 := fun h => by rw [h] at hbit; simp at hbit
          omega
        have ee : 2 * (n / 2 ^ j) = n / 2 ^ (j - 1) := by omega
        rw [ee] at oq
        exact ⟨⟨rfl, j - 1, rfl, by omega, h1.trans h2, os.ahead h2, oq.mono h1.size⟩, by omega⟩
    · have hj' : j = 0 := by have := of_decide_eq_false hlt; omega
      subst hj'
      rw [Nat.pow_zero, Nat.div_one] at oo
      exact ⟨h1, _, rfl, by rw [if_pos rfl]; exact oo⟩

end Mul
end Go.Proofs.YtbeiopoejdkheaaGreatDoor
namespace Go.Proofs.YtbeiopoejdkheaaGreatDoor
open Go Go.RowKit Eng Dg
set_option linter.unusedVariables false
namespace Kd

/-- u = q v + r is what a digit's estimate keeps; the test says just whether q times all of v is above. -/
theorem half_test {b q v0 v1 r u1 u0 : Nat} (h : q * v1 + r = u1) : b * r + u0 < q * v0 ↔ u0 + b * u1 < q * (v0 + b * v1) := by
  have e : q * (v0 + b * v1) = q * v0 + b * (q * v1) := by rw [Nat.mul_add, ← Nat.mul_assoc, ← Nat.mul_assoc, Nat.mul_comm q b]
  have e2 : b * u1 = b * (q * v1) + b * r := by rw [← h, Nat.mul_add]
  omega
theorem div_of {q v u : Nat} (h1 : q * v ≤ u) (h2 : u / v ≤ q) (hv : 0 < v) : q = u / v := by
  have := (Nat.le_div_iff_mul_le hv).2 h1
  omega
theorem div_lt_of {q v u : Nat} (h : u < q * v) (hv : 0 < v) : u / v < q := (Nat.div_lt_iff_lt_mul hv).2 h

section
variable {B P x y u0 u1 u2 v1 v2 q r : Nat}
theorem split_lt {B P x A : Nat} (hx : x < P) : x + P * A < P * (A + 1) := by rw [Nat.mul_add, Nat.mul_one]; omega
theorem lt_of_mul {P a b : Nat} (h : P * a < P * b) : a < b := Nat.lt_of_mul_lt_mul_left h
/-- The true digit is not above the estimate. -/
theorem est_init {Q : Nat} (hx : x < P) (hu : u2 < B) (h : Q * (y + P * (v2 + B * v1)) ≤ x + P * (u2 + B * (u1 + B * u0))) : Q * v1 ≤ u1 + B * u0 := by
  have h1 : P * (Q * (v2 + B * v1)) ≤ Q * (y + P * (v2 + B * v1)) := by
    rw [Nat.mul_add Q y, ← Nat.mul_assoc, ← Nat.mul_assoc, Nat.mul_comm P Q]; omega
  have h2 := split_lt (B := B) (A := u2 + B * (u1 + B * u0)) hx
  have h3 : Q * (v2 + B * v1) < u2 + B * (u1 + B * u0) + 1 := lt_of_mul (Nat.lt_of_le_of_lt (Nat.le_trans h1 h) h2)
  have h4 : B * (Q * v1) ≤ Q * (v2 + B * v1) := by
    rw [Nat.mul_add Q v2, ← Nat.mul_assoc, ← Nat.mul_assoc, Nat.mul_comm B Q]; omega
  have h5 := split_lt (B := B) (A := u1 + B * u0) hu
  have h6 : Q * v1 < u1 + B * u0 + 1 := lt_of_mul (P := B) (by omega)
  omega
/-- Where the test fails, q is too great. -/
theorem est_step (hx : x < P) (he : q * v1 + r = u1 + B * u0) (h : B * r + u2 < q * v2) : x + P * (u2 + B * (u1 + B * u0)) < q * (y + P * (v2 + B * v1)) := by
  have h1 := (half_test (b := B) (v0 := v2) (u0 := u2) he).1 h
  have h2 := split_lt (B := B) (A := u2 + B * (u1 + B * u0)) hx
  have h3 : P * (u2 + B * (u1 + B * u0) + 1) ≤ P * (q * (v2 + B * v1)) := Nat.mul_le_mul_left _ h1
  have h4 : P * (q * (v2 + B * v1)) ≤ q * (y + P * (v2 + B * v1)) := by
    rw [Nat.mul_add q y, ← Nat.mul_assoc, ← Nat.mul_assoc, Nat.mul_comm P q]; omega
  omega
/-- Where the test holds, q is at most one too great. -/
theorem est_end (hy : y < P) (he : q * v1 + r = u1 + B * u0) (hq : q < B) (hv : 1 ≤ v1) (h : q * v2 ≤ B * r + u2) :
    q * (y + P * (v2 + B * v1)) < x + P * (u2 + B * (u1 + B * u0)) + (y + P * (v2 + B * v1)) := by
  have h1 : q * (v2 + B * v1) ≤ u2 + B * (u1 + B * u0) := Nat.le_of_not_lt fun h2 => by
    have := (half_test (b := B) (v0 := v2) (u0 := u2) he).2 h2; omega
  have h2 : P * (q * (v2 + B * v1)) ≤ P * (u2 + B * (u1 + B * u0)) := Nat.mul_le_mul_left _ h1
  have h3 : q * (y + P * (v2 + B * v1)) = q * y + P * (q * (v2 + B * v1)) := by
    rw [Nat.mul_add q y, ← Nat.mul_assoc, ← Nat.mul_assoc, Nat.mul_comm P q]
  have h4 : B ≤ v2 + B * v1 := by
    have := Nat.mul_le_mul_left B hv; omega
  have h5 : P * B ≤ P * (v2 + B * v1) := Nat.mul_le_mul_left _ h4
  have h6 : q * y ≤ B * y := Nat.mul_le_mul_right _ (by omega)
  have h7 : B * y < B * P := (Nat.mul_lt_mul_left (by omega)).2 hy
  rw [Nat.mul_comm B P] at h7
  omega
end

theorem off0 {U U' V q : Nat} (h : U = U' + q * V) (hQ : U / V ≤ q) (hV : 0 < V) : q = U / V ∧ U' = U % V := by
  have h1 : q = U / V := div_of (by omega) hQ hV
  refine ⟨h1, ?_⟩
  have h2 := Nat.div_add_mod U V
  rw [← h1, Nat.mul_comm] at h2
  omega
theorem off1 {U U' V q W : Nat} (h : U + W = U' + q * V) (hU : U' < W) (hlt : q * V < U + V) (hV : 0 < V) : 1 ≤ q ∧ q - 1 = U / V ∧ U' + V = U % V + W := by
  have hq : 1 ≤ q := by
    rcases Nat.eq_zero_or_pos q with h0 | h0
    · subst h0; rw [Nat.zero_mul] at h; omega
    · exact h0
  have h1 : q * V = (q - 1) * V + V := by
    conv => lhs; rw [show q = (q - 1) + 1 by omega, Nat.add_mul, Nat.one_mul]
  have h2 : U < q * V := by omega
  have h3 : q - 1 = U / V := div_of (by omega) (by have := div_lt_of h2 hV; omega) hV
  refine ⟨hq, h3, ?_⟩
  have h4 := Nat.div_add_mod U V
  rw [← h3, Nat.mul_comm] at h4
  omega

theorem test_lt {B hi lo r u t : Nat} (ht : t = B * hi + lo) (hlo : lo < B) (h : hi < r) : t ≤ B * r + u := by
  have : B * (hi + 1) ≤ B * r := Nat.mul_le_mul_left _ h
  rw [Nat.mul_add] at this
  omega
theorem test_gt {B hi lo r u t : Nat} (ht : t = B * hi + lo) (hu : u < B) (h : r < hi) : B * r + u < t := by
  have : B * (r + 1) ≤ B * hi := Nat.mul_le_mul_left _ h
  rw [Nat.mul_add] at this
  omega

theorem top3 {B m : Nat} {s : List Nat} (hs : s.length = m + 3) : val B s = val B (s.take m) + B ^ m * (s.getD m 0 + B * (s.getD (m + 1) 0 + B * s.getD (m + 2) 0)) := by
  have h0 := val_take_all (B := B) s (m := m + 3) (by omega)
  have e1 : B ^ (m + 1) = B ^ m * B := Nat.pow_succ ..
  have e2 : B ^ (m + 2) = B ^ m * B * B := by rw [Nat.pow_succ, Nat.pow_succ]
  rw [← h0, val_take_succ', val_take_succ', val_take_succ', e2, e1]
  simp only [Nat.mul_add, Nat.mul_assoc, Nat.add_assoc]
theorem top2 {B m : Nat} {s : List Nat} (hs : s.length = m + 2) : val B s = val B (s.take m) + B ^ m * (s.getD m 0 + B * s.getD (m + 1) 0) := by
  have h0 := val_take_all (B := B) s (m := m + 2) (by omega)
  rw [← h0, val_take_succ', val_take_succ', Nat.pow_succ, Nat.mul_add, Nat.mul_assoc]
  omega
theorem top1 {B m : Nat} {s : List Nat} (hs : s.length = m + 1) : val B s = val B (s.take m) + B ^ m * s.getD m 0 := by
  have h0 := val_take_all (B := B) s (m := m + 1) (by omega)
  rw [← h0, val_take_succ']
/-- The upper digit is not above the divisor's. -/
theorem top_le {B P x y u0 u1 u2 v1 v2 : Nat} (hy : y < P) (hv2 : v2 < B) (h : x + P * (u2 + B * (u1 + B * u0)) < (y + P * (v2 + B * v1)) * B) : u0 ≤ v1 := by
  have h1 := split_lt (B := B) (A := v2 + B * v1) hy
  have h2 : v2 + B * v1 + 1 ≤ B * (v1 + 1) := by rw [Nat.mul_add]; omega
  have h3 : P * (v2 + B * v1 + 1) ≤ P * (B * (v1 + 1)) := Nat.mul_le_mul_left _ h2
  have h4 : (y + P * (v2 + B * v1)) * B ≤ P * (B * (v1 + 1)) * B := Nat.mul_le_mul_right _ (by omega)
  have h5 : P * (B * (v1 + 1)) * B = P * (B * (B * (v1 + 1))) := by ac_rfl
  have h6 : P * (B * (B * u0)) ≤ x + P * (u2 + B * (u1 + B * u0)) := by
    have : B * (B * u0) ≤ u2 + B * (u1 + B * u0) := by rw [Nat.mul_add B u1]; omega
    have := Nat.mul_le_mul_left P this
    omega
  have h7 : P * (B * (B * u0)) < P * (B * (B * (v1 + 1))) := by omega
  have := lt_of_mul (lt_of_mul (lt_of_mul h7))
  omega

theorem last_limb {B P r x X : Nat} (hx : x < P) (hr : r < P) (hX : X ≤ B) (h : x + P * X = r + P * B) : X = B ∧ x = r := by
  have h1 : X = B := by
    rcases Nat.lt_or_ge X B with h2 | h2
    · have : P * (X + 1) ≤ P * B := Nat.mul_le_mul_left _ h2
      rw [Nat.mul_add] at this
      omega
    · omega
  subst h1
  exact ⟨rfl, by omega⟩
/-- One limb of q v taken off. -/
theorem off_step {B P a x u y q cr bo s hi u' bo' W : Nat} (h1 : y * q + cr = s + B * hi) (h2 : u + B * bo' = u' + s + bo) (h : a + (bo + cr) * P = x + W) :
    (a + P * u) + (bo' + hi) * (P * B) = (x + P * u') + (W + P * (y * q)) := by
  have e1 : P * (u + B * bo') = P * (u' + s + bo) := by rw [h2]
  have e2 : P * (y * q + cr) = P * (s + B * hi) := by rw [h1]
  have e3 : (bo' + hi) * (P * B) = P * (B * bo') + P * (B * hi) := by rw [Nat.add_mul]; congr 1 <;> ac_rfl
  rw [Nat.mul_add, Nat.mul_add, Nat.mul_add] at e1
  rw [Nat.mul_add, Nat.mul_add] at e2
  rw [Nat.add_mul, Nat.mul_comm bo, Nat.mul_comm cr] at h
  omega

theorem round_val {B k pre U1 s' q V Qk T : Nat} (h : T = pre + B ^ k * U1 + V * (B ^ (k + 1) * Qk)) (hs : U1 = q * V + s') :
    T = pre + B ^ k * s' + V * (B ^ k * (q + B * Qk)) := by
  rw [h, hs, Nat.mul_add, Nat.mul_add, Nat.mul_add, Nat.pow_succ]
  have e1 : B ^ k * (q * V) = V * (B ^ k * q) := by ac_rfl
  have e2 : V * (B ^ k * B * Qk) = V * (B ^ k * (B * Qk)) := by ac_rfl
  omega
/-- What is left, shifted back, and the quotient. -/
theorem fin_div {A b S u Q : Nat} (hS : 0 < S) (hb : 0 < b) (h : A * S = u + b * S * Q) (hu : u < b * S) : Q = A / b ∧ u / S = A % b := by
  have h1 : A * S = u + S * (b * Q) := by rw [h]; congr 1; ac_rfl
  have h2 : u % S = 0 := by
    have : (u + S * (b * Q)) % S = 0 := by rw [← h1]; exact Nat.mul_mod_left _ _
    rwa [Nat.add_mul_mod_self_left] at this
  have h3 : u = S * (u / S) := by have := Nat.div_add_mod u S; omega
  have h4 : A = u / S + b * Q := by
    have : S * A = S * (u / S + b * Q) := by rw [Nat.mul_add, ← h3, Nat.mul_comm S A, h1]
    exact Nat.eq_of_mul_eq_mul_left hS this
  have h5 : u / S < b := by
    rw [Nat.div_lt_iff_lt_mul hS]; exact hu
  constructor
  · rw [h4, Nat.add_mul_div_left _ _ hb, Nat.div_eq_of_lt h5, Nat.zero_add]
  · conv => rhs; rw [h4]
    rw [Nat.add_mul_mod_self_left, Nat.mod_eq_of_lt h5]
end Kd
end Go.Proofs.YtbeiopoejdkheaaGreatDoor
namespace Go.Proofs.YtbeiopoejdkheaaGreatDoor
open Go Go.RowKit Eng
set_option linter.unusedVariables false

def div_divide_cut (J0 : Slc → Slc → Slc → Int → Int → World → Prop) (m0 : Slc → Slc → Slc → Int → Int → World → Nat) (J2 : Int → Slc → Slc → Int → Slc → Int → World → Prop) (m2 : Int → Slc → Slc → Int → Slc → Int → World → Nat) : Nat → Option ((Act → World → Prop) × (Act → World → Nat))
  | 0 => some (fun a_ w_ => atSz a_ 104 (atS a_ 0 fun t0 => atS a_ 1 fun t1 => atS a_ 6 fun t6 => atI .u64 a_ 7 fun t7 => atI .i64 a_ 8 fun t8 => J0 t0 t1 t6 t7 t8 w_), fun a_ w_ => mS a_ 0 fun t0 => mS a_ 1 fun t1 => mS a_ 6 fun t6 => mI a_ 7 fun t7 => mI a_ 8 fun t8 => m0 t0 t1 t6 t7 t8 w_)
  | 2 => some (fun a_ w_ => atSz a_ 104 (atI .u64 a_ 9 fun t9 => atS a_ 10 fun t10 => atS a_ 11 fun t11 => atI .i64 a_ 12 fun t12 => atS a_ 13 fun t13 => atI .i64 a_ 14 fun t14 => J2 t9 t10 t11 t12 t13 t14 w_), fun a_ w_ => mI a_ 9 fun t9 => mS a_ 10 fun t10 => mS a_ 11 fun t11 => mI a_ 12 fun t12 => mS a_ 13 fun t13 => mI a_ 14 fun t14 => m2 t9 t10 t11 t12 t13 t14 w_)
  | _ => none

set_option maxRecDepth 100000 in
/-- surd/div.divide: function 116. -/
theorem div_divide_vc (a0 : Slc) (a1 : Slc) (w : World) (R : Ending → World → Prop)
    (J0 : Slc → Slc → Slc → Int → Int → World → Prop) (m0 : Slc → Slc → Slc → Int → Int → World → Nat) (J2 : Int → Slc → Slc → Int → Slc → Int → World → Prop) (m2 : Int → Slc → Slc → Int → Slc → Int → World → Nat)
    (h : Calls Tryz.prog 81 #[a0.v, a1.v] w fun e1 w1 =>
    ∃ x1 : Int, e1 = .returned (Value.int .i64 x1) ∧
    (br (decide (x1 < 0))
     (R (.returned (Value.tuple #[(⟨none, 0, 0⟩ : Slc).v, a0.v])) w1)
     (br ((a1.n : Int) == 1)
      (semS Tryz.prog (Instr.makeSlice 23 (Value.int .i64 (a0.n : Int)) (Value.int .i64 (a0.n : Int))) w1 fun s1 w2 =>
       J0 a0 a1 s1 0 (IntKind.i64.wrap ((a0.n : Int) - 1)) w2)
      (semA Tryz.prog (Instr.indexAt 23 a1.v (Value.int .i64 (IntKind.i64.wrap ((a1.n : Int) - 1)))) w1 fun ad4 w7 =>
       ldI .u64 ad4 w7 fun x6 =>
       Calls Tryz.prog 151 #[Value.int .u64 x6] w7 fun e5 w8 =>
       ∃ x7 : Int, e5 = .returned (Value.int .i64 x7) ∧
       (Calls Tryz.prog 152 #[a0.v, Value.int .u64 (IntKind.u64.wrap x7)] w8.drew fun e6 w9 =>
        ∃ s4 : Slc, e6 = .returned s4.v ∧
        (Ahead w8.drew w9 ∧
         (Calls Tryz.prog 152 #[a1.v, Value.int .u64 (IntKind.u64.wrap x7)] w9 fun e7 w10 =>
          ∃ s5 : Slc, e7 = .returned s5.v ∧
          (Ahead w9 w10 ∧
           (fixS Tryz.prog (Instr.sliceAt 23 s5.v none (some (Value.int .i64 (a1.n : Int))) none) w10 fun s6 =>
            semS Tryz.prog (Instr.makeSlice 23 (Value.int .i64 (IntKind.i64.wrap ((IntKind.i64.wrap ((a0.n : Int) - (s6.n : Int))) + 1))) (Value.int .i64 (IntKind.i64.wrap ((IntKind.i64.wrap ((a0.n : Int) - (s6.n : Int))) + 1)))) w10 fun s7 w11 =>
            J2 (IntKind.u64.wrap x7) s4 s6 (s6.n : Int) s7 (IntKind.i64.wrap ((a0.n : Int) - (s6.n : Int))) w11)))))))))
    (h0 : ∀ (t0 : Slc) (t1 : Slc) (t6 : Slc) (t7 : Int) (t8 : Int) (w_ : World), J0 t0 t1 t6 t7 t8 w_ → 
    br (decide (t8 ≥ 0))
    (∃ V1 : Nat → Nat → Prop, anyA Tryz.prog (Instr.indexAt 23 t0.v (Value.int .i64 t8)) fun ad1 =>
     Out (V1 6) ad1 (ldI .u64 ad1 w_.drew fun x2 =>
      anyA Tryz.prog (Instr.indexAt 23 t1.v (Value.int .i64 0)) fun ad2 =>
      Out (V1 9) ad2 (ldI .u64 ad2 w_.drew fun x3 =>
       Calls Tryz.prog 150 #[Value.int .u64 t7, Value.int .u64 x2, Value.int .u64 x3] w_.drew fun e2 w3 =>
       ∃ x4 : Int, ∃ x5 : Int, e2 = .returned (Value.tuple #[Value.int .u64 x4, Value.int .u64 x5]) ∧
       (anyA Tryz.prog (Instr.indexAt 23 t6.v (Value.int .i64 t8)) fun ad3 =>
        stC ad3 (Value.int .u64 x4) w3 fun w4 =>
        J0 t0 t1 t6 x5 (IntKind.i64.wrap (t8 - 1)) w4 ∧
        m0 t0 t1 t6 x5 (IntKind.i64.wrap (t8 - 1)) w4 < m0 t0 t1 t6 t7 t8 w_))))
    (Calls Tryz.prog 85 #[t6.v] w_ fun e3 w5 =>
     ∃ s2 : Slc, e3 = .returned s2.v ∧
     (Calls Tryz.prog 84 #[Value.int .u64 t7] w5 fun e4 w6 =>
      ∃ s3 : Slc, e4 = .returned s3.v ∧
      (R (.returned (Value.tuple #[s2.v, s3.v])) w6))))
    (h2 : ∀ (t9 : Int) (t10 : Slc) (t11 : Slc) (t12 : Int) (t13 : Slc) (t14 : Int) (w_ : World), J2 t9 t10 t11 t12 t13 t14 w_ → 
    br (decide (t14 ≥ 0))
    (semS Tryz.prog (Instr.sliceAt 23 t10.v (some (Value.int .i64 t14)) (some (Value.int .i64 (IntKind.i64.wrap ((IntKind.i64.wrap (t14 + t12)) + 1)))) none) w_ fun s8 w12 =>
     Calls Tryz.prog 153 #[s8.v, t11.v] w12 fun e8 w13 =>
     ∃ x8 : Int, e8 = .returned (Value.int .u64 x8) ∧
     (semA Tryz.prog (Instr.indexAt 23 t13.v (Value.int .i64 t14)) w13 fun ad5 w14 =>
      stC ad5 (Value.int .u64 x8) w14 fun w15 =>
      J2 t9 t10 t11 t12 t13 (IntKind.i64.wrap (t14 - 1)) w15 ∧
      m2 t9 t10 t11 t12 t13 (IntKind.i64.wrap (t14 - 1)) w15 < m2 t9 t10 t11 t12 t13 t14 w_))
    (fixS Tryz.prog (Instr.sliceAt 23 t10.v none (some (Value.int .i64 t12)) none) w_.drew fun s9 =>
     Calls Tryz.prog 85 #[t13.v] w_.drew fun e9 w16 =>
     ∃ s10 : Slc, e9 = .returned s10.v ∧
     (Ahead w_.drew w16 ∧
      (Calls Tryz.prog 154 #[s9.v, Value.int .u64 t9] w16 fun e10 w17 =>
       ∃ s11 : Slc, e10 = .returned s11.v ∧
       (Ahead w16 w17 ∧
        (R (.returned (Value.tuple #[s10.v, s11.v])) w17)))))) :
    Calls Tryz.prog 116 #[a0.v, a1.v] w R := by
  refine calls_of_vc (marks [2000008] (div_divide_cut J0 m0 J2 m2)) (by kernel_rfl) Tryz.func116 rfl ?_ ?_
  · refine kcast h ?_; kernel_rfl
  · exact (obl_seq rfl (obl_reg (obl_seq rfl (obl_seq rfl (obl_reg (obl_cond (obl_seq rfl (obl_reg (obl_ret (obl_skip (obl_seq rfl (obl_seq rfl (obl_reg (obl_cond (obl_seq rfl (obl_reg (obl_seq rfl (obl_seq rfl (obl_reg (obl_loop _ rfl (fun a_ w_ hL_ => (by
    obtain ⟨hz_, hd_, hL_⟩ := atSz_out hL_
    obtain ⟨t0, h0_, hL_⟩ := atS_out hL_
    obtain ⟨t1, h1_, hL_⟩ := atS_out hL_
    obtain ⟨t6, h6_, hL_⟩ := atS_out hL_
    obtain ⟨t7, h7_, hL_⟩ := atI_out hL_
    obtain ⟨t8, h8_, hL_⟩ := atI_out hL_
    obtain ⟨g0, rfl⟩ : ∃ g, a_ = Fr 104 [(0, t0.v), (1, t1.v), (6, t6.v), (7, Value.int .u64 t7), (8, Value.int .i64 t8)] g := ⟨_, fr_of hz_ hd_ [(0, t0.v), (1, t1.v), (6, t6.v), (7, Value.int .u64 t7), (8, Value.int .i64 t8)] (sel_cons h0_ (sel_cons h1_ (sel_cons h6_ (sel_cons h7_ (sel_cons h8_ sel_nil)))))⟩
    clear hz_ hd_ h0_ h1_ h6_ h7_ h8_
    have hJ0_ := hL_
    refine ⟨(marks [2000008] (fun _ => none)), kcast (h0 t0 t1 t6 t7 t8 w_ hJ0_) ?_, ?_⟩
    · kernel_rfl
    · exact (obl_seq rfl (obl_seq rfl (obl_reg (obl_cond (obl_skip (obl_exit (obl_seq rfl (obl_blk rfl (obl_store _ rfl (by kernel_rfl) (obl_reg trivial)))))))))))) (obl_seq rfl (obl_reg (obl_ret (obl_skip (obl_seq rfl (obl_reg (obl_seq rfl (obl_held (by kernel_rfl) (by kernel_rfl) (by kernel_rfl) (obl_seq rfl (obl_reg (obl_seq rfl (obl_reg (obl_seq rfl (obl_seq rfl (obl_reg (obl_loop _ rfl (fun a_ w_ hL_ => (by
    obtain ⟨hz_, hd_, hL_⟩ := atSz_out hL_
    obtain ⟨t9, h9_, hL_⟩ := atI_out hL_
    obtain ⟨t10, h10_, hL_⟩ := atS_out hL_
    obtain ⟨t11, h11_, hL_⟩ := atS_out hL_
    obtain ⟨t12, h12_, hL_⟩ := atI_out hL_
    obtain ⟨t13, h13_, hL_⟩ := atS_out hL_
    obtain ⟨t14, h14_, hL_⟩ := atI_out hL_
    obtain ⟨g2, rfl⟩ : ∃ g, a_ = Fr 104 [(9, Value.int .u64 t9), (10, t10.v), (11, t11.v), (12, Value.int .i64 t12), (13, t13.v), (14, Value.int .i64 t14)] g := ⟨_, fr_of hz_ hd_ [(9, Value.int .u64 t9), (10, t10.v), (11, t11.v), (12, Value.int .i64 t12), (13, t13.v), (14, Value.int .i64 t14)] (sel_cons h9_ (sel_cons h10_ (sel_cons h11_ (sel_cons h12_ (sel_cons h13_ (sel_cons h14_ sel_nil))))))⟩
    clear hz_ hd_ h9_ h10_ h11_ h12_ h13_ h14_
    have hJ2_ := hL_
    refine ⟨(marks [2000008] (fun _ => none)), kcast (h2 t9 t10 t11 t12 t13 t14 w_ hJ2_) ?_, ?_⟩
    · kernel_rfl
    · exact (obl_seq rfl (obl_seq rfl (obl_reg (obl_cond (obl_skip (obl_exit (obl_seq rfl (obl_blk rfl (obl_reg (obl_reg trivial)))))))))))) (obl_seq rfl (obl_held (by kernel_rfl) (by kernel_rfl) (by kernel_rfl) (obl_ret trivial)))))))))))))))))))))))))))))))))))))))

def div_up_cut (J0 : Int → Slc → Slc → Int → Int → World → Prop) (m0 : Int → Slc → Slc → Int → Int → World → Nat) : Nat → Option ((Act → World → Prop) × (Act → World → Nat))
  | 0 => some (fun a_ w_ => atSz a_ 39 (atI .u64 a_ 1 fun t1_shift => atS a_ 5 fun t5_c => atS a_ 12 fun t12 => atI .i64 a_ 13 fun t13 => atI .i64 a_ 14 fun t14 => J0 t1_shift t5_c t12 t13 t14 w_), fun a_ w_ => mI a_ 1 fun t1_shift => mS a_ 5 fun t5_c => mS a_ 12 fun t12 => mI a_ 13 fun t13 => mI a_ 14 fun t14 => m0 t1_shift t5_c t12 t13 t14 w_)
  | _ => none

set_option maxRecDepth 100000 in
/-- surd/div.up: function 152. -/
theorem div_up_vc (a0_a : Slc) (a1_shift : Int) (w : World) (R : Ending → World → Prop)
    (J0 : Int → Slc → Slc → Int → Int → World → Prop) (m0 : Int → Slc → Slc → Int → Int → World → Nat)
    (h : semS Tryz.prog (Instr.makeSlice 23 (Value.int .i64 (IntKind.i64.wrap ((a0_a.n : Int) + 1))) (Value.int .i64 (IntKind.i64.wrap ((a0_a.n : Int) + 1)))) w fun s1 w1 =>
    J0 a1_shift s1 a0_a (a0_a.n : Int) 0 w1)
    (h0 : ∀ (t1_shift : Int) (t5_c : Slc) (t12 : Slc) (t13 : Int) (t14 : Int) (w_ : World), J0 t1_shift t5_c t12 t13 t14 w_ → 
    br (decide (t14 < t13))
    (semA Tryz.prog (Instr.indexAt 23 t12.v (Value.int .i64 t14)) w_ fun ad1 w2 =>
     ldI .u64 ad1 w2 fun x1 =>
     semA Tryz.prog (Instr.indexAt 23 t5_c.v (Value.int .i64 t14)) w2 fun ad2 w3 =>
     ldI .u64 ad2 w3 fun x2 =>
     semI Tryz.prog .u64 (binOp .shl 65 (Value.int .u64 x1) (Value.int .u64 t1_shift)) w3 fun x3 w4 =>
     semA Tryz.prog (Instr.indexAt 23 t5_c.v (Value.int .i64 t14)) w4 fun ad3 w5 =>
     stC ad3 (Value.int .u64 (orI .u64 x2 x3)) w5 fun w6 =>
     semI Tryz.prog .u64 (binOp .shr 65 (Value.int .u64 (Int.fdiv x1 (2 ^ (1 : Nat)))) (Value.int .u64 (IntKind.u64.wrap (63 - t1_shift)))) w6 fun x4 w7 =>
     semA Tryz.prog (Instr.indexAt 23 t5_c.v (Value.int .i64 (IntKind.i64.wrap (t14 + 1)))) w7 fun ad4 w8 =>
     stC ad4 (Value.int .u64 x4) w8 fun w9 =>
     J0 t1_shift t5_c t12 t13 (IntKind.i64.wrap (t14 + 1)) w9 ∧
     m0 t1_shift t5_c t12 t13 (IntKind.i64.wrap (t14 + 1)) w9 < m0 t1_shift t5_c t12 t13 t14 w_)
    (R (.returned t5_c.v) w_)) :
    Calls Tryz.prog 152 #[a0_a.v, Value.int .u64 a1_shift] w R := by
  refine calls_of_vc (div_up_cut J0 m0) (by kernel_rfl) Tryz.func152 rfl ?_ ?_
  · refine kcast h ?_; kernel_rfl
  · exact (obl_seq rfl (obl_reg (obl_seq rfl (obl_reg (obl_seq rfl (obl_seq rfl (obl_reg (obl_loop _ rfl (fun a_ w_ hL_ => (by
    obtain ⟨hz_, hd_, hL_⟩ := atSz_out hL_
    obtain ⟨t1_shift, h1_, hL_⟩ := atI_out hL_
    obtain ⟨t5_c, h5_, hL_⟩ := atS_out hL_
    obtain ⟨t12, h12_, hL_⟩ := atS_out hL_
    obtain ⟨t13, h13_, hL_⟩ := atI_out hL_
    obtain ⟨t14, h14_, hL_⟩ := atI_out hL_
    obtain ⟨g0, rfl⟩ : ∃ g, a_ = Fr 39 [(1, Value.int .u64 t1_shift), (5, t5_c.v), (12, t12.v), (13, Value.int .i64 t13), (14, Value.int .i64 t14)] g := ⟨_, fr_of hz_ hd_ [(1, Value.int .u64 t1_shift), (5, t5_c.v), (12, t12.v), (13, Value.int .i64 t13), (14, Value.int .i64 t14)] (sel_cons h1_ (sel_cons h5_ (sel_cons h12_ (sel_cons h13_ (sel_cons h14_ sel_nil)))))⟩
    clear hz_ hd_ h1_ h5_ h12_ h13_ h14_
    have hJ0_ := hL_
    refine ⟨(fun _ => none), kcast (h0 t1_shift t5_c t12 t13 t14 w_ hJ0_) ?_, ?_⟩
    · kernel_rfl
    · exact (obl_seq rfl (obl_reg (obl_seq rfl (obl_cond (obl_skip (obl_exit (obl_seq rfl (obl_blk rfl (obl_seq rfl (obl_reg (obl_seq rfl (obl_reg (obl_reg (obl_reg trivial)))))))))))))))) (obl_seq rfl (obl_reg (obl_ret trivial)))))))))))

def div_down_cut (J0 : Slc → Int → Slc → Slc → Int → Int → World → Prop) (m0 : Slc → Int → Slc → Slc → Int → Int → World → Nat) : Nat → Option ((Act → World → Prop) × (Act → World → Nat))
  | 0 => some (fun a_ w_ => atSz a_ 47 (atS a_ 0 fun t0_a => atI .u64 a_ 1 fun t1_shift => atS a_ 5 fun t5_c => atS a_ 11 fun t11 => atI .i64 a_ 12 fun t12 => atI .i64 a_ 13 fun t13 => J0 t0_a t1_shift t5_c t11 t12 t13 w_), fun a_ w_ => mS a_ 0 fun t0_a => mI a_ 1 fun t1_shift => mS a_ 5 fun t5_c => mS a_ 11 fun t11 => mI a_ 12 fun t12 => mI a_ 13 fun t13 => m0 t0_a t1_shift t5_c t11 t12 t13 w_)
  | _ => none

set_option maxRecDepth 100000 in
/-- surd/div.down: function 154. -/
theorem div_down_vc (a0_a : Slc) (a1_shift : Int) (w : World) (R : Ending → World → Prop)
    (J0 : Slc → Int → Slc → Slc → Int → Int → World → Prop) (m0 : Slc → Int → Slc → Slc → Int → Int → World → Nat)
    (h : semS Tryz.prog (Instr.makeSlice 23 (Value.int .i64 (a0_a.n : Int)) (Value.int .i64 (a0_a.n : Int))) w fun s1 w1 =>
    J0 a0_a a1_shift s1 a0_a (a0_a.n : Int) 0 w1)
    (h0 : ∀ (t0_a : Slc) (t1_shift : Int) (t5_c : Slc) (t11 : Slc) (t12 : Int) (t13 : Int) (w_ : World), J0 t0_a t1_shift t5_c t11 t12 t13 w_ → 
    br (decide (t13 < t12))
    (semA Tryz.prog (Instr.indexAt 23 t11.v (Value.int .i64 t13)) w_ fun ad1 w2 =>
     ldI .u64 ad1 w2 fun x1 =>
     semI Tryz.prog .u64 (binOp .shr 65 (Value.int .u64 x1) (Value.int .u64 t1_shift)) w2 fun x2 w3 =>
     semA Tryz.prog (Instr.indexAt 23 t5_c.v (Value.int .i64 t13)) w3 fun ad2 w4 =>
     stC ad2 (Value.int .u64 x2) w4 fun w5 =>
     br (decide ((IntKind.i64.wrap (t13 + 1)) < (t0_a.n : Int)))
     (fixA Tryz.prog (Instr.indexAt 23 t5_c.v (Value.int .i64 t13)) w5 fun ad3 =>
      ldI .u64 ad3 w5 fun x3 =>
      fixA Tryz.prog (Instr.indexAt 23 t0_a.v (Value.int .i64 (IntKind.i64.wrap (t13 + 1)))) w5 fun ad4 =>
      ldI .u64 ad4 w5 fun x4 =>
      fixI Tryz.prog .u64 (binOp .shl 65 (Value.int .u64 (IntKind.u64.wrap (x4 * 2 ^ (1 : Nat)))) (Value.int .u64 (IntKind.u64.wrap (63 - t1_shift)))) w5 fun x5 =>
      fixA Tryz.prog (Instr.indexAt 23 t5_c.v (Value.int .i64 t13)) w5 fun ad5 =>
      stC ad5 (Value.int .u64 (orI .u64 x3 x5)) w5.drew fun w6 =>
      J0 t0_a t1_shift t5_c t11 t12 (IntKind.i64.wrap (t13 + 1)) w6 ∧
      m0 t0_a t1_shift t5_c t11 t12 (IntKind.i64.wrap (t13 + 1)) w6 < m0 t0_a t1_shift t5_c t11 t12 t13 w_)
     (J0 t0_a t1_shift t5_c t11 t12 (IntKind.i64.wrap (t13 + 1)) w5 ∧
      m0 t0_a t1_shift t5_c t11 t12 (IntKind.i64.wrap (t13 + 1)) w5 < m0 t0_a t1_shift t5_c t11 t12 t13 w_))
    (Calls Tryz.prog 85 #[t5_c.v] w_ fun e1 w7 =>
     ∃ s2 : Slc, e1 = .returned s2.v ∧
     (R (.returned s2.v) w7))) :
    Calls Tryz.prog 154 #[a0_a.v, Value.int .u64 a1_shift] w R := by
  refine calls_of_vc (div_down_cut J0 m0) (by kernel_rfl) Tryz.func154 rfl ?_ ?_
  · refine kcast h ?_; kernel_rfl
  · exact (obl_seq rfl (obl_reg (obl_seq rfl (obl_reg (obl_seq rfl (obl_seq rfl (obl_reg (obl_loop _ rfl (fun a_ w_ hL_ => (by
    obtain ⟨hz_, hd_, hL_⟩ := atSz_out hL_
    obtain ⟨t0_a, h0_, hL_⟩ := atS_out hL_
    obtain ⟨t1_shift, h1_, hL_⟩ := atI_out hL_
    obtain ⟨t5_c, h5_, hL_⟩ := atS_out hL_
    obtain ⟨t11, h11_, hL_⟩ := atS_out hL_
    obtain ⟨t12, h12_, hL_⟩ := atI_out hL_
    obtain ⟨t13, h13_, hL_⟩ := atI_out hL_
    obtain ⟨g0, rfl⟩ : ∃ g, a_ = Fr 47 [(0, t0_a.v), (1, Value.int .u64 t1_shift), (5, t5_c.v), (11, t11.v), (12, Value.int .i64 t12), (13, Value.int .i64 t13)] g := ⟨_, fr_of hz_ hd_ [(0, t0_a.v), (1, Value.int .u64 t1_shift), (5, t5_c.v), (11, t11.v), (12, Value.int .i64 t12), (13, Value.int .i64 t13)] (sel_cons h0_ (sel_cons h1_ (sel_cons h5_ (sel_cons h11_ (sel_cons h12_ (sel_cons h13_ sel_nil))))))⟩
    clear hz_ hd_ h0_ h1_ h5_ h11_ h12_ h13_
    have hJ0_ := hL_
    refine ⟨(fun _ => none), kcast (h0 t0_a t1_shift t5_c t11 t12 t13 w_ hJ0_) ?_, ?_⟩
    · kernel_rfl
    · exact (obl_seq rfl (obl_reg (obl_seq rfl (obl_cond (obl_skip (obl_exit (obl_seq rfl (obl_blk rfl (obl_seq rfl (obl_reg (obl_seq rfl (obl_reg (obl_seq rfl (obl_reg (obl_cond (obl_tail 15 (by kernel_rfl) (by kernel_rfl) (by kernel_rfl) (by kernel_rfl) (by kernel_rfl) (obl_skip (obl_reg trivial)))))))))))))))))))) (obl_seq rfl (obl_reg (obl_ret trivial)))))))))))

def div_guess_cut (J0 : Slc → Slc → Int → Int → Int → Bool → World → Prop) (m0 : Slc → Slc → Int → Int → Int → Bool → World → Nat) (J2 : Slc → Slc → Int → Int → Int → Int → Slc → Int → Int → World → Prop) (m2 : Slc → Slc → Int → Int → Int → Int → Slc → Int → Int → World → Nat) (J4 : Slc → Int → Int → Int → Slc → Int → Int → World → Prop) (m4 : Slc → Int → Int → Int → Slc → Int → Int → World → Nat) : Nat → Option ((Act → World → Prop) × (Act → World → Nat))
  | 0 => some (fun a_ w_ => atSz a_ 195 (atS a_ 0 fun t0 => atS a_ 1 fun t1 => atI .i64 a_ 5 fun t5 => atI .u64 a_ 6 fun t6 => atI .u64 a_ 7 fun t7 => atB a_ 8 fun t8 => J0 t0 t1 t5 t6 t7 t8 w_), fun a_ w_ => mS a_ 0 fun t0 => mS a_ 1 fun t1 => mI a_ 5 fun t5 => mI a_ 6 fun t6 => mI a_ 7 fun t7 => mB a_ 8 fun t8 => m0 t0 t1 t5 t6 t7 t8 w_)
  | 2 => some (fun a_ w_ => atSz a_ 195 (atS a_ 0 fun t0 => atS a_ 1 fun t1 => atI .i64 a_ 5 fun t5 => atI .u64 a_ 6 fun t6 => atI .u64 a_ 13 fun t13 => atI .u64 a_ 14 fun t14 => atS a_ 113 fun t113 => atI .i64 a_ 114 fun t114 => atI .i64 a_ 115 fun t115 => J2 t0 t1 t5 t6 t13 t14 t113 t114 t115 w_), fun a_ w_ => mS a_ 0 fun t0 => mS a_ 1 fun t1 => mI a_ 5 fun t5 => mI a_ 6 fun t6 => mI a_ 13 fun t13 => mI a_ 14 fun t14 => mS a_ 113 fun t113 => mI a_ 114 fun t114 => mI a_ 115 fun t115 => m2 t0 t1 t5 t6 t13 t14 t113 t114 t115 w_)
  | 4 => some (fun a_ w_ => atSz a_ 195 (atS a_ 0 fun t0 => atI .i64 a_ 5 fun t5 => atI .u64 a_ 6 fun t6 => atI .u64 a_ 21 fun t21 => atS a_ 166 fun t166 => atI .i64 a_ 167 fun t167 => atI .i64 a_ 168 fun t168 => J4 t0 t5 t6 t21 t166 t167 t168 w_), fun a_ w_ => mS a_ 0 fun t0 => mI a_ 5 fun t5 => mI a_ 6 fun t6 => mI a_ 21 fun t21 => mS a_ 166 fun t166 => mI a_ 167 fun t167 => mI a_ 168 fun t168 => m4 t0 t5 t6 t21 t166 t167 t168 w_)
  | _ => none

set_option maxRecDepth 100000 in
/-- surd/div.guess: function 153. -/
theorem div_guess_vc (a0 : Slc) (a1 : Slc) (w : World) (R : Ending → World → Prop)
    (J0 : Slc → Slc → Int → Int → Int → Bool → World → Prop) (m0 : Slc → Slc → Int → Int → Int → Bool → World → Nat) (J2 : Slc → Slc → Int → Int → Int → Int → Slc → Int → Int → World → Prop) (m2 : Slc → Slc → Int → Int → Int → Int → Slc → Int → Int → World → Nat) (J4 : Slc → Int → Int → Int → Slc → Int → Int → World → Prop) (m4 : Slc → Int → Int → Int → Slc → Int → Int → World → Nat)
    (h : fixA Tryz.prog (Instr.indexAt 23 a0.v (Value.int .i64 (a1.n : Int))) w fun ad1 =>
    ldI .u64 ad1 w fun x1 =>
    fixA Tryz.prog (Instr.indexAt 23 a1.v (Value.int .i64 (IntKind.i64.wrap ((a1.n : Int) - 1)))) w fun ad2 =>
    ldI .u64 ad2 w fun x2 =>
    ∀ w1, Ahead w w1 →
    (br (decide (x1 ≥ x2))
     (fixA Tryz.prog (Instr.indexAt 23 a0.v (Value.int .i64 (IntKind.i64.wrap ((a1.n : Int) - 1)))) w1.drew fun ad3 =>
      ldI .u64 ad3 w1.drew fun x3 =>
      fixA Tryz.prog (Instr.indexAt 23 a1.v (Value.int .i64 (IntKind.i64.wrap ((a1.n : Int) - 1)))) w1.drew fun ad4 =>
      ldI .u64 ad4 w1.drew fun x4 =>
      Sem.wp Tryz.prog (callFunc 121 #[Value.int .u64 x3, Value.int .u64 x4, Value.int .u64 0]) (fun n1 w2 =>
       ∃ x5 : Int, ∃ x6 : Int, n1 = .value (Value.tuple #[Value.int .u64 x5, Value.int .u64 x6]) ∧
       (Ahead w1.drew w2 ∧
        (J0 a0 a1 (a1.n : Int) 18446744073709551615 x5 (x6 != 0) w2))) (fun _ _ => False) w1.drew)
     (fixA Tryz.prog (Instr.indexAt 23 a0.v (Value.int .i64 (a1.n : Int))) w1.drew fun ad19 =>
      ldI .u64 ad19 w1.drew fun x33 =>
      fixA Tryz.prog (Instr.indexAt 23 a0.v (Value.int .i64 (IntKind.i64.wrap ((a1.n : Int) - 1)))) w1.drew fun ad20 =>
      ldI .u64 ad20 w1.drew fun x34 =>
      fixA Tryz.prog (Instr.indexAt 23 a1.v (Value.int .i64 (IntKind.i64.wrap ((a1.n : Int) - 1)))) w1.drew fun ad21 =>
      ldI .u64 ad21 w1.drew fun x35 =>
      Calls Tryz.prog 150 #[Value.int .u64 x33, Value.int .u64 x34, Value.int .u64 x35] w1.drew fun e3 w29 =>
      ∃ x36 : Int, ∃ x37 : Int, e3 = .returned (Value.tuple #[Value.int .u64 x36, Value.int .u64 x37]) ∧
      (Ahead w1.drew w29 ∧
       (J0 a0 a1 (a1.n : Int) x36 x37 false w29)))))
    (h0 : ∀ (t0 : Slc) (t1 : Slc) (t5 : Int) (t6 : Int) (t7 : Int) (t8 : Bool) (w_ : World), J0 t0 t1 t5 t6 t7 t8 w_ → 
    br (!t8)
    (semA Tryz.prog (Instr.indexAt 23 t1.v (Value.int .i64 (IntKind.i64.wrap (t5 - 2)))) w_ fun ad5 w3 =>
     ldI .u64 ad5 w3 fun x7 =>
     Calls Tryz.prog 167 #[Value.int .u64 t6, Value.int .u64 x7] w3 fun e1 w4 =>
     ∃ x8 : Int, ∃ x9 : Int, e1 = .returned (Value.tuple #[Value.int .u64 x8, Value.int .u64 x9]) ∧
     (br (decide (x8 < t7))
      (J2 t0 t1 t5 t6 0 0 t1 (t1.n : Int) 0 w4)
      (br (x8 == t7)
       (semA Tryz.prog (Instr.indexAt 23 t0.v (Value.int .i64 (IntKind.i64.wrap (t5 - 2)))) w4 fun ad16 w24 =>
        ldI .u64 ad16 w24 fun x26 =>
        br (decide (x9 ≤ x26))
        (J2 t0 t1 t5 t6 0 0 t1 (t1.n : Int) 0 w24)
        (semA Tryz.prog (Instr.indexAt 23 t1.v (Value.int .i64 (IntKind.i64.wrap (t5 - 1)))) w24 fun ad17 w25 =>
         ldI .u64 ad17 w25 fun x27 =>
         Sem.wp Tryz.prog (callFunc 121 #[Value.int .u64 t7, Value.int .u64 x27, Value.int .u64 0]) (fun n6 w26 =>
          ∃ x28 : Int, ∃ x29 : Int, n6 = .value (Value.tuple #[Value.int .u64 x28, Value.int .u64 x29]) ∧
          (br (x29 != 0)
           (J2 t0 t1 t5 (IntKind.u64.wrap (t6 - 1)) 0 0 t1 (t1.n : Int) 0 w26)
           (J0 t0 t1 t5 (IntKind.u64.wrap (t6 - 1)) x28 t8 w26 ∧
            m0 t0 t1 t5 (IntKind.u64.wrap (t6 - 1)) x28 t8 w26 < m0 t0 t1 t5 t6 t7 t8 w_))) (fun _ _ => False) w25))
       (semA Tryz.prog (Instr.indexAt 23 t1.v (Value.int .i64 (IntKind.i64.wrap (t5 - 1)))) w4 fun ad18 w27 =>
        ldI .u64 ad18 w27 fun x30 =>
        Sem.wp Tryz.prog (callFunc 121 #[Value.int .u64 t7, Value.int .u64 x30, Value.int .u64 0]) (fun n7 w28 =>
         ∃ x31 : Int, ∃ x32 : Int, n7 = .value (Value.tuple #[Value.int .u64 x31, Value.int .u64 x32]) ∧
         (br (x32 != 0)
          (J2 t0 t1 t5 (IntKind.u64.wrap (t6 - 1)) 0 0 t1 (t1.n : Int) 0 w28)
          (J0 t0 t1 t5 (IntKind.u64.wrap (t6 - 1)) x31 t8 w28 ∧
           m0 t0 t1 t5 (IntKind.u64.wrap (t6 - 1)) x31 t8 w28 < m0 t0 t1 t5 t6 t7 t8 w_))) (fun _ _ => False) w27))))
    (J2 t0 t1 t5 t6 0 0 t1 (t1.n : Int) 0 w_))
    (h2 : ∀ (t0 : Slc) (t1 : Slc) (t5 : Int) (t6 : Int) (t13 : Int) (t14 : Int) (t113 : Slc) (t114 : Int) (t115 : Int) (w_ : World), J2 t0 t1 t5 t6 t13 t14 t113 t114 t115 w_ → 
    br (decide (t115 < t114))
    (semA Tryz.prog (Instr.indexAt 23 t113.v (Value.int .i64 t115)) w_ fun ad6 w5 =>
     ldI .u64 ad6 w5 fun x10 =>
     Calls Tryz.prog 167 #[Value.int .u64 x10, Value.int .u64 t6] w5 fun e2 w6 =>
     ∃ x11 : Int, ∃ x12 : Int, e2 = .returned (Value.tuple #[Value.int .u64 x11, Value.int .u64 x12]) ∧
     (Sem.wp Tryz.prog (callFunc 121 #[Value.int .u64 x12, Value.int .u64 t13, Value.int .u64 0]) (fun n2 w7 =>
       ∃ x13 : Int, ∃ x14 : Int, n2 = .value (Value.tuple #[Value.int .u64 x13, Value.int .u64 x14]) ∧
       (semA Tryz.prog (Instr.indexAt 23 t0.v (Value.int .i64 t115)) w7 fun ad7 w8 =>
        ldI .u64 ad7 w8 fun x15 =>
        Sem.wp Tryz.prog (callFunc 168 #[Value.int .u64 x15, Value.int .u64 x13, Value.int .u64 t14]) (fun n3 w9 =>
         ∃ x16 : Int, ∃ x17 : Int, n3 = .value (Value.tuple #[Value.int .u64 x16, Value.int .u64 x17]) ∧
         (semA Tryz.prog (Instr.indexAt 23 t0.v (Value.int .i64 t115)) w9 fun ad8 w10 =>
          stC ad8 (Value.int .u64 x16) w10 fun w11 =>
          J2 t0 t1 t5 t6 (IntKind.u64.wrap (x11 + x14)) x17 t113 t114 (IntKind.i64.wrap (t115 + 1)) w11 ∧
          m2 t0 t1 t5 t6 (IntKind.u64.wrap (x11 + x14)) x17 t113 t114 (IntKind.i64.wrap (t115 + 1)) w11 < m2 t0 t1 t5 t6 t13 t14 t113 t114 t115 w_)) (fun _ _ => False) w8)) (fun _ _ => False) w6))
    (semA Tryz.prog (Instr.indexAt 23 t0.v (Value.int .i64 t5)) w_ fun ad9 w12 =>
     ldI .u64 ad9 w12 fun x18 =>
     Sem.wp Tryz.prog (callFunc 168 #[Value.int .u64 x18, Value.int .u64 t13, Value.int .u64 t14]) (fun n4 w13 =>
      ∃ x19 : Int, ∃ x20 : Int, n4 = .value (Value.tuple #[Value.int .u64 x19, Value.int .u64 x20]) ∧
      (semA Tryz.prog (Instr.indexAt 23 t0.v (Value.int .i64 t5)) w13 fun ad10 w14 =>
       stC ad10 (Value.int .u64 x19) w14 fun w15 =>
       br (x20 != 0)
       (J4 t0 t5 (IntKind.u64.wrap (t6 - 1)) 0 t1 (t1.n : Int) 0 w15)
       (R (.returned (Value.int .u64 t6)) w15))) (fun _ _ => False) w12))
    (h4 : ∀ (t0 : Slc) (t5 : Int) (t6 : Int) (t21 : Int) (t166 : Slc) (t167 : Int) (t168 : Int) (w_ : World), J4 t0 t5 t6 t21 t166 t167 t168 w_ → 
    br (decide (t168 < t167))
    (semA Tryz.prog (Instr.indexAt 23 t166.v (Value.int .i64 t168)) w_ fun ad11 w16 =>
     ldI .u64 ad11 w16 fun x21 =>
     semA Tryz.prog (Instr.indexAt 23 t0.v (Value.int .i64 t168)) w16 fun ad12 w17 =>
     ldI .u64 ad12 w17 fun x22 =>
     Sem.wp Tryz.prog (callFunc 121 #[Value.int .u64 x22, Value.int .u64 x21, Value.int .u64 t21]) (fun n5 w18 =>
      ∃ x23 : Int, ∃ x24 : Int, n5 = .value (Value.tuple #[Value.int .u64 x23, Value.int .u64 x24]) ∧
      (semA Tryz.prog (Instr.indexAt 23 t0.v (Value.int .i64 t168)) w18 fun ad13 w19 =>
       stC ad13 (Value.int .u64 x23) w19 fun w20 =>
       J4 t0 t5 t6 x24 t166 t167 (IntKind.i64.wrap (t168 + 1)) w20 ∧
       m4 t0 t5 t6 x24 t166 t167 (IntKind.i64.wrap (t168 + 1)) w20 < m4 t0 t5 t6 t21 t166 t167 t168 w_)) (fun _ _ => False) w17)
    (semA Tryz.prog (Instr.indexAt 23 t0.v (Value.int .i64 t5)) w_ fun ad14 w21 =>
     ldI .u64 ad14 w21 fun x25 =>
     semA Tryz.prog (Instr.indexAt 23 t0.v (Value.int .i64 t5)) w21 fun ad15 w22 =>
     stC ad15 (Value.int .u64 (IntKind.u64.wrap (x25 + t21))) w22 fun w23 =>
     R (.returned (Value.int .u64 t6)) w23)) :
    Calls Tryz.prog 153 #[a0.v, a1.v] w R := by
  refine calls_of_vc (div_guess_cut J0 m0 J2 m2 J4 m4) (by kernel_rfl) Tryz.func153 rfl ?_ ?_
  · refine kcast h ?_; kernel_rfl
  · exact (obl_seq rfl (obl_reg (obl_seq rfl (obl_reg (obl_seq rfl (obl_reg (obl_seq rfl (obl_reg (obl_seq rfl (obl_seq rfl (obl_quiet (by kernel_rfl) (by kernel_rfl) (by kernel_rfl) (by kernel_rfl) (obl_cond (obl_seq rfl (obl_reg (obl_seq rfl (obl_reg (obl_seq rfl (obl_held (by kernel_rfl) (by kernel_rfl) (by kernel_rfl) (obl_reg (obl_held (by kernel_rfl) (by kernel_rfl) (by kernel_rfl) (obl_seq rfl (obl_loop _ rfl (fun a_ w_ hL_ => (by
    obtain ⟨hz_, hd_, hL_⟩ := atSz_out hL_
    obtain ⟨t0, h0_, hL_⟩ := atS_out hL_
    obtain ⟨t1, h1_, hL_⟩ := atS_out hL_
    obtain ⟨t5, h5_, hL_⟩ := atI_out hL_
    obtain ⟨t6, h6_, hL_⟩ := atI_out hL_
    obtain ⟨t7, h7_, hL_⟩ := atI_out hL_
    obtain ⟨t8, h8_, hL_⟩ := atB_out hL_
    obtain ⟨g0, rfl⟩ : ∃ g, a_ = Fr 195 [(0, t0.v), (1, t1.v), (5, Value.int .i64 t5), (6, Value.int .u64 t6), (7, Value.int .u64 t7), (8, Value.bool t8)] g := ⟨_, fr_of hz_ hd_ [(0, t0.v), (1, t1.v), (5, Value.int .i64 t5), (6, Value.int .u64 t6), (7, Value.int .u64 t7), (8, Value.bool t8)] (sel_cons h0_ (sel_cons h1_ (sel_cons h5_ (sel_cons h6_ (sel_cons h7_ (sel_cons h8_ sel_nil))))))⟩
    clear hz_ hd_ h0_ h1_ h5_ h6_ h7_ h8_
    have hJ0_ := hL_
    refine ⟨(fun _ => none), kcast (h0 t0 t1 t5 t6 t7 t8 w_ hJ0_) ?_, ?_⟩
    · kernel_rfl
    · exact (obl_seq rfl (obl_seq rfl (obl_reg (obl_cond (obl_skip (obl_exit (obl_blk rfl (obl_seq rfl (obl_reg (obl_seq rfl (obl_seq rfl (obl_reg (obl_cond (obl_exit (obl_skip (obl_seq rfl (obl_reg (obl_seq rfl (obl_reg (obl_seq rfl (obl_reg (obl_seq rfl (obl_reg (obl_cond (obl_exit (obl_skip trivial)))))))))))))))))))))))))))) (obl_seq rfl (obl_reg (obl_seq rfl (obl_seq rfl (obl_reg (obl_loop _ rfl (fun a_ w_ hL_ => (by
    obtain ⟨hz_, hd_, hL_⟩ := atSz_out hL_
    obtain ⟨t0, h0_, hL_⟩ := atS_out hL_
    obtain ⟨t1, h1_, hL_⟩ := atS_out hL_
    obtain ⟨t5, h5_, hL_⟩ := atI_out hL_
    obtain ⟨t6, h6_, hL_⟩ := atI_out hL_
    obtain ⟨t13, h13_, hL_⟩ := atI_out hL_
    obtain ⟨t14, h14_, hL_⟩ := atI_out hL_
    obtain ⟨t113, h113_, hL_⟩ := atS_out hL_
    obtain ⟨t114, h114_, hL_⟩ := atI_out hL_
    obtain ⟨t115, h115_, hL_⟩ := atI_out hL_
    obtain ⟨g2, rfl⟩ : ∃ g, a_ = Fr 195 [(0, t0.v), (1, t1.v), (5, Value.int .i64 t5), (6, Value.int .u64 t6), (13, Value.int .u64 t13), (14, Value.int .u64 t14), (113, t113.v), (114, Value.int .i64 t114), (115, Value.int .i64 t115)] g := ⟨_, fr_of hz_ hd_ [(0, t0.v), (1, t1.v), (5, Value.int .i64 t5), (6, Value.int .u64 t6), (13, Value.int .u64 t13), (14, Value.int .u64 t14), (113, t113.v), (114, Value.int .i64 t114), (115, Value.int .i64 t115)] (sel_cons h0_ (sel_cons h1_ (sel_cons h5_ (sel_cons h6_ (sel_cons h13_ (sel_cons h14_ (sel_cons h113_ (sel_cons h114_ (sel_cons h115_ sel_nil)))))))))⟩
    clear hz_ hd_ h0_ h1_ h5_ h6_ h13_ h14_ h113_ h114_ h115_
    have hJ2_ := hL_
    refine ⟨(fun _ => none), kcast (h2 t0 t1 t5 t6 t13 t14 t113 t114 t115 w_ hJ2_) ?_, ?_⟩
    · kernel_rfl
    · exact (obl_seq rfl (obl_reg (obl_seq rfl (obl_cond (obl_skip (obl_exit (obl_seq rfl (obl_blk rfl (obl_seq rfl (obl_reg (obl_seq rfl (obl_reg (obl_seq rfl (obl_reg (obl_seq rfl (obl_reg (obl_reg (obl_reg trivial)))))))))))))))))))) (obl_seq rfl (obl_reg (obl_seq rfl (obl_seq rfl (obl_reg (obl_cond (obl_seq rfl (obl_reg (obl_seq rfl (obl_reg (obl_seq rfl (obl_seq rfl (obl_reg (obl_loop _ rfl (fun a_ w_ hL_ => (by
    obtain ⟨hz_, hd_, hL_⟩ := atSz_out hL_
    obtain ⟨t0, h0_, hL_⟩ := atS_out hL_
    obtain ⟨t5, h5_, hL_⟩ := atI_out hL_
    obtain ⟨t6, h6_, hL_⟩ := atI_out hL_
    obtain ⟨t21, h21_, hL_⟩ := atI_out hL_
    obtain ⟨t166, h166_, hL_⟩ := atS_out hL_
    obtain ⟨t167, h167_, hL_⟩ := atI_out hL_
    obtain ⟨t168, h168_, hL_⟩ := atI_out hL_
    obtain ⟨g4, rfl⟩ : ∃ g, a_ = Fr 195 [(0, t0.v), (5, Value.int .i64 t5), (6, Value.int .u64 t6), (21, Value.int .u64 t21), (166, t166.v), (167, Value.int .i64 t167), (168, Value.int .i64 t168)] g := ⟨_, fr_of hz_ hd_ [(0, t0.v), (5, Value.int .i64 t5), (6, Value.int .u64 t6), (21, Value.int .u64 t21), (166, t166.v), (167, Value.int .i64 t167), (168, Value.int .i64 t168)] (sel_cons h0_ (sel_cons h5_ (sel_cons h6_ (sel_cons h21_ (sel_cons h166_ (sel_cons h167_ (sel_cons h168_ sel_nil)))))))⟩
    clear hz_ hd_ h0_ h5_ h6_ h21_ h166_ h167_ h168_
    have hJ4_ := hL_
    refine ⟨(fun _ => none), kcast (h4 t0 t5 t6 t21 t166 t167 t168 w_ hJ4_) ?_, ?_⟩
    · kernel_rfl
    · exact (obl_seq rfl (obl_reg (obl_seq rfl (obl_cond (obl_skip (obl_exit (obl_seq rfl (obl_blk rfl (obl_seq rfl (obl_reg (obl_reg (obl_reg trivial)))))))))))))) (obl_reg (obl_skip (obl_seq rfl (obl_reg (obl_ret trivial)))))))))))))))))))))))))))))))))))))))))))))))

set_option maxRecDepth 100000 in
/-- surd/div.Quo: function 86. -/
theorem div_Quo_vc (a0_a : Slc) (a1_b : Slc) (w : World) (R : Ending → World → Prop)
    
    (h : Calls Tryz.prog 85 #[a0_a.v] w fun e1 w1 =>
    ∃ s1 : Slc, e1 = .returned s1.v ∧
    (Calls Tryz.prog 85 #[a1_b.v] w1 fun e2 w2 =>
     ∃ s2 : Slc, e2 = .returned s2.v ∧
     (br ((s2.n : Int) == 0)
      (R (.returned (Value.tuple #[(⟨none, 0, 0⟩ : Slc).v, Value.int .i64 30])) w2)
      (Calls Tryz.prog 116 #[s1.v, s2.v] w2 fun e3 w3 =>
       ∃ s3 : Slc, ∃ s4 : Slc, e3 = .returned (Value.tuple #[s3.v, s4.v]) ∧
       (Calls Tryz.prog 46 #[s3.v] w3 fun e4 w4 =>
        ∃ x1 : Int, e4 = .returned (Value.int .i64 x1) ∧
        (br (decide (x1 > 67108864))
         (R (.returned (Value.tuple #[(⟨none, 0, 0⟩ : Slc).v, Value.int .i64 3])) w4)
         (R (.returned (Value.tuple #[s3.v, Value.int .i64 0])) w4))))))) :
    Calls Tryz.prog 86 #[a0_a.v, a1_b.v] w R := by
  refine calls_of_vc (fun _ => none) (by kernel_rfl) Tryz.func86 rfl ?_ ?_
  · refine kcast h ?_; kernel_rfl
  · exact (obl_seq rfl (obl_reg (obl_seq rfl (obl_reg (obl_seq rfl (obl_seq rfl (obl_reg (obl_cond (obl_seq rfl (obl_reg (obl_ret (obl_skip (obl_seq rfl (obl_reg (obl_seq rfl (obl_seq rfl (obl_reg (obl_cond (obl_seq rfl (obl_reg (obl_ret (obl_skip (obl_seq rfl (obl_reg (obl_ret trivial)))))))))))))))))))))))))

end Go.Proofs.YtbeiopoejdkheaaGreatDoor
namespace Go.Proofs.YtbeiopoejdkheaaGreatDoor
open Go Go.RowKit Eng Sp Dg Kd
set_option linter.unusedVariables false
set_option linter.unusedSimpArgs false
set_option maxRecDepth 100000
namespace Dq
open _root_.Go.Proofs.YtbeiopoejdkheaaGreatDoor.Nat (ldN ldNf add64 sub64 Div64_spec)
open _root_.Go.Proofs.YtbeiopoejdkheaaGreatDoor.Mul (Only Off)

theorem add_at {b j i : Nat} : (⟨b, j, none⟩ : Addr).add i = ⟨b, j + i, none⟩ := by
  unfold Addr.add
  split
  · rename_i h; subst h; simp
  · simp
/-- A window on a row of the call's own. -/
structure Win (w : World) (b : Nat) (U u : Slc) (pre s post : List Nat) : Prop where
  own : Owr .u64 tU64 w U (nn (pre ++ (s ++ post))) b
  hu : ∃ c, s.length ≤ c ∧ u = ⟨some ⟨b, pre.length, none⟩, s.length, c⟩
theorem Win.n {w : World} {b : Nat} {U u : Slc} {pre s post : List Nat} (h : Win w b U u pre s post) : u.n = s.length := by
  obtain ⟨c, _, rfl⟩ := h.hu; rfl
theorem Win.rd {w : World} {b : Nat} {U u : Slc} {pre s post : List Nat} (h : Win w b U u pre s post) : Rd .u64 w u (nn s) := by
  obtain ⟨c, hc, rfl⟩ := h.hu
  refine ⟨by rw [nn_length], hc, fun i hi => ⟨_, rfl, ?_⟩⟩
  rw [nn_length] at hi
  rw [add_at, h.own.cell (by rw [nn_length]; simp; omega)]
  congr 2
  rw [nn_getD, nn_getD]
  congr 1
  simp [List.getD_eq_getElem?_getD, List.getElem?_append, hi, show ¬ pre.length + i < pre.length by omega]
theorem Win.ahead {w w' : World} {b : Nat} {U u : Slc} {pre s post : List Nat} (h : Win w b U u pre s post) (a : Ahead w w') : Win w' b U u pre s post := ⟨h.own.ahead a, h.hu⟩
/-- A store into the window. -/
theorem Win.st {t : TypeId} {w : World} {b : Nat} {U u : Slc} {pre s post : List Nat} (h : Win w b U u pre s post) {i : Int} (h0 : 0 ≤ i) (h1 : i < s.length) {x : Nat} {K : World → Prop}
    (hk : ∀ w', Win w' b U u pre (s.set i.toNat x) post → Only b w w' → K w')
    (hT : isSl pr t .u64 = some tU64 := by kernel_rfl) : semA pr (Instr.indexAt t u.v (.int .i64 i)) w fun ad w1 => stC ad (.int .u64 (x : Int)) w1 fun w2 => K w2 := by
  obtain ⟨c, hc, hu⟩ := h.hu
  have hi : pre.length + i.toNat < (nn (pre ++ (s ++ post))).length := by rw [nn_length]; simp; omega
  unfold semA
  rw [Sem.wp_iff_run, run_indexAt hT w u i ⟨b, pre.length, none⟩ (by rw [hu]) h0 (by rw [h.n]; exact h1)]
  refine ⟨_, rfl, ?_⟩
  rw [add_at]
  have hs := h.own.set hi (x : Int)
  rw [nn_set] at hs
  have e : (pre ++ (s ++ post)).set (pre.length + i.toNat) x = pre ++ (s.set i.toNat x ++ post) := by
    rw [List.set_append, if_neg (by omega), Nat.add_sub_cancel_left, List.set_append, if_pos (by omega)]
  rw [e] at hs
  exact ⟨⟨_, h.own.cell hi⟩, h.own.frozen _, hk _ ⟨hs, c, by simpa using hc, by rw [hu]; simp⟩ (Only.setCell b _ w _)⟩

/-- What may change: the row's block, and what is new. -/
abbrev Bk1 (b : Nat) (w w' : World) : Prop := Bar (fun k => k = b) w w'
theorem Bk1.of_only {b : Nat} {w w' : World} (h : Only b w w') : Bk1 b w w' := ⟨h.1, h.2.1, h.2.2.1, by rw [h.2.2.2.1]; exact Nat.le_refl _, fun k _ hk => h.2.2.2.2 k hk⟩
theorem Bk1.rd {b : Nat} {w w' : World} (h : Bk1 b w w') {k : IntKind} {s : Slc} {l : List Int} (hr : Rd k w s l) (ho : Off b s) : Rd k w' s l :=
  ⟨hr.n, hr.c, fun i hi => by
    obtain ⟨ad, e, hc⟩ := hr.get i hi
    exact ⟨ad, e, h.cell (by rw [Mul.add_block]; exact ho ad e (by rw [hr.n]; omega)) hc⟩⟩

structure G2 (w : World) (b : Nat) (U u v : Slc) (pre s post vl : List Nat) (q : Nat) (w' : World) (i : Nat) (cr bo : Nat) (s1 : List Nat) : Prop where
  bar : Bk1 b w w'
  win : Win w' b U u pre s1 post
  hi : i ≤ vl.length
  hcr : cr < B64
  hbo : bo ≤ 1
  len : s1.length = s.length
  okk : ok B64 s1
  rest : ∀ k, i ≤ k → s1.getD k 0 = s.getD k 0
  vv : val B64 (s.take i) + (bo + cr) * B64 ^ i = val B64 (s1.take i) + q * val B64 (vl.take i)
  hq : val B64 s / val B64 vl ≤ q
  hq2 : q * val B64 vl < val B64 s + val B64 vl
  hqB : q < B64
structure G4 (w : World) (b : Nat) (U u v : Slc) (pre s2 post vl : List Nat) (w' : World) (i : Nat) (cr : Nat) (s3 : List Nat) : Prop where
  bar : Bk1 b w w'
  win : Win w' b U u pre s3 post
  hi : i ≤ vl.length
  hcr : cr ≤ 1
  len : s3.length = s2.length
  okk : ok B64 s3
  rest : ∀ k, i ≤ k → s3.getD k 0 = s2.getD k 0
  vv : val B64 (s3.take i) + cr * B64 ^ i = val B64 (s2.take i) + val B64 (vl.take i)

def GJ0 (w : World) (u v : Slc) (s vl : List Nat) (t0 t1 : Slc) (t5 t6 t7 : Int) (t8 : Bool) (w' : World) : Prop :=
  t0 = u ∧ t1 = v ∧ t5 = (vl.length : Int) ∧ Ahead w w' ∧ ∃ q r : Nat, t6 = (q : Int) ∧ q < B64 ∧ val B64 s / val B64 vl ≤ q ∧ q * vl.getD (vl.length - 1) 0 + r = s.getD (vl.length - 1) 0 + B64 * s.getD vl.length 0 ∧ ((t8 = false ∧ t7 = (r : Int) ∧ r < B64) ∨ (t8 = true ∧ B64 ≤ r))
def GJ2 (w : World) (b : Nat) (U u v : Slc) (pre s post vl : List Nat) (t0 t1 : Slc) (t5 t6 t13 t14 : Int) (t113 : Slc) (t114 t115 : Int) (w' : World) : Prop :=
  t0 = u ∧ t1 = v ∧ t5 = (vl.length : Int) ∧ t113 = v ∧ t114 = (vl.length : Int) ∧ ∃ (q i cr bo : Nat) (s1 : List Nat), t6 = (q : Int) ∧ t13 = (cr : Int) ∧ t14 = (bo : Int) ∧ t115 = (i : Int) ∧ G2 w b U u v pre s post vl q w' i cr bo s1
def GJ4 (w : World) (b : Nat) (U u v : Slc) (pre s post vl : List Nat) (t0 : Slc) (t5 t6 t21 : Int) (t166 : Slc) (t167 t168 : Int) (w' : World) : Prop :=
  t0 = u ∧ t5 = (vl.length : Int) ∧ t6 = ((val B64 s / val B64 vl : Nat) : Int) ∧ t166 = v ∧ t167 = (vl.length : Int) ∧ ∃ (i cr : Nat) (s2 s3 : List Nat), t21 = (cr : Int) ∧ t168 = (i : Int) ∧ s2.length = s.length ∧ val B64 s2 + val B64 vl = val B64 s % val B64 vl + B64 ^ (vl.length + 1) ∧ ok B64 s2 ∧ G4 w b U u v pre s2 post vl w' i cr s3

set_option maxHeartbeats 4000000 in
theorem guess_spec {w : World} {b : Nat} {U u v : Slc} {pre s post vl : List Nat} (hW : Win w b U u pre s post) (hv : Rd .u64 w v (nn vl)) (ho : Off b v) (n2 : 2 ≤ vl.length) (hn : s.length = vl.length + 1) (hl : vl.length ≤ 2 ^ 45)
    (os : ok B64 s) (ov : ok B64 vl) (htop : 0 < vl.getD (vl.length - 1) 0) (hlt : val B64 s < val B64 vl * B64) :
    Calls pr div_guess_id #[u.v, v.v] w fun e w' => e = .returned (.int .u64 ((val B64 s / val B64 vl : Nat) : Int)) ∧ Bk1 b w w' ∧ ∃ s', Win w' b U u pre s' post ∧ s'.length = s.length ∧ ok B64 s' ∧ val B64 s' = val B64 s % val B64 vl := by
  have hB := B64v
  have hun := hW.n
  have hvn : v.n = vl.length := by rw [hv.n, nn_length]
  obtain ⟨m, hm⟩ : ∃ m, vl.length = m + 2 := ⟨vl.length - 2, by omega⟩
  have hs3 : s.length = m + 3 := by omega
  have ts := top3 (B := B64) hs3
  have tv := top2 (B := B64) hm
  have hx : val B64 (s.take m) < B64 ^ m := by
    have := val_lt (ok_take os m); rwa [show (s.take m).length = m by simp; omega] at this
  have hy : val B64 (vl.take m) < B64 ^ m := by
    have := val_lt (ok_take ov m); rwa [show (vl.take m).length = m by simp; omega] at this
  have hu0 := ok_getD os (by omega) (m + 2)
  have hu1 := ok_getD os (by omega) (m + 1)
  have hu2 := ok_getD os (by omega) m
  have hv1 := ok_getD ov (by omega) (m + 1)
  have hv2 := ok_getD ov (by omega) m
  have hm1 : vl.length - 1 = m + 1 := by omega
  rw [hm1] at htop
  have hVpos : 0 < val B64 vl := by
    rw [tv]
    have h1 : 0 < B64 ^ m * (vl.getD m 0 + B64 * vl.getD (m + 1) 0) := Nat.mul_pos (Nat.pow_pos (by omega)) (by
      have := Nat.mul_le_mul_left B64 htop; omega)
    omega
  have hQlt : val B64 s / val B64 vl < B64 := div_lt_of (by rw [Nat.mul_comm]; exact hlt) hVpos
  have hQmul : val B64 s / val B64 vl * val B64 vl ≤ val B64 s := Nat.div_mul_le_self _ _
  have hinit := est_init (Q := val B64 s / val B64 vl) (B := B64) (y := val B64 (vl.take m)) hx hu2 (by rw [← ts, ← tv]; exact hQmul)
  have htle := top_le (B := B64) (x := val B64 (s.take m)) hy hv2 (by rw [← ts, ← tv]; exact hlt)
  -- the state of the estimate
  refine div_guess_vc u v w _
    (GJ0 w u v s vl) (fun _ _ _ t6 _ _ _ => t6.toNat) (GJ2 w b U u v pre s post vl) (fun _ _ _ _ _ _ _ _ t115 _ => ((vl.length : Int) - t115).toNat)
    (GJ4 w b U u v pre s post vl) (fun _ _ _ _ _ _ t168 _ => ((vl.length : Int) - t168).toNat) ?_ ?_ ?_ ?_
  · -- the first estimate
    have e1 : IntKind.i64.wrap ((v.n : Int) - 1) = ((m + 1 : Nat) : Int) := by rw [hvn, hm, wrap_i64 (by omega) (by omega)]; omega
    have e0 : ((v.n : Nat) : Int) = ((m + 2 : Nat) : Int) := by rw [hvn, hm]
    rw [e1, e0]
    refine ldNf hW.rd (by omega) (by omega) (ldNf hv (by omega) (by omega) ?_)
    repeat rw [Int.toNat_natCast]
    intro w1 h1
    have h1d := h1.trans (Ahead.drew w1)
    refine br_intro (fun hge => ?_) (fun hl0 => ?_)
    · have hge' := of_decide_eq_true hge
      have heq : s.getD (m + 2) 0 = vl.getD (m + 1) 0 := by omega
      refine ldNf (hW.ahead h1d).rd (by omega) (by omega) (ldNf (hv.ahead h1d) (by omega) (by omega) ?_)
      repeat rw [Int.toNat_natCast]
      refine add64 (c := 0) (by omega) ?_
      refine ⟨Ahead.refl _, rfl, rfl, by rw [hm], h1d, B64 - 1, s.getD (m + 1) 0 + vl.getD (m + 1) 0, by rw [hB]; rfl, by omega, by omega, ?_, ?_⟩
      · rw [hm1, hm, heq]
        have : (B64 - 1) * vl.getD (m + 1) 0 + vl.getD (m + 1) 0 = B64 * vl.getD (m + 1) 0 := by
          conv => rhs; rw [show B64 = (B64 - 1) + 1 by omega, Nat.add_mul, Nat.one_mul]
        omega
      · rw [Nat.add_zero]
        rcases Nat.lt_or_ge (s.getD (m + 1) 0 + vl.getD (m + 1) 0) B64 with h | h
        · left
          rw [Nat.div_eq_of_lt h, Nat.mod_eq_of_lt h]
          exact ⟨rfl, rfl, h⟩
        · right
          have : (s.getD (m + 1) 0 + vl.getD (m + 1) 0) / B64 = 1 := by
            have h2 : (s.getD (m + 1) 0 + vl.getD (m + 1) 0) / B64 < 2 := (Nat.div_lt_iff_lt_mul (by omega)).2 (by omega)
            have h3 : 1 ≤ (s.getD (m + 1) 0 + vl.getD (m + 1) 0) / B64 := (Nat.le_div_iff_mul_le (by omega)).2 (by omega)
            omega
          rw [this]
          exact ⟨rfl, h⟩
    · have hl0' := of_decide_eq_false hl0
      have hlt0 : s.getD (m + 2) 0 < vl.getD (m + 1) 0 := by omega
      refine ldNf (hW.ahead h1d).rd (by omega) (by omega) (ldNf (hW.ahead h1d).rd (by omega) (by omega) (ldNf (hv.ahead h1d) (by omega) (by omega) ?_))
      repeat rw [Int.toNat_natCast]
      refine Calls.mono (Div64_spec hlt0 hu1 hv1) ?_
      rintro e w2 ⟨h2, rfl⟩
      have eT : s.getD (m + 2) 0 * B64 + s.getD (m + 1) 0 = s.getD (m + 1) 0 + B64 * s.getD (m + 2) 0 := by rw [Nat.mul_comm]; omega
      rw [eT]
      have hq : (s.getD (m + 1) 0 + B64 * s.getD (m + 2) 0) / vl.getD (m + 1) 0 < B64 := div_lt_of (by
        have := Nat.mul_le_mul_left B64 hlt0
        rw [Nat.mul_succ] at this
        omega) htop
      refine ⟨_, _, rfl, h2, rfl, rfl, by rw [hm], h1d.trans h2, _, _, rfl, hq, ?_, ?_, .inl ⟨rfl, rfl, ?_⟩⟩
      · exact (Nat.le_div_iff_mul_le htop).2 hinit
      · rw [hm1, hm]
        have := Nat.div_add_mod (s.getD (m + 1) 0 + B64 * s.getD (m + 2) 0) (vl.getD (m + 1) 0)
        rw [Nat.mul_comm] at this
        exact this
      · exact Nat.lt_trans (Nat.mod_lt _ htop) hv1
  · -- the estimate is put right
    rintro t0 t1 t5 t6 t7 t8 w1 ⟨rfl, rfl, rfl, h1, q, r, rfl, hqB, hqQ, hqr, hsure⟩
    rw [hm1, hm] at hqr
    have start : ∀ w2, Ahead w w2 → ∀ q' r' : Nat, q' < B64 → val B64 s / val B64 vl ≤ q' → q' * vl.getD (m + 1) 0 + r' = s.getD (m + 1) 0 + B64 * s.getD (m + 2) 0 → q' * vl.getD m 0 ≤ B64 * r' + s.getD m 0 →
        GJ2 w b U t0 t1 pre s post vl t0 t1 (vl.length : Int) (q' : Int) 0 0 t1 (t1.n : Int) 0 w2 := by
      intro w2 h2 q' r' hb hQ he ht
      refine ⟨rfl, rfl, rfl, rfl, by rw [hvn], q', 0, 0, 0, s, rfl, rfl, rfl, rfl, Bar.of_ahead h2, hW.ahead h2, Nat.zero_le _, by omega, by omega, rfl, os, fun _ _ => rfl, by simp [val], hQ, ?_, hb⟩
      rw [ts, tv]
      exact est_end hy he hb htop ht
    have e2 : IntKind.i64.wrap ((vl.length : Int) - 2) = ((m : Nat) : Int) := by rw [hm, wrap_i64 (by omega) (by omega)]; omega
    have e1 : IntKind.i64.wrap ((vl.length : Int) - 1) = ((m + 1 : Nat) : Int) := by rw [hm, wrap_i64 (by omega) (by omega)]; omega
    rw [e1, e2]
    have hv1' := hv.ahead h1
    have hW1 := hW.ahead h1
    rcases hsure with ⟨rfl, rfl, hrB⟩ | ⟨rfl, hrB⟩
    · refine br_true rfl (ldN hv1' (by omega) (by omega) ?_)
      repeat rw [Int.toNat_natCast]
      refine Calls.mono (Tryz.bits_Mul64 _ _ (by omega) (by omega) _) ?_
      rintro e w4 ⟨rfl, rfl⟩
      refine ⟨_, _, rfl, ?_⟩
      rw [← B64v]
      have hdm : q * vl.getD m 0 = B64 * (q * vl.getD m 0 / B64) + q * vl.getD m 0 % B64 := (Nat.div_add_mod _ _).symm
      have hlo : q * vl.getD m 0 % B64 < B64 := Nat.mod_lt _ (by omega)
      -- one down
      have down : B64 * r + s.getD m 0 < q * vl.getD m 0 → ∀ w5, w5 = w4 → semA pr (Instr.indexAt 23 t1.v (.int .i64 ((m + 1 : Nat) : Int))) w5 fun ad w25 => ldI .u64 ad w25 fun x27 =>
          Sem.wp pr (callFunc bits_Add64_id #[.int .u64 (r : Int), .int .u64 x27, .int .u64 0]) (fun n6 w26 => ∃ x28 : Int, ∃ x29 : Int, n6 = .value (.tuple #[.int .u64 x28, .int .u64 x29]) ∧
            (br (x29 != 0)
             (GJ2 w b U t0 t1 pre s post vl t0 t1 (vl.length : Int) (IntKind.u64.wrap ((q : Int) - 1)) 0 0 t1 (t1.n : Int) 0 w26)
             (GJ0 w t0 t1 s vl t0 t1 (vl.length : Int) (IntKind.u64.wrap ((q : Int) - 1)) x28 false w26 ∧ (IntKind.u64.wrap ((q : Int) - 1)).toNat < q))) (fun _ _ => False) w25 := by
        rintro hgt w5 rfl
        refine ldN hv1' (by omega) (by omega) ?_
        repeat rw [Int.toNat_natCast]
        refine add64 (c := 0) (by omega) ?_
        have hbig : val B64 s < q * val B64 vl := by rw [ts, tv]; exact est_step hx hqr hgt
        have hQq := div_lt_of hbig hVpos
        have hq1 : 1 ≤ q := Nat.lt_of_le_of_lt (Nat.zero_le _) hQq
        have ew : IntKind.u64.wrap ((q : Int) - 1) = ((q - 1 : Nat) : Int) := by rw [wrap_u64' (by omega) (by omega)]; omega
        have he' : (q - 1) * vl.getD (m + 1) 0 + (r + vl.getD (m + 1) 0) = s.getD (m + 1) 0 + B64 * s.getD (m + 2) 0 := by
          rw [← hqr]
          conv => rhs; rw [show q = (q - 1) + 1 by omega, Nat.add_mul, Nat.one_mul]
          omega
        rw [ew, Nat.add_zero]
        rcases Nat.lt_or_ge (r + vl.getD (m + 1) 0) B64 with h | h
        · rw [Nat.div_eq_of_lt h, Nat.mod_eq_of_lt h]
          exact br_false rfl ⟨⟨rfl, rfl, rfl, h1, q - 1, _, rfl, by omega, by omega, by rw [hm1, hm]; exact he', .inl ⟨rfl, rfl, h⟩⟩, by omega⟩
        · have h3 : 1 ≤ (r + vl.getD (m + 1) 0) / B64 := (Nat.le_div_iff_mul_le (by omega)).2 (by omega)
          refine br_true (by generalize (r + vl.getD (m + 1) 0) / B64 = c at h3; simp; omega) (start w5 h1 (q - 1) _ (by omega) (by omega) he' ?_)
          have h4 : (q - 1) * vl.getD m 0 ≤ B64 * vl.getD m 0 := Nat.mul_le_mul_right _ (by omega)
          have h5 : B64 * vl.getD m 0 ≤ B64 * (r + vl.getD (m + 1) 0) := Nat.mul_le_mul_left _ (by omega)
          omega
      refine br_intro (fun q1 => start _ h1 q r hqB hqQ hqr (test_lt hdm hlo (by have := of_decide_eq_true q1; omega))) (fun q1 => br_intro (fun q2 => ?_) (fun q2 => ?_))
      · have q2' : q * vl.getD m 0 / B64 = r := by have := eq_of_beq q2; omega
        refine ldN hW1.rd (by omega) (by omega) ?_
        repeat rw [Int.toNat_natCast]
        rw [q2'] at hdm
        refine br_intro (fun q3 => start _ h1 q r hqB hqQ hqr (by have := of_decide_eq_true q3; omega)) (fun q3 => down (by have := of_decide_eq_false q3; omega) _ rfl)
      · have q1' := of_decide_eq_false q1
        have q2' : ¬ q * vl.getD m 0 / B64 = r := fun h => by rw [h] at q2; simp at q2
        exact down (test_gt hdm hu2 (by omega)) _ rfl
    · refine br_false rfl (start _ h1 q r hqB hqQ hqr ?_)
      have h4 : q * vl.getD m 0 ≤ B64 * vl.getD m 0 := Nat.mul_le_mul_right _ (by omega)
      have h5 : B64 * vl.getD m 0 ≤ B64 * r := Nat.mul_le_mul_left _ (by omega)
      omega
  · -- q v is taken off
    rintro t0 t1 t5 t6 t13 t14 t113 t114 t115 w1 ⟨rfl, rfl, rfl, rfl, rfl, q, i, cr, bo, s1, rfl, rfl, rfl, rfl, G⟩
    have hx1 := ok_getD G.okk (by omega) i
    have hy1 := ok_getD ov (by omega) i
    refine br_intro (fun hlt2 => ?_) (fun hge => ?_)
    · have hi' : i < vl.length := by have := of_decide_eq_true hlt2; omega
      refine ldN (G.bar.rd hv ho) (by omega) (by omega) ?_
      repeat rw [Int.toNat_natCast]
      have := G.hqB
      refine Calls.mono (Tryz.bits_Mul64 _ _ (by omega) (by omega) _) ?_
      rintro e w4 ⟨rfl, rfl⟩
      refine ⟨_, _, rfl, ?_⟩
      rw [← B64v]
      refine add64 (c := 0) (by omega) ?_
      refine ldN G.win.rd (by omega) (by rw [G.len]; omega) ?_
      repeat rw [Int.toNat_natCast]
      refine sub64 G.hbo ?_
      refine G.win.st (by omega) (by rw [G.len]; omega) ?_
      intro w9 W9 on9
      rw [Int.toNat_natCast] at W9
      have hcr := G.hcr
      have hbo := G.hbo
      have hlen := G.len
      -- the numbers of this round
      obtain ⟨sm, c2, hh, k1, k2, k3, k4⟩ : ∃ sm c2 hh : Nat, sm = (vl.getD i 0 * q % B64 + cr + 0) % B64 ∧ c2 = (vl.getD i 0 * q % B64 + cr + 0) / B64 ∧ hh = vl.getD i 0 * q / B64 ∧ vl.getD i 0 * q + cr = sm + B64 * (hh + c2) := by
        refine ⟨_, _, _, rfl, rfl, rfl, ?_⟩
        have d1 := Nat.div_add_mod (vl.getD i 0 * q) B64
        have d2 := Nat.div_add_mod (vl.getD i 0 * q % B64 + cr + 0) B64
        rw [Nat.mul_add]; omega
      rw [← k1] at W9 ⊢
      rw [← k2, ← k3]
      have hsm : sm < B64 := by rw [k1]; exact Nat.mod_lt _ (by omega)
      have hhc : hh + c2 < B64 := by
        have h2 : vl.getD i 0 * q ≤ (B64 - 1) * (B64 - 1) := Nat.mul_le_mul (by omega) (by omega)
        have h3 : (B64 - 1) * (B64 - 1) + (B64 - 1) < B64 * B64 := by rw [hB]; omega
        have h4 : B64 * (hh + c2) < B64 * B64 := by omega
        exact lt_of_mul h4
      have ew : IntKind.u64.wrap ((hh : Int) + (c2 : Int)) = ((hh + c2 : Nat) : Int) := by rw [wrap_u64' (by omega) (by omega)]; omega
      have e8 : IntKind.i64.wrap ((i : Int) + 1) = ((i + 1 : Nat) : Int) := by rw [wrap_i64 (by omega) (by omega)]; omega
      rw [ew, e8]
      have hsub : s1.getD i 0 + B64 * (if s1.getD i 0 < sm + bo then 1 else 0) = (s1.getD i 0 + B64 - sm - bo) % B64 + sm + bo := by
        split
        · rw [Nat.mod_eq_of_lt (by omega)]; omega
        · have : s1.getD i 0 + B64 - sm - bo = (s1.getD i 0 - sm - bo) + B64 := by omega
          rw [this, Nat.add_mod_right, Nat.mod_eq_of_lt (by omega)]; omega
      refine ⟨⟨rfl, rfl, rfl, rfl, rfl, q, i + 1, hh + c2, _, _, rfl, rfl, rfl, rfl, G.bar.trans (Bk1.of_only on9), W9, hi', hhc, by split <;> omega, by simpa using G.len, ok_set G.okk (Nat.mod_lt _ (by omega)), fun k hk => ?_, ?_, G.hq, G.hq2, G.hqB⟩, by omega⟩
      · rw [getD_set _ _ _ _ (by omega), if_neg (by omega)]
        exact G.rest k (by omega)
      · rw [val_take_set _ _ _ (by omega), val_take_succ', val_take_succ', ← G.rest i (Nat.le_refl _), Nat.pow_succ, Nat.mul_add q]
        have := off_step (P := B64 ^ i) (W := q * val B64 (vl.take i)) k4 hsub G.vv
        rw [this]
        congr 1
        congr 1
        ac_rfl
    · have hi' : i = vl.length := by have := of_decide_eq_false hge; have := G.hi; omega
      subst hi'
      have hlen := G.len
      refine ldN G.win.rd (by omega) (by rw [G.len]; omega) ?_
      repeat rw [Int.toNat_natCast]
      have hcr := G.hcr
      have hbo := G.hbo
      refine sub64 G.hbo ?_
      refine G.win.st (by omega) (by rw [G.len]; omega) ?_
      intro w9 W9 on9
      rw [Int.toNat_natCast] at W9
      have bar9 := G.bar.trans (Bk1.of_only on9)
      have hlast := ok_getD G.okk (by omega) vl.length
      obtain ⟨un, bf, k1, k2⟩ : ∃ un bf : Nat, un = (s1.getD vl.length 0 + B64 - cr - bo) % B64 ∧ bf = (if s1.getD vl.length 0 < cr + bo then 1 else 0) := ⟨_, _, rfl, rfl⟩
      rw [← k1] at W9
      rw [← k2]
      have hsub : s1.getD vl.length 0 + B64 * bf = un + cr + bo := by
        rw [k1, k2]
        split
        · rw [Nat.mod_eq_of_lt (by omega)]; omega
        · have : s1.getD vl.length 0 + B64 - cr - bo = (s1.getD vl.length 0 - cr - bo) + B64 := by omega
          rw [this, Nat.add_mod_right, Nat.mod_eq_of_lt (by omega)]; omega
      have hbf : bf = 0 ∨ bf = 1 := by rw [k2]; split <;> simp
      have hun2 : un < B64 := by rw [k1]; exact Nat.mod_lt _ (by omega)
      have hval : val B64 s + bf * B64 ^ (m + 3) = val B64 (s1.set vl.length un) + q * val B64 vl := by
        have g := G.vv
        rw [List.take_of_length_le (Nat.le_refl vl.length)] at g
        have t1 := top1 (B := B64) (m := vl.length) hn
        have t2 := top1 (B := B64) (m := vl.length) (s := s1.set vl.length un) (by simp; omega)
        rw [take_set_self, getD_set _ _ _ _ (by omega), if_pos rfl] at t2
        rw [t1, t2, ← G.rest _ (Nat.le_refl _), show m + 3 = vl.length + 1 by omega, Nat.pow_succ]
        have e1 : B64 ^ vl.length * (s1.getD vl.length 0 + B64 * bf) = B64 ^ vl.length * (un + cr + bo) := by rw [hsub]
        rw [Nat.mul_add, Nat.mul_add, Nat.mul_add] at e1
        have e2 : bf * (B64 ^ vl.length * B64) = B64 ^ vl.length * (B64 * bf) := by ac_rfl
        rw [Nat.add_mul, Nat.mul_comm bo, Nat.mul_comm cr] at g
        omega
      have oks : ok B64 (s1.set vl.length un) := ok_set G.okk hun2
      have hlt2 : val B64 (s1.set vl.length un) < B64 ^ (m + 3) := by
        have := val_lt oks; rwa [show (s1.set vl.length un).length = m + 3 by simp; omega] at this
      rcases hbf with h0 | h0
      · rw [h0, Nat.zero_mul, Nat.add_zero] at hval
        obtain ⟨r1, r2⟩ := off0 hval G.hq hVpos
        rw [h0]
        exact br_false rfl ⟨by rw [r1], bar9, _, W9, by simpa using G.len, oks, r2⟩
      · rw [h0, Nat.one_mul] at hval
        obtain ⟨r0, r1, r2⟩ := off1 hval hlt2 G.hq2 hVpos
        rw [h0]
        have hqB := G.hqB
        have ew : IntKind.u64.wrap ((q : Int) - 1) = ((val B64 s / val B64 vl : Nat) : Int) := by rw [wrap_u64' (by omega) (by omega), ← r1]; omega
        refine br_true rfl ⟨rfl, rfl, ew, rfl, by rw [hvn], 0, 0, _, _, rfl, rfl, by simpa using G.len, by rw [show vl.length + 1 = m + 3 by omega]; exact r2, oks, bar9, W9, Nat.zero_le _, by omega, rfl, oks, fun _ _ => rfl, by simp [val]⟩
  · -- v is added back
    rintro t0 t5 t6 t21 t166 t167 t168 w1 ⟨rfl, rfl, rfl, rfl, rfl, i, cr, s2, s3, rfl, rfl, hl2, hv2', ok2, G⟩
    have hx1 := ok_getD G.okk (by omega) i
    have hy1 := ok_getD ov (by omega) i
    have hcr := G.hcr
    have hlen := G.len
    refine br_intro (fun hlt2 => ?_) (fun hge => ?_)
    · have hi' : i < vl.length := by have := of_decide_eq_true hlt2; omega
      refine ldN (G.bar.rd hv ho) (by omega) (by omega) ?_
      repeat rw [Int.toNat_natCast]
      refine ldN G.win.rd (by omega) (by omega) ?_
      repeat rw [Int.toNat_natCast]
      refine add64 hcr ?_
      refine G.win.st (by omega) (by omega) ?_
      intro w9 W9 on9
      rw [Int.toNat_natCast] at W9
      have e8 : IntKind.i64.wrap ((i : Int) + 1) = ((i + 1 : Nat) : Int) := by rw [wrap_i64 (by omega) (by omega)]; omega
      rw [e8]
      have hq1 : (s3.getD i 0 + vl.getD i 0 + cr) / B64 ≤ 1 := by
        have : (s3.getD i 0 + vl.getD i 0 + cr) / B64 < 2 := (Nat.div_lt_iff_lt_mul (by omega)).2 (by omega)
        omega
      refine ⟨⟨rfl, rfl, rfl, rfl, rfl, i + 1, _, s2, _, rfl, rfl, hl2, hv2', ok2, G.bar.trans (Bk1.of_only on9), W9, hi', hq1, by simpa using G.len, ok_set G.okk (Nat.mod_lt _ (by omega)), fun k hk => ?_, ?_⟩, by omega⟩
      · rw [getD_set _ _ _ _ (by omega), if_neg (by omega)]
        exact G.rest k (by omega)
      · rw [val_take_set _ _ _ (by omega), val_take_succ', val_take_succ', ← G.rest i (Nat.le_refl _), Nat.pow_succ]
        have d := Nat.mod_add_div (s3.getD i 0 + vl.getD i 0 + cr) B64
        exact add_step d G.vv
    · have hi' : i = vl.length := by have := of_decide_eq_false hge; have := G.hi; omega
      subst hi'
      refine ldN G.win.rd (by omega) (by omega) ?_
      repeat rw [Int.toNat_natCast]
      have hX := ok_getD G.okk (by omega) vl.length
      have hXc : IntKind.u64.wrap (((s3.getD vl.length 0 : Nat) : Int) + (cr : Int)) = (((s3.getD vl.length 0 + cr) % B64 : Nat) : Int) := by
        rw [wrap_u64, hB]; omega
      rw [hXc]
      refine G.win.st (by omega) (by omega) ?_
      intro w9 W9 on9
      rw [Int.toNat_natCast] at W9
      have g := G.vv
      rw [List.take_of_length_le (Nat.le_refl vl.length)] at g
      have t1 := top1 (B := B64) (m := vl.length) (s := s2) (by omega)
      have hr : val B64 s % val B64 vl < B64 ^ vl.length := Nat.lt_trans (Nat.mod_lt _ hVpos) (val_lt ov)
      have hx3 : val B64 (s3.take vl.length) < B64 ^ vl.length := by
        have := val_lt (ok_take G.okk vl.length); rwa [show (s3.take vl.length).length = vl.length by simp; omega] at this
      have key : val B64 (s3.take vl.length) + B64 ^ vl.length * (s3.getD vl.length 0 + cr) = val B64 s % val B64 vl + B64 ^ vl.length * B64 := by
        rw [Nat.pow_succ] at hv2'
        rw [G.rest _ (Nat.le_refl _), Nat.mul_add, Nat.mul_comm _ cr]
        omega
      obtain ⟨l1, l2⟩ := last_limb hx3 hr (by omega) key
      refine ⟨rfl, G.bar.trans (Bk1.of_only on9), _, W9, by rw [List.length_set, G.len, hl2], ok_set G.okk (Nat.mod_lt _ (by omega)), ?_⟩
      have t2 := top1 (B := B64) (m := vl.length) (s := s3.set vl.length ((s3.getD vl.length 0 + cr) % B64)) (by simp; omega)
      rw [take_set_self, getD_set _ _ _ _ (by omega), if_pos rfl, l1, Nat.mod_self, Nat.mul_zero, Nat.add_zero] at t2
      rw [← l2, ← t2, l1, Nat.mod_self]
end Dq
end Go.Proofs.YtbeiopoejdkheaaGreatDoor
namespace Go.Proofs.YtbeiopoejdkheaaGreatDoor
open Go Go.RowKit Eng Sp Dg Kd
set_option linter.unusedVariables false
set_option linter.unusedSimpArgs false
set_option maxRecDepth 100000
namespace Dq
open _root_.Go.Proofs.YtbeiopoejdkheaaGreatDoor.Nat (ldN ldNf stF stFf mkF mkN Fill Fill.rd Fill.base Fill.src OwnNil OwnNil.rd OwnNil.ahead OwnNil.mono OwnNil.nil Num Num.bl Compare_spec Norm_spec From_spec Length_spec semShl semShr fixShl orI_nat Div64_spec bigC bigC_ok digs_len_bl cutHi)
open _root_.Go.Proofs.YtbeiopoejdkheaaGreatDoor.Mul (Only Off)

/-- One digit of what is shifted to the right. -/
theorem rdig {A : List Nat} (oA : ok B64 A) {m s i : Nat} (hs : s < 64) :
    val B64 A / (B64 ^ m * 2 ^ s) / B64 ^ i % B64 = A.getD (m + i) 0 / 2 ^ s + 2 ^ (64 - s) * (A.getD (m + i + 1) 0 % 2 ^ s) := by
  have hB := B64v
  have h64 : B64 = 2 ^ 64 := rfl
  rw [digit (by omega : 0 < B64) A oA (m + i), digit (by omega : 0 < B64) A oA (m + i + 1)]
  rw [h64, div_pow_add, right_digit _ _ _ _ hs]
  congr 2
  generalize val (2 ^ 64) A / (2 ^ 64) ^ (m + i + 1) = U
  rw [show 2 ^ 64 = 2 ^ s * 2 ^ (64 - s) by rw [← Nat.pow_add]; congr 1; omega, Nat.mod_mul_right_mod]
/-- Its upper part, as the code reckons it. -/
theorem rhigh {x s : Nat} (hs : s < 64) : x * 2 % B64 * 2 ^ (63 - s) % B64 = 2 ^ (64 - s) * (x % 2 ^ s) := by
  have h64 : B64 = 2 ^ 64 := rfl
  have h1 := shl_lo x (64 - s) 64 (by omega)
  rw [show 64 - (64 - s) = s by omega] at h1
  rw [h64, ← h1, Nat.mul_mod, Nat.mod_mod, ← Nat.mul_mod, Nat.mul_assoc, ← Nat.pow_succ', show (63 - s).succ = 64 - s by omega]
theorem rlow {x s : Nat} (hx : x < B64) (hs : s < 64) : x / 2 ^ s < 2 ^ (64 - s) := by
  rw [Nat.div_lt_iff_lt_mul (Nat.pow_pos (by omega)), ← Nat.pow_add, show 64 - s + s = 64 by omega]
  exact hx

theorem up_spec {w : World} {a : Slc} {A : List Nat} {s : Nat} (ra : Rd .u64 w a (nn A)) (na : A.length ≤ 2 ^ 44) (oA : ok B64 A) (hs : s < 64) :
    Calls pr div_up_id #[a.v, .int .u64 (s : Int)] w fun e w' => ∃ c l, e = .returned (Slc.v c) ∧ Fill w w' c l (fun _ => True) ∧ l.length = A.length + 1 ∧ ok B64 l ∧ val B64 l = val B64 A * 2 ^ s := by
  have hB := B64v
  have h64 : B64 = 2 ^ 64 := rfl
  have hna : a.n = A.length := by rw [ra.n, nn_length]
  refine div_up_vc a (s : Int) w _ (fun t1 t5 t12 t13 t14 w' => t1 = (s : Int) ∧ t12 = a ∧ t13 = (A.length : Int) ∧ ∃ (l : List Nat) (j : Nat), t14 = (j : Int) ∧ j ≤ A.length ∧
    Fill w w' t5 l (fun w' => Rd .u64 w' a (nn A)) ∧ l.length = A.length + 1 ∧ ok B64 l ∧ val B64 l = val B64 (A.take j) * (B64 ^ 0 * 2 ^ s)) (fun _ _ _ n i _ => (n - i).toNat) ?_ ?_
  · rw [hna, wrap_i64 (by omega) (by omega)]
    refine mkF (w0 := w) (S := fun w' => Rd .u64 w' a (nn A)) (by omega) (by omega) (Ahead.refl _) ra ?_
    intro c w3 hcn hf ha
    refine ⟨rfl, rfl, rfl, _, 0, rfl, Nat.zero_le _, hf, by rw [List.length_replicate]; omega, ok_replicate (by omega) _, ?_⟩
    rw [val_replicate]; simp [val]
  · rintro t1 c t12 t13 t14 w' ⟨rfl, rfl, rfl, l, j, rfl, hj, hf, hl, ol, hv⟩
    have hS := hf.src (fun _ h hs => Rd.ahead hs h)
    refine br_intro (fun hlt => ?_) (fun hge => ?_)
    · have hj' : j < A.length := by have := of_decide_eq_true hlt; omega
      have hfacts := left_facts (w := 64) (l := l) (A := A) (j := j) (wd := 0) (s := s) hs (by omega) oA hj' hv
      have stp := fun lo hi => left_step (w := 64) (l := l) (A := A) (j := j) (wd := 0) (s := s) (lo := lo) (hi := hi) hs (by omega) oA hj' hv
      simp only [Nat.zero_add] at hfacts stp
      refine ldN hS (by omega) (by omega) ?_
      refine ldN hf.rd (by omega) (by omega) ?_
      refine semShl (by omega) ?_
      have hx := ok_getD oA (by omega : 0 < B64) j
      have hlk := ok_getD ol (by omega : 0 < B64) j
      repeat rw [Int.toNat_natCast]
      rw [orI_nat hlk (Nat.mod_lt _ (by omega))]
      refine stF hf (by omega) (by omega) ?_
      intro w7 hf7
      rw [Int.toNat_natCast] at hf7
      have e8 : IntKind.i64.wrap ((j : Int) + 1) = ((j + 1 : Nat) : Int) := by rw [wrap_i64 (by omega) (by omega)]; omega
      have hlo : l.getD j 0 ||| A.getD j 0 * 2 ^ s % B64 = l.getD j 0 + A.getD j 0 * 2 ^ s % 2 ^ 64 := by
        have h2 := shl_lo (A.getD j 0) s 64 (by omega)
        have h2' : A.getD j 0 * 2 ^ s % B64 = _ := h2
        rw [h2', h2, or_add hfacts.1]
      have hlolt : l.getD j 0 ||| A.getD j 0 * 2 ^ s % B64 < B64 := Nat.or_lt_two_pow (n := 64) hlk (Nat.mod_lt _ (by omega))
      have hhi : A.getD j 0 * 2 ^ s / 2 ^ 64 < B64 := by
        rw [shl_hi _ _ _ (by omega)]
        exact Nat.lt_of_le_of_lt (Nat.div_le_self _ _) hx
      have e3 : Int.fdiv (A.getD j 0 : Int) (2 ^ (1 : Nat)) = ((A.getD j 0 / 2 : Nat) : Int) := by rw [Int.fdiv_eq_ediv_of_nonneg _ (by decide)]; norm_cast
      have e4 : IntKind.u64.wrap (63 - (s : Int)) = ((63 - s : Nat) : Int) := by rw [wrap_u64' (by omega) (by omega)]; omega
      rw [e3, e4, e8]
      refine semShr (by omega) ?_
      have e6 : A.getD j 0 / 2 / 2 ^ (63 - s) = A.getD j 0 * 2 ^ s / 2 ^ 64 := by
        rw [shl_hi _ _ _ (by omega), Nat.div_div_eq_div_mul]
        congr 1
        rw [show 64 - s = 63 - s + 1 by omega, Nat.pow_succ]; omega
      rw [e6]
      refine stF hf7 (by omega) (by simp; omega) ?_
      intro w10 hf10
      rw [Int.toNat_natCast] at hf10
      exact ⟨⟨rfl, rfl, rfl, _, j + 1, rfl, by omega, hf10, by simpa using hl, ok_set (ok_set ol hlolt) hhi, stp _ _ hlo rfl⟩, by omega⟩
    · have hj' : j = A.length := by have := of_decide_eq_false hge; omega
      subst hj'
      rw [List.take_length, Nat.pow_zero, Nat.one_mul] at hv
      obtain ⟨b, w1, q1, q2, q3, q4, q5, q6, _⟩ := hf
      exact ⟨c, l, rfl, ⟨b, w1, q1, q2, q3, q4, q5, q6, trivial⟩, hl, ol, hv⟩

theorem down_spec {w : World} {a : Slc} {A : List Nat} {s : Nat} (ra : Rd .u64 w a (nn A)) (na : A.length ≤ 2 ^ 44) (oA : ok B64 A) (hs : s < 64) :
    Calls pr div_down_id #[a.v, .int .u64 (s : Int)] w fun e w' => Ahead w w' ∧ ∃ c, e = .returned (Slc.v c) ∧ OwnNil w.heap.size w' c (digs B64 (val B64 A / 2 ^ s)) := by
  have hB := B64v
  have h64 : B64 = 2 ^ 64 := rfl
  have hna : a.n = A.length := by rw [ra.n, nn_length]
  have hN : ∀ i, val B64 A / 2 ^ s / B64 ^ i % B64 = A.getD i 0 / 2 ^ s + 2 ^ (64 - s) * (A.getD (i + 1) 0 % 2 ^ s) := fun i => by
    have := rdig (m := 0) (i := i) oA hs
    rwa [Nat.pow_zero, Nat.one_mul, Nat.zero_add] at this
  refine div_down_vc a (s : Int) w _ (fun t0 t1 t5 t11 t12 t13 w' => t0 = a ∧ t1 = (s : Int) ∧ t11 = a ∧ t12 = (A.length : Int) ∧ ∃ (l : List Nat) (j : Nat), t13 = (j : Int) ∧ j ≤ A.length ∧
    Fill w w' t5 l (fun w' => Rd .u64 w' a (nn A)) ∧ l.length = A.length ∧ ok B64 l ∧ ∀ i, i < j → l.getD i 0 = val B64 A / 2 ^ s / B64 ^ i % B64) (fun _ _ _ _ n i _ => (n - i).toNat) ?_ ?_
  · rw [hna]
    refine mkF (w0 := w) (S := fun w' => Rd .u64 w' a (nn A)) (by omega) (by omega) (Ahead.refl _) ra ?_
    intro c w3 hcn hf ha
    exact ⟨rfl, rfl, rfl, rfl, _, 0, rfl, Nat.zero_le _, hf, by rw [List.length_replicate]; omega, ok_replicate (by omega) _, fun i hi => by omega⟩
  · rintro t0 t1 c t11 t12 t13 w' ⟨h00, rfl, h11, rfl, l, j, rfl, hj, hf, hl, ol, hd⟩
    subst h00; subst h11
    have hS := hf.src (fun _ h hs => Rd.ahead hs h)
    refine br_intro (fun hlt => ?_) (fun hge => ?_)
    · have hj' : j < A.length := by have := of_decide_eq_true hlt; omega
      have hx := ok_getD oA (by omega : 0 < B64) j
      have hN' := hN j
      have e8 : IntKind.i64.wrap ((j : Int) + 1) = ((j + 1 : Nat) : Int) := by rw [wrap_i64 (by omega) (by omega)]; omega
      rw [e8]
      refine ldN hS (by omega) (by omega) ?_
      refine semShr (by omega) ?_
      repeat rw [Int.toNat_natCast]
      have hq : A.getD j 0 / 2 ^ s < B64 := Nat.lt_of_le_of_lt (Nat.div_le_self _ _) hx
      have hvlt : val B64 A / 2 ^ s / B64 ^ j % B64 < B64 := Nat.mod_lt _ (by omega)
      refine stF hf (by omega) (by omega) ?_
      intro w6 hf6
      rw [Int.toNat_natCast] at hf6
      have fin : ∀ {w7 : World}, Fill w w7 c (l.set j (val B64 A / 2 ^ s / B64 ^ j % B64)) (fun w' => Rd .u64 w' t11 (nn A)) →
          (∃ (l : List Nat) (j' : Nat), ((j + 1 : Nat) : Int) = (j' : Int) ∧ j' ≤ A.length ∧ Fill w w7 c l (fun w' => Rd .u64 w' t11 (nn A)) ∧ l.length = A.length ∧ ok B64 l ∧ ∀ i, i < j' → l.getD i 0 = val B64 A / 2 ^ s / B64 ^ i % B64) := by
        intro w7 hf7
        refine ⟨_, j + 1, rfl, by omega, hf7, by simpa using hl, ok_set ol hvlt, fun i hi => ?_⟩
        rw [getD_set _ _ _ _ (by omega)]
        split
        · rename_i h; subst h; rfl
        · exact hd i (by omega)
      refine br_intro (fun hin => ?_) (fun hin => ?_)
      · have hin' : j + 1 < A.length := by have := of_decide_eq_true hin; omega
        have hS6 := hf6.src (fun _ h hs => Rd.ahead hs h)
        refine ldNf hf6.rd (by omega) (by simp; omega) ?_
        refine ldNf hS6 (by omega) (by omega) ?_
        repeat rw [Int.toNat_natCast]
        have hx1 := ok_getD oA (by omega : 0 < B64) (j + 1)
        have ew : IntKind.u64.wrap ((A.getD (j + 1) 0 : Int) * 2 ^ (1 : Nat)) = ((A.getD (j + 1) 0 * 2 % B64 : Nat) : Int) := by rw [wrap_u64, hB]; omega
        have e4 : IntKind.u64.wrap (63 - (s : Int)) = ((63 - s : Nat) : Int) := by rw [wrap_u64' (by omega) (by omega)]; omega
        rw [ew, e4]
        refine fixShl (by omega) ?_
        rw [rhigh hs, getD_set _ _ _ _ (by omega), if_pos rfl, orI_nat hq (by
          have h1 : A.getD (j + 1) 0 % 2 ^ s < 2 ^ s := Nat.mod_lt _ (Nat.pow_pos (by omega))
          have h2 := (Nat.mul_lt_mul_left (a := 2 ^ (64 - s)) (Nat.pow_pos (by omega))).2 h1
          rwa [← Nat.pow_add, show 64 - s + s = 64 by omega] at h2), or_add (rlow hx hs), ← hN']
        refine stFf hf6 (Ahead.drew _) (by omega) (by simp; omega) ?_
        intro w7 hf7
        rw [Int.toNat_natCast, List.set_set] at hf7
        exact ⟨⟨rfl, rfl, rfl, rfl, fin hf7⟩, by omega⟩
      · have hin' : A.length ≤ j + 1 := by have := of_decide_eq_false hin; omega
        rw [getD_ge A 0 hin', Nat.zero_mod, Nat.mul_zero, Nat.add_zero] at hN'
        rw [← hN'] at hf6
        exact ⟨⟨rfl, rfl, rfl, rfl, fin hf6⟩, by omega⟩
    · have hj' : j = A.length := by have := of_decide_eq_false hge; omega
      subst hj'
      have hv : val B64 l = val B64 A / 2 ^ s := by
        refine val_of_digits (by omega) l _ ?_ (fun i hi => hd i (by omega))
        rw [hl]
        exact Nat.lt_of_le_of_lt (Nat.div_le_self _ _) (val_lt oA)
      refine Calls.mono (Norm_spec hf.rd (by omega) ol) ?_
      rw [hv]
      rintro e w3 ⟨h3, s, rfl, os⟩
      exact ⟨_, rfl, hf.base.trans h3, _, rfl, os.mono hf.base.size⟩

/-- A store at an address that was found before. -/
theorem stFa {t : TypeId} {w0 w : World} {s : Slc} {l : List Nat} {S : World → Prop} (h : Fill w0 w s l S) {i : Int} (h0 : 0 ≤ i) (h1 : i < l.length) {x : Nat} {K : World → Prop}
    (hk : ∀ w', Fill w0 w' s (l.set i.toNat x) S → K w')
    (hT : isSl pr t .u64 = some tU64 := by kernel_rfl) : anyA pr (Instr.indexAt t s.v (.int .i64 i)) fun ad => stC ad (.int .u64 (x : Int)) w fun w2 => K w2 := by
  obtain ⟨b, w1, ho, h2, h3, h4, h5, h6, h7⟩ := h
  have hA : s.A = some ⟨b, 0, none⟩ := ho.A
  refine ⟨⟨b, i.toNat, none⟩, fun w' => ?_, ?_⟩
  · rw [run_indexAt hT w' s i ⟨b, 0, none⟩ hA h0 (by rw [ho.n]; simpa using h1), add_off]
  · have hl : i.toNat < l.length := by omega
    refine ⟨⟨_, ho.cell (by simpa using hl)⟩, ho.frozen _, ?_⟩
    refine hk _ ⟨b, w1, ?_, h2, h3, Ahead.setCell h4 h3, Ahead.setCell h5 h6, h6, h7⟩
    have := ho.set (i := i.toNat) (by simpa using hl) (x : Int)
    rw [nn_set] at this
    exact this
theorem ldNa {t : TypeId} {w : World} {s : Slc} {l : List Nat} (h : Rd .u64 w s (nn l)) {i : Int} (h0 : 0 ≤ i) (h1 : i < l.length) {V : Nat → Prop} (hV : ∀ k, ¬ V k) {K : Int → Prop}
    (hk : K ((l.getD i.toNat 0 : Nat) : Int)) (hT : isSl pr t .u64 = some tU64 := by kernel_rfl) : anyA pr (Instr.indexAt t s.v (.int .i64 i)) fun ad => Out V ad (ldI .u64 ad w fun x => K x) := by
  obtain ⟨ad, hA, hc⟩ := h.get i.toNat (by rw [nn_length]; omega)
  refine ⟨ad.add i.toNat, fun w' => run_indexAt hT w' s i ad hA h0 (by rw [h.n, nn_length]; exact h1), hV _, _, hc, ?_⟩
  rw [nn_getD]; exact hk

/-- The long division's state: k limbs of the quotient are still to come. -/
structure LD (w : World) (u v q : Slc) (bu bq : Nat) (U V Q : List Nat) (T k : Nat) : Prop where
  ou : Owr .u64 tU64 w u (nn U) bu
  oq : Owr .u64 tU64 w q (nn Q) bq
  rv : Rd .u64 w v (nn V)
  ne : bu ≠ bq
  offu : Off bu v
  offq : Off bq v
  okU : ok B64 U
  okQ : ok B64 Q
  len : U.length = Q.length + V.length
  hk : k ≤ Q.length
  low : val B64 (U.drop k) < val B64 V
  tot : T = val B64 U + val B64 V * (B64 ^ k * val B64 (Q.drop k))

theorem off_fill {w0 w1 w2 w3 : World} {c d : Slc} {l m : List Nat} {S S' : World → Prop} (h : Fill w0 w1 c l S) (h12 : Ahead w1 w2) (h' : Fill w2 w3 d m S') : ∃ bc bd, Owr .u64 tU64 w3 c (nn l) bc ∧ Owr .u64 tU64 w3 d (nn m) bd ∧ bc ≠ bd ∧ w0.heap.size ≤ bc ∧ w2.heap.size ≤ bd ∧ Off bd c ∧ Off bc d := by
  obtain ⟨bc, x1, q1, q2, q3, q4, _⟩ := h
  obtain ⟨bd, y1, r1, r2, r3, r4, _⟩ := h'
  have := q1.lt
  have := h12.size
  have hne : bc ≠ bd := by omega
  refine ⟨bc, bd, (q1.ahead h12).ahead r4, r1, hne, q3, r3, fun ad e _ => ?_, fun ad e _ => ?_⟩
  · rw [q1.A] at e; obtain rfl := Option.some.inj e; exact hne
  · rw [r1.A] at e; obtain rfl := Option.some.inj e; exact hne.symm

end Dq
end Go.Proofs.YtbeiopoejdkheaaGreatDoor
