/- Verification conditions of some of the program's functions, printed by a program of this session. No condition. -/
import Derived.Test.YtflipimlpgbnmaaProg
import Derived.Test.YtflipimlpgbnmaaEng
namespace Go.Proofs.Ytflipimlpgbnmaa
open Go Go.RowKit Eng
set_option linter.unusedVariables false

def nat_trim_cut (J0 : Slc → World → Prop) (m0 : Slc → World → Nat) : Nat → Option ((Act → World → Prop) × (Act → World → Nat))
  | 0 => some (fun a_ w_ => atSz a_ 21 (atS a_ 0 fun t0_a => J0 t0_a w_), fun a_ w_ => mS a_ 0 fun t0_a => m0 t0_a w_)
  | _ => none

set_option maxRecDepth 100000 in
/-- surd/nat.trim: function 63. -/
theorem nat_trim_vc (a0_a : Slc) (w : World) (R : Ending → World → Prop)
    (J0 : Slc → World → Prop) (m0 : Slc → World → Nat)
    (h : J0 a0_a w)
    (h0 : ∀ (t0_a : Slc) (w_ : World), J0 t0_a w_ → 
    br (decide ((t0_a.n : Int) > 0))
    (semA Try.prog (Instr.indexAt 26 t0_a.v (Value.int .i64 (IntKind.i64.wrap ((t0_a.n : Int) - 1)))) w_ fun ad1 w1 =>
      ldI .u64 ad1 w1 fun x1 =>
      br (x1 == 0)
      (semS Try.prog (Instr.sliceAt 26 t0_a.v none (some (Value.int .i64 (IntKind.i64.wrap ((t0_a.n : Int) - 1)))) none) w1 fun s1 w2 =>
        J0 s1 w2 ∧
        m0 s1 w2 < m0 t0_a w_)
      (R (.returned t0_a.v) w1))
    (R (.returned t0_a.v) w_)) :
    Calls Try.prog 63 #[a0_a.v] w R := by
  refine calls_of_vc (nat_trim_cut J0 m0) (by kernel_rfl) Try.func63 rfl ?_ ?_
  · refine kcast h ?_; kernel_rfl
  · exact (obl_seq (obl_reg (obl_seq (obl_loop _ rfl (fun a_ w_ hL_ => (by
    obtain ⟨hz_, hd_, hL_⟩ := atSz_out hL_
    obtain ⟨t0_a, h0_, hL_⟩ := atS_out hL_
    obtain ⟨g0, rfl⟩ : ∃ g, a_ = Fr 21 [(0, t0_a.v)] g := ⟨_, fr_of hz_ hd_ [(0, t0_a.v)] (sel_cons h0_ sel_nil)⟩
    clear hz_ hd_ h0_
    have hJ0_ := hL_
    refine ⟨(fun _ => none), kcast (h0 t0_a w_ hJ0_) ?_, ?_⟩
    · kernel_rfl
    · exact (obl_seq (obl_seq (obl_reg (obl_cond (obl_skip (obl_exit (obl_blk rfl (obl_reg trivial)))))))))) (obl_seq (obl_reg (obl_ret trivial)))))))

set_option maxRecDepth 100000 in
/-- surd/nat.told: function 65. -/
theorem nat_told_vc (a0_a : Slc) (w : World) (R : Ending → World → Prop)
    
    (h : Calls Try.prog 63 #[a0_a.v] w fun e1 w1 =>
    ∃ s1 : Slc, e1 = .returned s1.v ∧
    (Calls Try.prog 71 #[s1.v] w1 fun e2 w2 =>
      ∃ x1 : Int, e2 = .returned (Value.int .i64 x1) ∧
      (br (decide (x1 > 67108864))
        (R (.returned (Value.tuple #[(⟨none, 0, 0⟩ : Slc).v, Value.int .i64 3])) w2)
        (R (.returned (Value.tuple #[s1.v, Value.int .i64 0])) w2)))) :
    Calls Try.prog 65 #[a0_a.v] w R := by
  refine calls_of_vc (fun _ => none) (by kernel_rfl) Try.func65 rfl ?_ ?_
  · refine kcast h ?_; kernel_rfl
  · exact (obl_seq (obl_reg (obl_seq (obl_reg (obl_seq (obl_seq (obl_reg (obl_cond (obl_seq (obl_reg (obl_ret (obl_skip (obl_seq (obl_reg (obl_ret trivial)))))))))))))))

set_option maxRecDepth 100000 in
/-- surd/nat.Norm: function 52. -/
theorem nat_Norm_vc (a0_a : Slc) (w : World) (R : Ending → World → Prop)
    
    (h : Calls Try.prog 63 #[a0_a.v] w fun e1 w1 =>
    ∃ s1 : Slc, e1 = .returned s1.v ∧
    (semS Try.prog (Builtin.append_ #[26, 26] 26 #[(⟨none, 0, 0⟩ : Slc).v, s1.v]) w1 fun s2 w2 =>
      R (.returned s2.v) w2)) :
    Calls Try.prog 52 #[a0_a.v] w R := by
  refine calls_of_vc (fun _ => none) (by kernel_rfl) Try.func52 rfl ?_ ?_
  · refine kcast h ?_; kernel_rfl
  · exact (obl_seq (obl_reg (obl_seq (obl_reg (obl_ret trivial)))))

set_option maxRecDepth 100000 in
/-- surd/nat.From: function 47. -/
theorem nat_From_vc (a0_v : Int) (w : World) (R : Ending → World → Prop)
    
    (h : br (a0_v == 0)
    (R (.returned ((⟨none, 0, 0⟩ : Slc).v)) w)
    (newC w #[Value.int .u64 a0_v] 49 fun ad1 w1 =>
      R (.returned ((⟨some ad1, 1, 1⟩ : Slc).v)) w1)) :
    Calls Try.prog 47 #[Value.int .u64 a0_v] w R := by
  refine calls_of_vc (fun _ => none) (by kernel_rfl) Try.func47 rfl ?_ ?_
  · refine kcast h ?_; kernel_rfl
  · exact (obl_seq (obl_reg (obl_seq (obl_seq (obl_reg (obl_cond (obl_seq (obl_reg (obl_ret (obl_skip (obl_seq (obl_reg (obl_ret trivial)))))))))))))

def nat_Compare_cut (J0 : Slc → Slc → Int → World → Prop) (m0 : Slc → Slc → Int → World → Nat) : Nat → Option ((Act → World → Prop) × (Act → World → Nat))
  | 0 => some (fun a_ w_ => atSz a_ 45 (atS a_ 0 fun t0_a => atS a_ 1 fun t1_b => atI .i64 a_ 5 fun t5_i => J0 t0_a t1_b t5_i w_), fun a_ w_ => mS a_ 0 fun t0_a => mS a_ 1 fun t1_b => mI a_ 5 fun t5_i => m0 t0_a t1_b t5_i w_)
  | _ => none

set_option maxRecDepth 100000 in
/-- surd/nat.Compare: function 49. -/
theorem nat_Compare_vc (a0_a : Slc) (a1_b : Slc) (w : World) (R : Ending → World → Prop)
    (J0 : Slc → Slc → Int → World → Prop) (m0 : Slc → Slc → Int → World → Nat)
    (h : Calls Try.prog 63 #[a0_a.v] w fun e1 w1 =>
    ∃ s1 : Slc, e1 = .returned s1.v ∧
    (Calls Try.prog 63 #[a1_b.v] w1 fun e2 w2 =>
      ∃ s2 : Slc, e2 = .returned s2.v ∧
      (br ((s1.n : Int) != (s2.n : Int))
        (br (decide ((s1.n : Int) < (s2.n : Int)))
          (R (.returned (Value.int .i64 (-1))) w2)
          (R (.returned (Value.int .i64 1)) w2))
        (J0 s1 s2 (IntKind.i64.wrap ((s1.n : Int) - 1)) w2))))
    (h0 : ∀ (t0_a : Slc) (t1_b : Slc) (t5_i : Int) (w_ : World), J0 t0_a t1_b t5_i w_ → 
    br (decide (t5_i ≥ 0))
    (fixA Try.prog (Instr.indexAt 26 t0_a.v (Value.int .i64 t5_i)) w_ fun ad1 =>
      ldI .u64 ad1 w_ fun x1 =>
      fixA Try.prog (Instr.indexAt 26 t1_b.v (Value.int .i64 t5_i)) w_ fun ad2 =>
      ldI .u64 ad2 w_ fun x2 =>
      ∀ w3, Ahead w_ w3 →
      (br (decide (x1 < x2))
        (R (.returned (Value.int .i64 (-1))) w3)
        (fixA Try.prog (Instr.indexAt 26 t0_a.v (Value.int .i64 t5_i)) w3 fun ad3 =>
          ldI .u64 ad3 w3 fun x3 =>
          fixA Try.prog (Instr.indexAt 26 t1_b.v (Value.int .i64 t5_i)) w3 fun ad4 =>
          ldI .u64 ad4 w3 fun x4 =>
          ∀ w4, Ahead w3 w4 →
          (br (decide (x3 > x4))
            (R (.returned (Value.int .i64 1)) w4)
            (J0 t0_a t1_b (IntKind.i64.wrap (t5_i - 1)) w4 ∧
              m0 t0_a t1_b (IntKind.i64.wrap (t5_i - 1)) w4 < m0 t0_a t1_b t5_i w_)))))
    (R (.returned (Value.int .i64 0)) w_)) :
    Calls Try.prog 49 #[a0_a.v, a1_b.v] w R := by
  refine calls_of_vc (nat_Compare_cut J0 m0) (by kernel_rfl) Try.func49 rfl ?_ ?_
  · refine kcast h ?_; kernel_rfl
  · exact (obl_seq (obl_reg (obl_seq (obl_reg (obl_seq (obl_seq (obl_reg (obl_cond (obl_seq (obl_seq (obl_reg (obl_cond (obl_seq (obl_reg (obl_ret (obl_skip (obl_seq (obl_reg (obl_ret (obl_skip (obl_seq (obl_seq (obl_reg (obl_loop _ rfl (fun a_ w_ hL_ => (by
    obtain ⟨hz_, hd_, hL_⟩ := atSz_out hL_
    obtain ⟨t0_a, h0_, hL_⟩ := atS_out hL_
    obtain ⟨t1_b, h1_, hL_⟩ := atS_out hL_
    obtain ⟨t5_i, h5_, hL_⟩ := atI_out hL_
    obtain ⟨g0, rfl⟩ : ∃ g, a_ = Fr 45 [(0, t0_a.v), (1, t1_b.v), (5, Value.int .i64 t5_i)] g := ⟨_, fr_of hz_ hd_ [(0, t0_a.v), (1, t1_b.v), (5, Value.int .i64 t5_i)] (sel_cons h0_ (sel_cons h1_ (sel_cons h5_ sel_nil)))⟩
    clear hz_ hd_ h0_ h1_ h5_
    have hJ0_ := hL_
    refine ⟨(fun _ => none), kcast (h0 t0_a t1_b t5_i w_ hJ0_) ?_, ?_⟩
    · kernel_rfl
    · exact (obl_seq (obl_seq (obl_reg (obl_cond (obl_skip (obl_exit (obl_seq (obl_blk rfl (obl_seq (obl_seq (obl_quiet (by kernel_rfl) (by kernel_rfl) (by kernel_rfl) (obl_cond (obl_seq (obl_reg (obl_ret (obl_skip (obl_seq (obl_quiet (by kernel_rfl) (by kernel_rfl) (by kernel_rfl) (obl_cond (obl_seq (obl_reg (obl_ret (obl_skip (obl_reg trivial)))))))))))))))))))))))))) (obl_seq (obl_reg (obl_ret trivial)))))))))))))))))))))))))))

def nat_Add_cut (J0 : Slc → Slc → Slc → Int → Int → Int → World → Prop) (m0 : Slc → Slc → Slc → Int → Int → Int → World → Nat) : Nat → Option ((Act → World → Prop) × (Act → World → Nat))
  | 0 => some (fun a_ w_ => atSz a_ 61 (atS a_ 0 fun t0_a => atS a_ 1 fun t1_b => atS a_ 6 fun t6_c => atI .u64 a_ 7 fun t7_carry => atI .i64 a_ 26 fun t26 => atI .i64 a_ 27 fun t27 => J0 t0_a t1_b t6_c t7_carry t26 t27 w_), fun a_ w_ => mS a_ 0 fun t0_a => mS a_ 1 fun t1_b => mS a_ 6 fun t6_c => mI a_ 7 fun t7_carry => mI a_ 26 fun t26 => mI a_ 27 fun t27 => m0 t0_a t1_b t6_c t7_carry t26 t27 w_)
  | _ => none

set_option maxRecDepth 100000 in
/-- surd/nat.Add: function 55. -/
theorem nat_Add_vc (a0_a : Slc) (a1_b : Slc) (w : World) (R : Ending → World → Prop)
    (J0 : Slc → Slc → Slc → Int → Int → Int → World → Prop) (m0 : Slc → Slc → Slc → Int → Int → Int → World → Nat)
    (h : Calls Try.prog 63 #[a0_a.v] w fun e1 w1 =>
    ∃ s1 : Slc, e1 = .returned s1.v ∧
    (Calls Try.prog 63 #[a1_b.v] w1 fun e2 w2 =>
      ∃ s2 : Slc, e2 = .returned s2.v ∧
      (br (decide ((s1.n : Int) < (s2.n : Int)))
        (semS Try.prog (Instr.makeSlice 26 (Value.int .i64 (IntKind.i64.wrap ((s2.n : Int) + 1))) (Value.int .i64 (IntKind.i64.wrap ((s2.n : Int) + 1)))) w2 fun s3 w3 =>
          J0 s2 s1 s3 0 (s2.n : Int) 0 w3)
        (semS Try.prog (Instr.makeSlice 26 (Value.int .i64 (IntKind.i64.wrap ((s1.n : Int) + 1))) (Value.int .i64 (IntKind.i64.wrap ((s1.n : Int) + 1)))) w2 fun s5 w16 =>
          J0 s1 s2 s5 0 (s1.n : Int) 0 w16))))
    (h0 : ∀ (t0_a : Slc) (t1_b : Slc) (t6_c : Slc) (t7_carry : Int) (t26 : Int) (t27 : Int) (w_ : World), J0 t0_a t1_b t6_c t7_carry t26 t27 w_ → 
    br (decide (t27 < t26))
    (br (decide (t27 < (t1_b.n : Int)))
      (semA Try.prog (Instr.indexAt 26 t1_b.v (Value.int .i64 t27)) w_ fun ad1 w4 =>
        ldI .u64 ad1 w4 fun x1 =>
        semA Try.prog (Instr.indexAt 26 t0_a.v (Value.int .i64 t27)) w4 fun ad2 w5 =>
        ldI .u64 ad2 w5 fun x2 =>
        Sem.wp Try.prog (callFunc 64 #[Value.int .u64 x2, Value.int .u64 x1, Value.int .u64 t7_carry]) (fun n1 w6 =>
          ∃ x3 : Int, ∃ x4 : Int, n1 = .value (Value.tuple #[Value.int .u64 x3, Value.int .u64 x4]) ∧
          (semA Try.prog (Instr.indexAt 26 t6_c.v (Value.int .i64 t27)) w6 fun ad3 w7 =>
            stC ad3 (Value.int .u64 x3) w7 fun w8 =>
            J0 t0_a t1_b t6_c x4 t26 (IntKind.i64.wrap (t27 + 1)) w8 ∧
            m0 t0_a t1_b t6_c x4 t26 (IntKind.i64.wrap (t27 + 1)) w8 < m0 t0_a t1_b t6_c t7_carry t26 t27 w_)) (fun _ _ => False) w5)
      (semA Try.prog (Instr.indexAt 26 t0_a.v (Value.int .i64 t27)) w_ fun ad4 w9 =>
        ldI .u64 ad4 w9 fun x5 =>
        Sem.wp Try.prog (callFunc 64 #[Value.int .u64 x5, Value.int .u64 0, Value.int .u64 t7_carry]) (fun n2 w10 =>
          ∃ x6 : Int, ∃ x7 : Int, n2 = .value (Value.tuple #[Value.int .u64 x6, Value.int .u64 x7]) ∧
          (semA Try.prog (Instr.indexAt 26 t6_c.v (Value.int .i64 t27)) w10 fun ad5 w11 =>
            stC ad5 (Value.int .u64 x6) w11 fun w12 =>
            J0 t0_a t1_b t6_c x7 t26 (IntKind.i64.wrap (t27 + 1)) w12 ∧
            m0 t0_a t1_b t6_c x7 t26 (IntKind.i64.wrap (t27 + 1)) w12 < m0 t0_a t1_b t6_c t7_carry t26 t27 w_)) (fun _ _ => False) w9))
    (semA Try.prog (Instr.indexAt 26 t6_c.v (Value.int .i64 (t0_a.n : Int))) w_ fun ad6 w13 =>
      stC ad6 (Value.int .u64 t7_carry) w13 fun w14 =>
      Calls Try.prog 65 #[t6_c.v] w14 fun e3 w15 =>
      ∃ s4 : Slc, ∃ x8 : Int, e3 = .returned (Value.tuple #[s4.v, Value.int .i64 x8]) ∧
      (R (.returned (Value.tuple #[s4.v, Value.int .i64 x8])) w15))) :
    Calls Try.prog 55 #[a0_a.v, a1_b.v] w R := by
  refine calls_of_vc (nat_Add_cut J0 m0) (by kernel_rfl) Try.func55 rfl ?_ ?_
  · refine kcast h ?_; kernel_rfl
  · exact (obl_seq (obl_reg (obl_seq (obl_reg (obl_seq (obl_seq (obl_reg (obl_cond (obl_reg (obl_skip (obl_seq (obl_reg (obl_seq (obl_reg (obl_seq (obl_seq (obl_reg (obl_loop _ rfl (fun a_ w_ hL_ => (by
    obtain ⟨hz_, hd_, hL_⟩ := atSz_out hL_
    obtain ⟨t0_a, h0_, hL_⟩ := atS_out hL_
    obtain ⟨t1_b, h1_, hL_⟩ := atS_out hL_
    obtain ⟨t6_c, h6_, hL_⟩ := atS_out hL_
    obtain ⟨t7_carry, h7_, hL_⟩ := atI_out hL_
    obtain ⟨t26, h26_, hL_⟩ := atI_out hL_
    obtain ⟨t27, h27_, hL_⟩ := atI_out hL_
    obtain ⟨g0, rfl⟩ : ∃ g, a_ = Fr 61 [(0, t0_a.v), (1, t1_b.v), (6, t6_c.v), (7, Value.int .u64 t7_carry), (26, Value.int .i64 t26), (27, Value.int .i64 t27)] g := ⟨_, fr_of hz_ hd_ [(0, t0_a.v), (1, t1_b.v), (6, t6_c.v), (7, Value.int .u64 t7_carry), (26, Value.int .i64 t26), (27, Value.int .i64 t27)] (sel_cons h0_ (sel_cons h1_ (sel_cons h6_ (sel_cons h7_ (sel_cons h26_ (sel_cons h27_ sel_nil))))))⟩
    clear hz_ hd_ h0_ h1_ h6_ h7_ h26_ h27_
    have hJ0_ := hL_
    refine ⟨(fun _ => none), kcast (h0 t0_a t1_b t6_c t7_carry t26 t27 w_ hJ0_) ?_, ?_⟩
    · kernel_rfl
    · exact (obl_seq (obl_reg (obl_seq (obl_cond (obl_skip (obl_exit (obl_seq (obl_blk rfl (obl_seq (obl_reg (obl_seq (obl_reg (obl_seq (obl_seq (obl_reg (obl_cond (obl_reg (obl_skip (obl_reg (obl_reg trivial)))))))))))))))))))))) (obl_seq (obl_reg (obl_seq (obl_reg (obl_ret trivial)))))))))))))))))))))))

set_option maxRecDepth 100000 in
/-- surd/nat.Length: function 71. -/
theorem nat_Length_vc (a0_a : Slc) (w : World) (R : Ending → World → Prop)
    
    (h : Calls Try.prog 63 #[a0_a.v] w fun e1 w1 =>
    ∃ s1 : Slc, e1 = .returned s1.v ∧
    (br ((s1.n : Int) == 0)
      (R (.returned (Value.int .i64 0)) w1)
      (semA Try.prog (Instr.indexAt 26 s1.v (Value.int .i64 (IntKind.i64.wrap ((s1.n : Int) - 1)))) w1 fun ad1 w2 =>
        ldI .u64 ad1 w2 fun x1 =>
        Calls Try.prog 76 #[Value.int .u64 x1] w2 fun e2 w3 =>
        ∃ x2 : Int, e2 = .returned (Value.int .i64 x2) ∧
        (R (.returned (Value.int .i64 (IntKind.i64.wrap ((IntKind.i64.wrap (64 * (IntKind.i64.wrap ((s1.n : Int) - 1)))) + x2)))) w3)))) :
    Calls Try.prog 71 #[a0_a.v] w R := by
  refine calls_of_vc (fun _ => none) (by kernel_rfl) Try.func71 rfl ?_ ?_
  · refine kcast h ?_; kernel_rfl
  · exact (obl_seq (obl_reg (obl_seq (obl_reg (obl_seq (obl_seq (obl_reg (obl_cond (obl_seq (obl_reg (obl_ret (obl_skip (obl_seq (obl_reg (obl_ret trivial)))))))))))))))

end Go.Proofs.Ytflipimlpgbnmaa
