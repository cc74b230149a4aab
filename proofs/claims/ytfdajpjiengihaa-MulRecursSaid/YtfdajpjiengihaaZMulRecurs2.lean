/- What the law leans on, part 2. No condition. -/
import Derived.Test.YtfdajpjiengihaaZMulRecurs1
namespace Go.Proofs.Ytfdajpjiengihaa
open Go Go.RowKit Eng
set_option linter.unusedVariables false

def surdref01_norm_cut (J0 : Slc → Int → World → Prop) (m0 : Slc → Int → World → Nat) : Nat → Option ((Act → World → Prop) × (Act → World → Nat))
  | 0 => some (fun a_ w_ => atSz a_ 22 (atS a_ 0 fun t0_a => atI .i64 a_ 3 fun t3_n => J0 t0_a t3_n w_), fun a_ w_ => mS a_ 0 fun t0_a => mI a_ 3 fun t3_n => m0 t0_a t3_n w_)
  | _ => none

set_option maxRecDepth 100000 in
/-- surd/surdref01.norm: function 49. -/
theorem surdref01_norm_vc (a0_a : Slc) (w : World) (R : Ending → World → Prop)
    (J0 : Slc → Int → World → Prop) (m0 : Slc → Int → World → Nat)
    (h : J0 a0_a (a0_a.n : Int) w)
    (h0 : ∀ (t0_a : Slc) (t3_n : Int) (w_ : World), J0 t0_a t3_n w_ → 
    br (decide (t3_n > 0))
    (semA Try.prog (Instr.indexAt 40 t0_a.v (Value.int .i64 (IntKind.i64.wrap (t3_n - 1)))) w_ fun ad1 w1 =>
     ldI .u64 ad1 w1 fun x1 =>
     br (x1 == 0)
     (J0 t0_a (IntKind.i64.wrap (t3_n - 1)) w1 ∧
      m0 t0_a (IntKind.i64.wrap (t3_n - 1)) w1 < m0 t0_a t3_n w_)
     (semS Try.prog (Instr.sliceAt 40 t0_a.v none (some (Value.int .i64 t3_n)) (some (Value.int .i64 t3_n))) w1 fun s1 w2 =>
      R (.returned s1.v) w2))
    (semS Try.prog (Instr.sliceAt 40 t0_a.v none (some (Value.int .i64 t3_n)) (some (Value.int .i64 t3_n))) w_ fun s2 w3 =>
     R (.returned s2.v) w3)) :
    Calls Try.prog 49 #[a0_a.v] w R := by
  refine calls_of_vc (surdref01_norm_cut J0 m0) (by kernel_rfl) Try.func49 rfl ?_ ?_
  · refine kcast h ?_; kernel_rfl
  · exact (obl_seq rfl (obl_reg (obl_seq rfl (obl_reg (obl_seq rfl (obl_loop _ rfl (fun a_ w_ hL_ => (by
    obtain ⟨hz_, hd_, hL_⟩ := atSz_out hL_
    obtain ⟨t0_a, h0_, hL_⟩ := atS_out hL_
    obtain ⟨t3_n, h3_, hL_⟩ := atI_out hL_
    obtain ⟨g0, rfl⟩ : ∃ g, a_ = Fr 22 [(0, t0_a.v), (3, Value.int .i64 t3_n)] g := ⟨_, fr_of hz_ hd_ [(0, t0_a.v), (3, Value.int .i64 t3_n)] (sel_cons h0_ (sel_cons h3_ sel_nil))⟩
    clear hz_ hd_ h0_ h3_
    have hJ0_ := hL_
    refine ⟨(fun _ => none), kcast (h0 t0_a t3_n w_ hJ0_) ?_, ?_⟩
    · kernel_rfl
    · exact (obl_seq rfl (obl_seq rfl (obl_reg (obl_cond (obl_skip (obl_exit (obl_blk rfl (obl_reg trivial)))))))))) (obl_seq rfl (obl_reg (obl_ret trivial)))))))))

def surdref01_Of_cut (J0 : Slc → Slc → Int → Int → World → Prop) (m0 : Slc → Slc → Int → Int → World → Nat) : Nat → Option ((Act → World → Prop) × (Act → World → Nat))
  | 0 => some (fun a_ w_ => atSz a_ 26 (atS a_ 3 fun t3_out => atS a_ 10 fun t10 => atI .i64 a_ 11 fun t11 => atI .i64 a_ 12 fun t12 => J0 t3_out t10 t11 t12 w_), fun a_ w_ => mS a_ 3 fun t3_out => mS a_ 10 fun t10 => mI a_ 11 fun t11 => mI a_ 12 fun t12 => m0 t3_out t10 t11 t12 w_)
  | _ => none

set_option maxRecDepth 100000 in
/-- surd/surdref01.Of: function 20. -/
theorem surdref01_Of_vc (a0_limbs : Slc) (w : World) (R : Ending → World → Prop)
    (J0 : Slc → Slc → Int → Int → World → Prop) (m0 : Slc → Slc → Int → Int → World → Nat)
    (h : semS Try.prog (Instr.makeSlice 40 (Value.int .i64 0) (Value.int .i64 (IntKind.i64.wrap (2 * (a0_limbs.n : Int))))) w fun s1 w1 =>
    J0 s1 a0_limbs (a0_limbs.n : Int) 0 w1)
    (h0 : ∀ (t3_out : Slc) (t10 : Slc) (t11 : Int) (t12 : Int) (w_ : World), J0 t3_out t10 t11 t12 w_ → 
    br (decide (t12 < t11))
    (semA Try.prog (Instr.indexAt 23 t10.v (Value.int .i64 t12)) w_ fun ad1 w2 =>
     ldI .u64 ad1 w2 fun x1 =>
     newC w2 #[Value.int .u64 (Int.tmod x1 4294967296), Value.int .u64 (IntKind.u64.wrap (Int.tdiv x1 4294967296))] 29 fun ad2 w3 =>
     semS Try.prog (Builtin.append_ #[40, 40] 40 #[t3_out.v, (⟨some ad2, 2, 2⟩ : Slc).v]) w3 fun s2 w4 =>
     J0 s2 t10 t11 (IntKind.i64.wrap (t12 + 1)) w4 ∧
     m0 s2 t10 t11 (IntKind.i64.wrap (t12 + 1)) w4 < m0 t3_out t10 t11 t12 w_)
    (Calls Try.prog 49 #[t3_out.v] w_ fun e1 w5 =>
     ∃ s3 : Slc, e1 = .returned s3.v ∧
     (R (.returned s3.v) w5))) :
    Calls Try.prog 20 #[a0_limbs.v] w R := by
  refine calls_of_vc (surdref01_Of_cut J0 m0) (by kernel_rfl) Try.func20 rfl ?_ ?_
  · refine kcast h ?_; kernel_rfl
  · exact (obl_seq rfl (obl_reg (obl_seq rfl (obl_reg (obl_seq rfl (obl_seq rfl (obl_reg (obl_loop _ rfl (fun a_ w_ hL_ => (by
    obtain ⟨hz_, hd_, hL_⟩ := atSz_out hL_
    obtain ⟨t3_out, h3_, hL_⟩ := atS_out hL_
    obtain ⟨t10, h10_, hL_⟩ := atS_out hL_
    obtain ⟨t11, h11_, hL_⟩ := atI_out hL_
    obtain ⟨t12, h12_, hL_⟩ := atI_out hL_
    obtain ⟨g0, rfl⟩ : ∃ g, a_ = Fr 26 [(3, t3_out.v), (10, t10.v), (11, Value.int .i64 t11), (12, Value.int .i64 t12)] g := ⟨_, fr_of hz_ hd_ [(3, t3_out.v), (10, t10.v), (11, Value.int .i64 t11), (12, Value.int .i64 t12)] (sel_cons h3_ (sel_cons h10_ (sel_cons h11_ (sel_cons h12_ sel_nil))))⟩
    clear hz_ hd_ h3_ h10_ h11_ h12_
    have hJ0_ := hL_
    refine ⟨(fun _ => none), kcast (h0 t3_out t10 t11 t12 w_ hJ0_) ?_, ?_⟩
    · kernel_rfl
    · exact (obl_seq rfl (obl_reg (obl_seq rfl (obl_cond (obl_skip (obl_exit (obl_seq rfl (obl_blk rfl (obl_seq rfl (obl_reg (obl_reg (obl_reg trivial)))))))))))))) (obl_seq rfl (obl_reg (obl_ret trivial)))))))))))

def surdref01_Num_Limbs_cut (J0 : Slc → Slc → Int → World → Prop) (m0 : Slc → Slc → Int → World → Nat) : Nat → Option ((Act → World → Prop) × (Act → World → Nat))
  | 0 => some (fun a_ w_ => atSz a_ 34 (atS a_ 0 fun t0_a => atS a_ 3 fun t3_out => atI .i64 a_ 4 fun t4_i => J0 t0_a t3_out t4_i w_), fun a_ w_ => mS a_ 0 fun t0_a => mS a_ 3 fun t3_out => mI a_ 4 fun t4_i => m0 t0_a t3_out t4_i w_)
  | _ => none

set_option maxRecDepth 100000 in
/-- (surd/surdref01.Num).Limbs: function 28. -/
theorem surdref01_Num_Limbs_vc (a0_a : Slc) (w : World) (R : Ending → World → Prop)
    (J0 : Slc → Slc → Int → World → Prop) (m0 : Slc → Slc → Int → World → Nat)
    (h : J0 a0_a (⟨none, 0, 0⟩ : Slc) 0 w)
    (h0 : ∀ (t0_a : Slc) (t3_out : Slc) (t4_i : Int) (w_ : World), J0 t0_a t3_out t4_i w_ → 
    br (decide (t4_i < (t0_a.n : Int)))
    (semA Try.prog (Instr.indexAt 40 t0_a.v (Value.int .i64 t4_i)) w_ fun ad1 w1 =>
     ldI .u64 ad1 w1 fun x1 =>
     br (decide ((IntKind.i64.wrap (t4_i + 1)) < (t0_a.n : Int)))
     (semA Try.prog (Instr.indexAt 40 t0_a.v (Value.int .i64 (IntKind.i64.wrap (t4_i + 1)))) w1 fun ad2 w2 =>
      ldI .u64 ad2 w2 fun x2 =>
      newC w2 #[Value.int .u64 (IntKind.u64.wrap (x1 + (IntKind.u64.wrap (x2 * 4294967296))))] 29 fun ad3 w3 =>
      semS Try.prog (Builtin.append_ #[23, 23] 23 #[t3_out.v, (⟨some ad3, 1, 1⟩ : Slc).v]) w3 fun s1 w4 =>
      J0 t0_a s1 (IntKind.i64.wrap (t4_i + 2)) w4 ∧
      m0 t0_a s1 (IntKind.i64.wrap (t4_i + 2)) w4 < m0 t0_a t3_out t4_i w_)
     (newC w1 #[Value.int .u64 x1] 29 fun ad4 w5 =>
      semS Try.prog (Builtin.append_ #[23, 23] 23 #[t3_out.v, (⟨some ad4, 1, 1⟩ : Slc).v]) w5 fun s2 w6 =>
      J0 t0_a s2 (IntKind.i64.wrap (t4_i + 2)) w6 ∧
      m0 t0_a s2 (IntKind.i64.wrap (t4_i + 2)) w6 < m0 t0_a t3_out t4_i w_))
    (R (.returned t3_out.v) w_)) :
    Calls Try.prog 28 #[a0_a.v] w R := by
  refine calls_of_vc (surdref01_Num_Limbs_cut J0 m0) (by kernel_rfl) Try.func28 rfl ?_ ?_
  · refine kcast h ?_; kernel_rfl
  · exact (obl_seq rfl (obl_reg (obl_seq rfl (obl_reg (obl_seq rfl (obl_seq rfl (obl_reg (obl_loop _ rfl (fun a_ w_ hL_ => (by
    obtain ⟨hz_, hd_, hL_⟩ := atSz_out hL_
    obtain ⟨t0_a, h0_, hL_⟩ := atS_out hL_
    obtain ⟨t3_out, h3_, hL_⟩ := atS_out hL_
    obtain ⟨t4_i, h4_, hL_⟩ := atI_out hL_
    obtain ⟨g0, rfl⟩ : ∃ g, a_ = Fr 34 [(0, t0_a.v), (3, t3_out.v), (4, Value.int .i64 t4_i)] g := ⟨_, fr_of hz_ hd_ [(0, t0_a.v), (3, t3_out.v), (4, Value.int .i64 t4_i)] (sel_cons h0_ (sel_cons h3_ (sel_cons h4_ sel_nil)))⟩
    clear hz_ hd_ h0_ h3_ h4_
    have hJ0_ := hL_
    refine ⟨(fun _ => none), kcast (h0 t0_a t3_out t4_i w_ hJ0_) ?_, ?_⟩
    · kernel_rfl
    · exact (obl_seq rfl (obl_seq rfl (obl_reg (obl_cond (obl_skip (obl_exit (obl_seq rfl (obl_blk rfl (obl_seq rfl (obl_reg (obl_seq rfl (obl_seq rfl (obl_reg (obl_cond (obl_reg (obl_skip (obl_reg (obl_reg trivial)))))))))))))))))))) (obl_seq rfl (obl_reg (obl_ret trivial)))))))))))

def surdref01_Num_Is_cut (J0 : Slc → Slc → Int → Int → World → Prop) (m0 : Slc → Slc → Int → Int → World → Nat) : Nat → Option ((Act → World → Prop) × (Act → World → Nat))
  | 0 => some (fun a_ w_ => atSz a_ 29 (atS a_ 1 fun t1_limbs => atS a_ 5 fun t5_want => atI .i64 a_ 15 fun t15 => atI .i64 a_ 16 fun t16 => J0 t1_limbs t5_want t15 t16 w_), fun a_ w_ => mS a_ 1 fun t1_limbs => mS a_ 5 fun t5_want => mI a_ 15 fun t15 => mI a_ 16 fun t16 => m0 t1_limbs t5_want t15 t16 w_)
  | _ => none

set_option maxRecDepth 100000 in
/-- (surd/surdref01.Num).Is: function 31. -/
theorem surdref01_Num_Is_vc (a0_a : Slc) (a1_limbs : Slc) (w : World) (R : Ending → World → Prop)
    (J0 : Slc → Slc → Int → Int → World → Prop) (m0 : Slc → Slc → Int → Int → World → Nat)
    (h : Calls Try.prog 28 #[a0_a.v] w fun e1 w1 =>
    ∃ s1 : Slc, e1 = .returned s1.v ∧
    (br ((s1.n : Int) != (a1_limbs.n : Int))
     (R (.returned (Value.bool false)) w1)
     (J0 a1_limbs s1 (s1.n : Int) 0 w1)))
    (h0 : ∀ (t1_limbs : Slc) (t5_want : Slc) (t15 : Int) (t16 : Int) (w_ : World), J0 t1_limbs t5_want t15 t16 w_ → 
    br (decide (t16 < t15))
    (fixA Try.prog (Instr.indexAt 23 t5_want.v (Value.int .i64 t16)) w_ fun ad1 =>
     ldI .u64 ad1 w_ fun x1 =>
     fixA Try.prog (Instr.indexAt 23 t1_limbs.v (Value.int .i64 t16)) w_ fun ad2 =>
     ldI .u64 ad2 w_ fun x2 =>
     ∀ w2, Ahead w_ w2 →
     (br (x1 != x2)
      (R (.returned (Value.bool false)) w2)
      (J0 t1_limbs t5_want t15 (IntKind.i64.wrap (t16 + 1)) w2 ∧
       m0 t1_limbs t5_want t15 (IntKind.i64.wrap (t16 + 1)) w2 < m0 t1_limbs t5_want t15 t16 w_)))
    (R (.returned (Value.bool true)) w_)) :
    Calls Try.prog 31 #[a0_a.v, a1_limbs.v] w R := by
  refine calls_of_vc (surdref01_Num_Is_cut J0 m0) (by kernel_rfl) Try.func31 rfl ?_ ?_
  · refine kcast h ?_; kernel_rfl
  · exact (obl_seq rfl (obl_reg (obl_seq rfl (obl_reg (obl_seq rfl (obl_seq rfl (obl_reg (obl_cond (obl_seq rfl (obl_reg (obl_ret (obl_skip (obl_seq rfl (obl_seq rfl (obl_reg (obl_loop _ rfl (fun a_ w_ hL_ => (by
    obtain ⟨hz_, hd_, hL_⟩ := atSz_out hL_
    obtain ⟨t1_limbs, h1_, hL_⟩ := atS_out hL_
    obtain ⟨t5_want, h5_, hL_⟩ := atS_out hL_
    obtain ⟨t15, h15_, hL_⟩ := atI_out hL_
    obtain ⟨t16, h16_, hL_⟩ := atI_out hL_
    obtain ⟨g0, rfl⟩ : ∃ g, a_ = Fr 29 [(1, t1_limbs.v), (5, t5_want.v), (15, Value.int .i64 t15), (16, Value.int .i64 t16)] g := ⟨_, fr_of hz_ hd_ [(1, t1_limbs.v), (5, t5_want.v), (15, Value.int .i64 t15), (16, Value.int .i64 t16)] (sel_cons h1_ (sel_cons h5_ (sel_cons h15_ (sel_cons h16_ sel_nil))))⟩
    clear hz_ hd_ h1_ h5_ h15_ h16_
    have hJ0_ := hL_
    refine ⟨(fun _ => none), kcast (h0 t1_limbs t5_want t15 t16 w_ hJ0_) ?_, ?_⟩
    · kernel_rfl
    · exact (obl_seq rfl (obl_reg (obl_seq rfl (obl_cond (obl_skip (obl_exit (obl_seq rfl (obl_blk rfl (obl_seq rfl (obl_reg (obl_seq rfl (obl_quiet (by kernel_rfl) (by kernel_rfl) (by kernel_rfl) (by kernel_rfl) (obl_cond (obl_seq rfl (obl_reg (obl_ret (obl_skip (obl_reg trivial)))))))))))))))))))) (obl_seq rfl (obl_reg (obl_ret trivial)))))))))))))))))))

def surdref01_Cmp_cut (J0 : Slc → Slc → Int → World → Prop) (m0 : Slc → Slc → Int → World → Nat) : Nat → Option ((Act → World → Prop) × (Act → World → Nat))
  | 0 => some (fun a_ w_ => atSz a_ 41 (atS a_ 0 fun t0_a => atS a_ 1 fun t1_b => atI .i64 a_ 5 fun t5_i => J0 t0_a t1_b t5_i w_), fun a_ w_ => mS a_ 0 fun t0_a => mS a_ 1 fun t1_b => mI a_ 5 fun t5_i => m0 t0_a t1_b t5_i w_)
  | _ => none

set_option maxRecDepth 100000 in
/-- surd/surdref01.Cmp: function 36. -/
theorem surdref01_Cmp_vc (a0_a : Slc) (a1_b : Slc) (w : World) (R : Ending → World → Prop)
    (J0 : Slc → Slc → Int → World → Prop) (m0 : Slc → Slc → Int → World → Nat)
    (h : br ((a0_a.n : Int) != (a1_b.n : Int))
    (br (decide ((a0_a.n : Int) < (a1_b.n : Int)))
     (R (.returned (Value.int .i64 (-1))) w)
     (R (.returned (Value.int .i64 1)) w))
    (J0 a0_a a1_b (IntKind.i64.wrap ((a0_a.n : Int) - 1)) w))
    (h0 : ∀ (t0_a : Slc) (t1_b : Slc) (t5_i : Int) (w_ : World), J0 t0_a t1_b t5_i w_ → 
    br (decide (t5_i ≥ 0))
    (fixA Try.prog (Instr.indexAt 40 t0_a.v (Value.int .i64 t5_i)) w_ fun ad1 =>
     ldI .u64 ad1 w_ fun x1 =>
     fixA Try.prog (Instr.indexAt 40 t1_b.v (Value.int .i64 t5_i)) w_ fun ad2 =>
     ldI .u64 ad2 w_ fun x2 =>
     ∀ w1, Ahead w_ w1 →
     (br (decide (x1 < x2))
      (R (.returned (Value.int .i64 (-1))) w1)
      (fixA Try.prog (Instr.indexAt 40 t0_a.v (Value.int .i64 t5_i)) w1 fun ad3 =>
       ldI .u64 ad3 w1 fun x3 =>
       fixA Try.prog (Instr.indexAt 40 t1_b.v (Value.int .i64 t5_i)) w1 fun ad4 =>
       ldI .u64 ad4 w1 fun x4 =>
       ∀ w2, Ahead w1 w2 →
       (br (decide (x3 > x4))
        (R (.returned (Value.int .i64 1)) w2)
        (J0 t0_a t1_b (IntKind.i64.wrap (t5_i - 1)) w2 ∧
         m0 t0_a t1_b (IntKind.i64.wrap (t5_i - 1)) w2 < m0 t0_a t1_b t5_i w_)))))
    (R (.returned (Value.int .i64 0)) w_)) :
    Calls Try.prog 36 #[a0_a.v, a1_b.v] w R := by
  refine calls_of_vc (surdref01_Cmp_cut J0 m0) (by kernel_rfl) Try.func36 rfl ?_ ?_
  · refine kcast h ?_; kernel_rfl
  · exact (obl_seq rfl (obl_reg (obl_seq rfl (obl_seq rfl (obl_reg (obl_cond (obl_seq rfl (obl_seq rfl (obl_reg (obl_cond (obl_seq rfl (obl_reg (obl_ret (obl_skip (obl_seq rfl (obl_reg (obl_ret (obl_skip (obl_seq rfl (obl_seq rfl (obl_reg (obl_loop _ rfl (fun a_ w_ hL_ => (by
    obtain ⟨hz_, hd_, hL_⟩ := atSz_out hL_
    obtain ⟨t0_a, h0_, hL_⟩ := atS_out hL_
    obtain ⟨t1_b, h1_, hL_⟩ := atS_out hL_
    obtain ⟨t5_i, h5_, hL_⟩ := atI_out hL_
    obtain ⟨g0, rfl⟩ : ∃ g, a_ = Fr 41 [(0, t0_a.v), (1, t1_b.v), (5, Value.int .i64 t5_i)] g := ⟨_, fr_of hz_ hd_ [(0, t0_a.v), (1, t1_b.v), (5, Value.int .i64 t5_i)] (sel_cons h0_ (sel_cons h1_ (sel_cons h5_ sel_nil)))⟩
    clear hz_ hd_ h0_ h1_ h5_
    have hJ0_ := hL_
    refine ⟨(fun _ => none), kcast (h0 t0_a t1_b t5_i w_ hJ0_) ?_, ?_⟩
    · kernel_rfl
    · exact (obl_seq rfl (obl_seq rfl (obl_reg (obl_cond (obl_skip (obl_exit (obl_seq rfl (obl_blk rfl (obl_seq rfl (obl_seq rfl (obl_quiet (by kernel_rfl) (by kernel_rfl) (by kernel_rfl) (by kernel_rfl) (obl_cond (obl_seq rfl (obl_reg (obl_ret (obl_skip (obl_seq rfl (obl_quiet (by kernel_rfl) (by kernel_rfl) (by kernel_rfl) (by kernel_rfl) (obl_cond (obl_seq rfl (obl_reg (obl_ret (obl_skip (obl_reg trivial)))))))))))))))))))))))))) (obl_seq rfl (obl_reg (obl_ret trivial)))))))))))))))))))))))))

set_option maxRecDepth 100000 in
/-- (surd/surdref01.Num).at: function 67. -/
theorem surdref01_Num_at_vc (a0_a : Slc) (a1_i : Int) (w : World) (R : Ending → World → Prop)
    
    (h : br (decide (a1_i < (a0_a.n : Int)))
    (semA Try.prog (Instr.indexAt 40 a0_a.v (Value.int .i64 a1_i)) w fun ad1 w1 =>
     ldI .u64 ad1 w1 fun x1 =>
     R (.returned (Value.int .u64 x1)) w1)
    (R (.returned (Value.int .u64 0)) w)) :
    Calls Try.prog 67 #[a0_a.v, Value.int .i64 a1_i] w R := by
  refine calls_of_vc (fun _ => none) (by kernel_rfl) Try.func67 rfl ?_ ?_
  · refine kcast h ?_; kernel_rfl
  · exact (obl_seq rfl (obl_reg (obl_seq rfl (obl_seq rfl (obl_reg (obl_cond (obl_seq rfl (obl_reg (obl_ret (obl_skip (obl_seq rfl (obl_reg (obl_ret trivial)))))))))))))

def surdref01_Add_cut (J0 : Slc → Slc → Int → Slc → Int → Int → World → Prop) (m0 : Slc → Slc → Int → Slc → Int → Int → World → Nat) : Nat → Option ((Act → World → Prop) × (Act → World → Nat))
  | 0 => some (fun a_ w_ => atSz a_ 44 (atS a_ 0 fun t0_a => atS a_ 1 fun t1_b => atI .i64 a_ 5 fun t5_n => atS a_ 6 fun t6_out => atI .u64 a_ 7 fun t7_carry => atI .i64 a_ 8 fun t8_i => J0 t0_a t1_b t5_n t6_out t7_carry t8_i w_), fun a_ w_ => mS a_ 0 fun t0_a => mS a_ 1 fun t1_b => mI a_ 5 fun t5_n => mS a_ 6 fun t6_out => mI a_ 7 fun t7_carry => mI a_ 8 fun t8_i => m0 t0_a t1_b t5_n t6_out t7_carry t8_i w_)
  | _ => none

set_option maxRecDepth 100000 in
/-- surd/surdref01.Add: function 40. -/
theorem surdref01_Add_vc (a0_a : Slc) (a1_b : Slc) (w : World) (R : Ending → World → Prop)
    (J0 : Slc → Slc → Int → Slc → Int → Int → World → Prop) (m0 : Slc → Slc → Int → Slc → Int → Int → World → Nat)
    (h : br (decide ((a1_b.n : Int) > (a0_a.n : Int)))
    (semS Try.prog (Instr.makeSlice 40 (Value.int .i64 (IntKind.i64.wrap ((a1_b.n : Int) + 1))) (Value.int .i64 (IntKind.i64.wrap ((a1_b.n : Int) + 1)))) w fun s1 w1 =>
     J0 a0_a a1_b (a1_b.n : Int) s1 0 0 w1)
    (semS Try.prog (Instr.makeSlice 40 (Value.int .i64 (IntKind.i64.wrap ((a0_a.n : Int) + 1))) (Value.int .i64 (IntKind.i64.wrap ((a0_a.n : Int) + 1)))) w fun s3 w7 =>
     J0 a0_a a1_b (a0_a.n : Int) s3 0 0 w7))
    (h0 : ∀ (t0_a : Slc) (t1_b : Slc) (t5_n : Int) (t6_out : Slc) (t7_carry : Int) (t8_i : Int) (w_ : World), J0 t0_a t1_b t5_n t6_out t7_carry t8_i w_ → 
    br (decide (t8_i ≤ t5_n))
    (Calls Try.prog 67 #[t0_a.v, Value.int .i64 t8_i] w_ fun e1 w2 =>
     ∃ x1 : Int, e1 = .returned (Value.int .u64 x1) ∧
     (Calls Try.prog 67 #[t1_b.v, Value.int .i64 t8_i] w2 fun e2 w3 =>
      ∃ x2 : Int, e2 = .returned (Value.int .u64 x2) ∧
      (semA Try.prog (Instr.indexAt 40 t6_out.v (Value.int .i64 t8_i)) w3 fun ad1 w4 =>
       stC ad1 (Value.int .u64 (Int.tmod (IntKind.u64.wrap ((IntKind.u64.wrap (x1 + x2)) + t7_carry)) 4294967296)) w4 fun w5 =>
       J0 t0_a t1_b t5_n t6_out (IntKind.u64.wrap (Int.tdiv (IntKind.u64.wrap ((IntKind.u64.wrap (x1 + x2)) + t7_carry)) 4294967296)) (IntKind.i64.wrap (t8_i + 1)) w5 ∧
       m0 t0_a t1_b t5_n t6_out (IntKind.u64.wrap (Int.tdiv (IntKind.u64.wrap ((IntKind.u64.wrap (x1 + x2)) + t7_carry)) 4294967296)) (IntKind.i64.wrap (t8_i + 1)) w5 < m0 t0_a t1_b t5_n t6_out t7_carry t8_i w_)))
    (Calls Try.prog 49 #[t6_out.v] w_ fun e3 w6 =>
     ∃ s2 : Slc, e3 = .returned s2.v ∧
     (R (.returned s2.v) w6))) :
    Calls Try.prog 40 #[a0_a.v, a1_b.v] w R := by
  refine calls_of_vc (surdref01_Add_cut J0 m0) (by kernel_rfl) Try.func40 rfl ?_ ?_
  · refine kcast h ?_; kernel_rfl
  · exact (obl_seq rfl (obl_reg (obl_seq rfl (obl_reg (obl_seq rfl (obl_seq rfl (obl_reg (obl_cond (obl_reg (obl_skip (obl_seq rfl (obl_reg (obl_seq rfl (obl_reg (obl_seq rfl (obl_seq rfl (obl_reg (obl_loop _ rfl (fun a_ w_ hL_ => (by
    obtain ⟨hz_, hd_, hL_⟩ := atSz_out hL_
    obtain ⟨t0_a, h0_, hL_⟩ := atS_out hL_
    obtain ⟨t1_b, h1_, hL_⟩ := atS_out hL_
    obtain ⟨t5_n, h5_, hL_⟩ := atI_out hL_
    obtain ⟨t6_out, h6_, hL_⟩ := atS_out hL_
    obtain ⟨t7_carry, h7_, hL_⟩ := atI_out hL_
    obtain ⟨t8_i, h8_, hL_⟩ := atI_out hL_
    obtain ⟨g0, rfl⟩ : ∃ g, a_ = Fr 44 [(0, t0_a.v), (1, t1_b.v), (5, Value.int .i64 t5_n), (6, t6_out.v), (7, Value.int .u64 t7_carry), (8, Value.int .i64 t8_i)] g := ⟨_, fr_of hz_ hd_ [(0, t0_a.v), (1, t1_b.v), (5, Value.int .i64 t5_n), (6, t6_out.v), (7, Value.int .u64 t7_carry), (8, Value.int .i64 t8_i)] (sel_cons h0_ (sel_cons h1_ (sel_cons h5_ (sel_cons h6_ (sel_cons h7_ (sel_cons h8_ sel_nil))))))⟩
    clear hz_ hd_ h0_ h1_ h5_ h6_ h7_ h8_
    have hJ0_ := hL_
    refine ⟨(fun _ => none), kcast (h0 t0_a t1_b t5_n t6_out t7_carry t8_i w_ hJ0_) ?_, ?_⟩
    · kernel_rfl
    · exact (obl_seq rfl (obl_seq rfl (obl_reg (obl_cond (obl_skip (obl_exit (obl_seq rfl (obl_blk rfl (obl_seq rfl (obl_reg (obl_seq rfl (obl_reg (obl_reg (obl_reg trivial)))))))))))))))) (obl_seq rfl (obl_reg (obl_ret trivial)))))))))))))))))))))

end Go.Proofs.Ytfdajpjiengihaa
namespace Go.Proofs.Ytfdajpjiengihaa
open Go Go.RowKit Eng Sp Dg
set_option linter.unusedVariables false
set_option linter.unusedSimpArgs false
set_option maxRecDepth 100000
namespace Sp
section
variable {P : Program} {t e : TypeId} {k : IntKind}
/-- append of what reads as ys, onto a row of the call's own that has room for it. -/
theorem appRoom (hT : isSl P t k = some e) {w : World} {s x : Slc} {l ys : List Int} {ty : TypeId} {b : Nat} (hx : Rd k w x ys) (hy : 0 < ys.length)
    (hs : Own k e w s l b) (hroom : l.length + ys.length ≤ s.c) {K : Slc → World → Prop}
    (hk : ∀ s' w', s'.c = s.c → Own k e w' s' (l ++ ys) b → (∀ w0, Ahead w0 w → w0.heap.size ≤ b → Ahead w0 w') → K s' w') :
    semS P (Builtin.append_ #[t, t] ty #[s.v, x.v]) w fun s' w' => K s' w' := by
  obtain ⟨hu, he, inf, hi, hs1, hb8, hz⟩ := isSl_out hT
  obtain ⟨ad, hA, _⟩ := hx.get 0 hy
  obtain ⟨sp, hc, hh⟩ := hs.mem
  have hr := run_append_room (P := P) w t ty e inf hu hi b l.length s.c (ints k l ++ sp).toArray hh ad ys.length x.c (ints k ys) (by simp [ints, hs1])
    (fun j u hj => by
      have hj' : j < ys.length := by
        have := (List.getElem?_eq_some_iff.1 hj).1
        simpa [ints] using this
      obtain ⟨ad', e', hcc⟩ := hx.get j hj'
      rw [hA] at e'
      obtain rfl := Option.some.inj e'
      rw [ints_get hj'] at hj
      obtain rfl := Option.some.inj hj
      exact hcc) (by simp [ints, Value.oneCell']) hroom (by simp [ints, hs1]; omega)
  have hxv : x.v = .slice (some ad) ys.length x.c := by rw [Slc.v, hA, hx.n]
  have hsv : s.v = .slice (some ⟨b, 0, none⟩) l.length s.c := by rw [Slc.v, hs.A, hs.n]
  unfold semS
  rw [Sem.wp_iff_run, hxv, hsv, hr]
  refine ⟨⟨some ⟨b, 0, none⟩, l.length + ys.length, s.c⟩, rfl, hk _ _ rfl ⟨by simp, sp.drop ys.length, by simp; omega, ?_⟩ fun w0 ha hb => Below.trans ha ⟨rfl, rfl, rfl, by simp [World.setRow], fun k hk => setRow_other w b k _ (by omega)⟩⟩
  rw [setRow_heap w b _ _ e (0, 0) hh]
  simp [hs1, ints]
  rw [List.drop_append]
  simp
end
end Sp
namespace Ref
open _root_.Go.Proofs.Ytfdajpjiengihaa.Nat (ldN ldNf stN mkN cutHi cutCap Fill mkF stF Num)

/-- The slice reads as the number's digits of 32 bits. -/
def RN (w : World) (s : Slc) (n : Nat) : Prop := Rd .u64 w s (nn (digs B32 n))
theorem RN.ahead {w w' : World} {s : Slc} {n : Nat} (h : RN w s n) (ha : Ahead w w') : RN w' s n := Rd.ahead h ha
theorem RN.n {w : World} {s : Slc} {n : Nat} (h : RN w s n) : s.n = (digs B32 n).length := by rw [Rd.n h, nn_length]
theorem RN.nil {w : World} {A : Option Addr} {c : Nat} : RN w ⟨A, 0, c⟩ 0 := by unfold RN; rw [digs_zero]; exact Rd.nil

theorem norm_specA {w : World} {s : Slc} {l : List Nat} (h : Rd .u64 w s (nn l)) (hl : l.length ≤ 2 ^ 46) (hok : ok B32 l) :
    Calls pr surdref01_norm_id #[s.v] w fun e w' => w' = w ∧ ∃ s', e = .returned (Slc.v s') ∧ RN w s' (val B32 l) ∧ s'.A = s.A := by
  have hn : s.n = l.length := by rw [h.n, nn_length]
  have hc := h.c
  refine surdref01_norm_vc s w _ (fun t n w' => w' = w ∧ t = s ∧ ∃ m : Nat, n = (m : Int) ∧ m ≤ l.length ∧ ∀ i, m ≤ i → i < l.length → l.getD i 0 = 0) (fun _ n _ => n.toNat)
    ⟨rfl, rfl, s.n, rfl, by omega, fun i h1 h2 => by omega⟩ ?_
  rintro t n w' ⟨rfl, rfl, m, rfl, hm, hz⟩
  have fin : (m = 0 ∨ l.getD (m - 1) 0 ≠ 0) → semS pr (Instr.sliceAt 40 t.v none (some (Value.int .i64 (m : Int))) (some (Value.int .i64 (m : Int)))) w' fun s2 w3 =>
      w3 = w' ∧ ∃ s', Ending.returned s2.v = .returned (Slc.v s') ∧ RN w' s' (val B32 l) ∧ s'.A = t.A := by
    intro hlast
    refine cutCap (by omega) (by omega) ?_
    refine ⟨rfl, _, rfl, ?_, rfl⟩
    unfold RN
    rw [digs_take two32 hok hm hz hlast, ← nn_take]
    simp only [Int.toNat_natCast]
    exact h.take (by simpa using hm) (Nat.le_refl _)
  refine br_intro (fun hp => ?_) (fun hp => ?_)
  · have hp' : 0 < m := by simp at hp; omega
    rw [wrap_i64 (x := (m : Int) - 1) (by omega) (by omega)]
    refine ldN h (by omega) (by omega) ?_
    have e2 : ((m : Int) - 1).toNat = m - 1 := by omega
    rw [e2]
    refine br_intro (fun hx => ?_) (fun hx => ?_)
    · refine ⟨⟨rfl, rfl, m - 1, by omega, by omega, fun i h1 h2 => ?_⟩, by omega⟩
      by_cases hi : i = m - 1
      · subst hi; simpa using hx
      · exact hz i (by omega) h2
    · exact fin (.inr (by simpa using hx))
  · exact fin (.inl (by simp at hp; omega))
theorem norm_spec {w : World} {s : Slc} {l : List Nat} (h : Rd .u64 w s (nn l)) (hl : l.length ≤ 2 ^ 46) (hok : ok B32 l) :
    Calls pr surdref01_norm_id #[s.v] w fun e w' => w' = w ∧ ∃ s', e = .returned (Slc.v s') ∧ RN w s' (val B32 l) :=
  Calls.mono (norm_specA h hl hok) fun e w' ⟨h1, s', h2, h3, _⟩ => ⟨h1, s', h2, h3⟩

theorem at_spec {w : World} {s : Slc} {l : List Nat} (h : Rd .u64 w s (nn l)) {i : Int} (h0 : 0 ≤ i) :
    Calls pr surdref01_Num_at_id #[s.v, .int .i64 i] w fun e w' => w' = w ∧ e = .returned (.int .u64 (l.getD i.toNat 0 : Nat)) := by
  have hn : s.n = l.length := by rw [h.n, nn_length]
  refine surdref01_Num_at_vc s i w _ (br_intro (fun hlt => ?_) (fun hge => ?_))
  · have hlt' : i < l.length := by simp at hlt; omega
    exact ldN h h0 hlt' ⟨rfl, rfl⟩
  · refine ⟨rfl, ?_⟩
    rw [getD_ge l 0 (by simp at hge; omega)]; rfl

/-- A base 2^32: the limbs' list as digits. -/
def split32 : List Nat → List Nat
  | [] => []
  | x :: l => x % B32 :: x / B32 :: split32 l
theorem split32_append (l m : List Nat) : split32 (l ++ m) = split32 l ++ split32 m := by
  induction l with
  | nil => rfl
  | cons x l ih => simp [split32, ih]
theorem split32_length (l : List Nat) : (split32 l).length = 2 * l.length := by
  induction l with
  | nil => rfl
  | cons x l ih => simp [split32, ih]; omega
theorem split32_ok {l : List Nat} (h : ok B64 l) : ok B32 (split32 l) := by
  have hB := B64v
  induction l with
  | nil => exact ok_nil
  | cons x l ih =>
    obtain ⟨h1, h2⟩ := ok_cons.1 h
    exact ok_cons.2 ⟨by simp only [B32v]; omega, ok_cons.2 ⟨by simp only [B32v]; omega, ih h2⟩⟩
theorem split32_val (l : List Nat) : val B32 (split32 l) = val B64 l := by
  have h64 : B64 = B32 * B32 := by decide
  induction l with
  | nil => rfl
  | cons x l ih =>
    show x % B32 + B32 * (x / B32 + B32 * val B32 (split32 l)) = x + B64 * val B64 l
    rw [ih, Nat.mul_add, ← Nat.mul_assoc, ← h64, ← Nat.add_assoc, Nat.mod_add_div]

theorem Of_spec {w : World} {s : Slc} {l : List Nat} (h : Rd .u64 w s (nn l)) (hl : l.length * 8 ≤ 140737488351232) (hok : ok B64 l) :
    Calls pr surdref01_Of_id #[s.v] w fun e w' => Ahead w w' ∧ ∃ s', e = .returned (Slc.v s') ∧ RN w' s' (val B64 l) := by
  have hB := B64v
  have hB32 := B32v
  have hn : s.n = l.length := by rw [h.n, nn_length]
  refine surdref01_Of_vc s w _ (fun out t10 n i w' => t10 = s ∧ n = (l.length : Int) ∧ Ahead w w' ∧ ∃ (j b : Nat), i = (j : Int) ∧ j ≤ l.length ∧ w.heap.size ≤ b ∧ out.c = 2 * l.length ∧
    Own .u64 tU64 w' out (nn (split32 (l.take j))) b) (fun _ _ n i _ => (n - i).toNat) ?_ ?_
  · rw [hn, wrap_i64 (by omega) (by omega)]
    refine mk (e := tU64) (k := .u64) (by kernel_rfl) (Int.le_refl 0) (by omega) (by omega) ?_
    intro s' w' hc ho ha hs
    exact ⟨rfl, rfl, ha, 0, w.heap.size, rfl, Nat.zero_le _, Nat.le_refl _, by rw [hc]; omega, ho⟩
  · rintro out t10 n i w1 ⟨rfl, rfl, ha, j, b, rfl, hj, hb, hoc, ho⟩
    refine br_intro (fun hlt => ?_) (fun hge => ?_)
    · have hj' : j < l.length := by simpa using hlt
      refine ldN (h.ahead ha) (by omega) (by omega) ?_
      have hx := ok_getD hok (by omega : 0 < B64) j
      simp only [Int.toNat_natCast]
      generalize hxe : l.getD j 0 = x at *
      have e1 : Int.tmod (x : Int) 4294967296 = ((x % B32 : Nat) : Int) := by rw [B32v, Int.tmod_eq_emod_of_nonneg (by omega)]; omega
      have e2 : IntKind.u64.wrap (Int.tdiv (x : Int) 4294967296) = ((x / B32 : Nat) : Int) := by
        have : Int.tdiv (x : Int) 4294967296 = ((x / 4294967296 : Nat) : Int) := by rw [Int.tdiv_eq_ediv_of_nonneg (by omega)]; omega
        rw [B32v, this, wrap_u64' (by omega) (by omega)]
      rw [e1, e2]
      have hal := Ahead.alloc w1 (.cells #[Value.int .u64 ((x % B32 : Nat) : Int), Value.int .u64 ((x / B32 : Nat) : Int)] tU64 (0, 0))
      have hlit : Rd .u64 (w1.alloc (.cells #[Value.int .u64 ((x % B32 : Nat) : Int), Value.int .u64 ((x / B32 : Nat) : Int)] tU64 (0, 0))) ⟨some ⟨w1.heap.size, 0, none⟩, 2, 2⟩ (nn [x % B32, x / B32]) :=
        Own.rd (t := tU64) (b := w1.heap.size) ⟨rfl, [], rfl, by rw [get_alloc]; rfl⟩
      refine appRoom (t := _) (e := tU64) (k := .u64) (by kernel_rfl) hlit (by simp) (ho.ahead hal) (by rw [hoc, nn_length, split32_length, nn_length]; simp; omega) ?_
      intro s' w4 hc' ho' hah
      have e8 : IntKind.i64.wrap ((j : Int) + 1) = ((j + 1 : Nat) : Int) := by rw [wrap_i64 (by omega) (by omega)]; omega
      refine ⟨⟨by trivial, by trivial, hah w (ha.trans hal) hb, j + 1, b, e8, hj', hb, by rw [hc', hoc], ?_⟩, by rw [e8]; omega⟩
      rw [List.take_succ_eq_append_getElem hj', split32_append, nn_append]
      have : l[j] = x := by rw [← hxe]; exact (getD_lt l 0 hj').symm
      rw [this]
      exact ho'
    · have hj' : j = l.length := by simp at hge; omega
      subst hj'
      rw [List.take_length] at ho
      refine Calls.mono (norm_spec ho.rd (by rw [split32_length]; omega) (split32_ok hok)) ?_
      rintro e w5 ⟨rfl, s', rfl, hr⟩
      rw [split32_val] at hr
      exact ⟨_, rfl, ha, _, rfl, hr⟩

end Ref
end Go.Proofs.Ytfdajpjiengihaa
namespace Go.Proofs.Ytfdajpjiengihaa
open Go Go.RowKit Eng Sp Dg
set_option linter.unusedVariables false
set_option linter.unusedSimpArgs false
set_option maxRecDepth 100000
namespace Ref
open _root_.Go.Proofs.Ytfdajpjiengihaa.Nat (ldN ldNf stN mkN cutHi cutCap Fill mkF stF Num OwnNil)

theorem Cmp_spec {w : World} {p q : Slc} {x y : Nat} (hp : RN w p x) (hq : RN w q y) (la : (digs B32 x).length ≤ 2 ^ 46) (lb : (digs B32 y).length ≤ 2 ^ 46) :
    Calls pr surdref01_Cmp_id #[p.v, q.v] w fun e w' => Ahead w w' ∧ e = .returned (.int .i64 (cmpI x y)) := by
  have hna := hp.n
  have hnb := hq.n
  refine surdref01_Cmp_vc p q w _ (fun s t i w' => Ahead w w' ∧ s = p ∧ t = q ∧ (digs B32 x).length = (digs B32 y).length ∧ ∃ m : Nat, i = (m : Int) - 1 ∧ m ≤ (digs B32 x).length ∧ (digs B32 x).drop m = (digs B32 y).drop m) (fun _ _ i _ => (i + 1).toNat) ?_ ?_
  · refine br_intro (fun hne => ?_) (fun heq => ?_)
    · refine br_intro (fun hlt => ?_) (fun hlt => ?_)
      · refine ⟨Ahead.refl _, ?_⟩
        have := digs_len_lt two32 (m := x) (n := y) (by simp at hlt; omega)
        rw [cmpI, if_pos this]
      · refine ⟨Ahead.refl _, ?_⟩
        have := digs_len_lt two32 (m := y) (n := x) (by simp at hlt hne; omega)
        rw [cmpI, if_neg (by omega), if_pos this]
    · have heq' : p.n = q.n := by simp at heq; omega
      refine ⟨Ahead.refl _, rfl, rfl, by omega, p.n, wrap_i64 (by omega) (by omega), by omega, ?_⟩
      rw [List.drop_eq_nil_of_le (by omega), List.drop_eq_nil_of_le (by omega)]
  · rintro s t i w' ⟨ha, rfl, rfl, hl, m, rfl, hm, hdr⟩
    have hs := hp.ahead ha
    have ht := hq.ahead ha
    refine br_intro (fun h0 => ?_) (fun h0 => ?_)
    · have hm1 : 1 ≤ m := by simp at h0; omega
      have e2 : ((m : Int) - 1).toNat = m - 1 := by omega
      refine ldNf hs (by omega) (by omega) ?_
      refine ldNf ht (by omega) (by omega) ?_
      intro w3 ha3
      rw [e2]
      have hdr' : (digs B32 x).drop (m - 1 + 1) = (digs B32 y).drop (m - 1 + 1) := by rw [Nat.sub_add_cancel hm1]; exact hdr
      refine br_intro (fun hlt => ?_) (fun hlt => ?_)
      · refine ⟨ha.trans ha3, ?_⟩
        have := val_lt_top (ok_digs two32 x) (by omega) (by omega) hdr' (by simpa using hlt)
        rw [val_digs two32, val_digs two32] at this
        rw [cmpI, if_pos this]
      · refine ldNf (hs.ahead ha3) (by omega) (by omega) ?_
        refine ldNf (ht.ahead ha3) (by omega) (by omega) ?_
        intro w4 ha4
        rw [e2]
        refine br_intro (fun hgt => ?_) (fun hgt => ?_)
        · refine ⟨(ha.trans ha3).trans ha4, ?_⟩
          have := val_lt_top (ok_digs two32 y) (by omega) (by omega) hdr'.symm (by simpa using hgt)
          rw [val_digs two32, val_digs two32] at this
          rw [cmpI, if_neg (by omega), if_pos this]
        · have e3 : IntKind.i64.wrap ((m : Int) - 1 - 1) = ((m - 1 : Nat) : Int) - 1 := by rw [wrap_i64 (by omega) (by omega)]; omega
          refine ⟨⟨(ha.trans ha3).trans ha4, rfl, rfl, hl, m - 1, e3, by omega, ?_⟩, by rw [e3]; omega⟩
          have heq : (digs B32 x).getD (m - 1) 0 = (digs B32 y).getD (m - 1) 0 := by
            simp only [decide_eq_false_iff_not] at hlt hgt; omega
          have l1 : m - 1 < (digs B32 x).length := by omega
          have l2 : m - 1 < (digs B32 y).length := by omega
          rw [List.drop_eq_getElem_cons l1, List.drop_eq_getElem_cons l2, hdr', ← getD_lt _ 0 l1, ← getD_lt _ 0 l2, heq]
    · have hm0 : m = 0 := by simp at h0; omega
      subst hm0
      refine ⟨ha, ?_⟩
      have := digs_inj two32 (m := x) (n := y) (by simpa using hdr)
      rw [this, cmpI, if_neg (by omega), if_neg (by omega)]

theorem digs_lt_iff {B n j : Nat} (hB : 2 ≤ B) : j < (digs B n).length ↔ B ^ j ≤ n := by
  by_cases hn : n = 0
  · subst hn
    rw [digs_zero]
    have : 0 < B ^ j := Nat.pow_pos (by omega)
    simp; omega
  · obtain ⟨h1, h2⟩ := digs_length_bounds hB hn
    constructor
    · intro h
      exact Nat.le_trans (Nat.pow_le_pow_right (by omega) (by omega)) h1
    · intro h
      exact (Nat.pow_lt_pow_iff_right (by omega)).1 (Nat.lt_of_le_of_lt h h2)
theorem b64_sq (j : Nat) : B64 ^ j = B32 ^ (2 * j) := by rw [show B64 = B32 ^ 2 by decide, ← Nat.pow_mul]
theorem digs_64_32 {n j : Nat} : j < (digs B64 n).length ↔ 2 * j < (digs B32 n).length := by
  rw [digs_lt_iff two64, digs_lt_iff two32, b64_sq]
theorem limb_eq (n j : Nat) : (digs B64 n).getD j 0 = (digs B32 n).getD (2 * j) 0 + (digs B32 n).getD (2 * j + 1) 0 * B32 := by
  rw [digit (by have := B64v; omega) _ (ok_digs two64 n), digit (by have := B32v; omega) _ (ok_digs two32 n), digit (by have := B32v; omega) _ (ok_digs two32 n), val_digs two64, val_digs two32, b64_sq, Nat.pow_succ, ← Nat.div_div_eq_div_mul]
  generalize n / B32 ^ (2 * j) = U
  rw [show B64 = B32 * B32 by decide, Nat.mod_mul, Nat.mul_comm B32]

theorem Limbs_spec {w : World} {s : Slc} {n : Nat} (h : RN w s n) (hl : (digs B64 n).length ≤ 2 ^ 44) :
    Calls pr surdref01_Num_Limbs_id #[s.v] w fun e w' => Ahead w w' ∧ ∃ s', e = .returned (Slc.v s') ∧ OwnNil w.heap.size w' s' (digs B64 n) := by
  have hB := B64v
  have hB32 := B32v
  have hn := h.n
  have hok := ok_digs two32 n
  have hbnd : (digs B32 n).length ≤ 2 ^ 45 := by
    rcases Nat.lt_or_ge (2 ^ 45) (digs B32 n).length with h1 | h1
    · have := digs_64_32 (n := n) (j := 2 ^ 44)
      omega
    · exact h1
  refine surdref01_Num_Limbs_vc s w _ (fun t out i w' => t = s ∧ Ahead w w' ∧ ∃ j : Nat, i = 2 * (j : Int) ∧ j ≤ (digs B64 n).length ∧ OwnNil w.heap.size w' out ((digs B64 n).take j)) (fun _ _ i _ => (2 * ((digs B64 n).length : Int) - i).toNat)
    ⟨rfl, Ahead.refl _, 0, rfl, Nat.zero_le _, OwnNil.nil⟩ ?_
  rintro t out i w1 ⟨rfl, ha, j, rfl, hj, ho⟩
  have hiff := digs_64_32 (n := n) (j := j)
  refine br_intro (fun hlt => ?_) (fun hge => ?_)
  · have hj' : 2 * j < (digs B32 n).length := by simp at hlt; omega
    have hjj := hiff.2 hj'
    have hlimb := limb_eq n j
    have hx := ok_getD hok (by omega : 0 < B32) (2 * j)
    have hy := ok_getD hok (by omega : 0 < B32) (2 * j + 1)
    have hL := ok_getD (ok_digs two64 n) (by omega : 0 < B64) j
    have e8 : IntKind.i64.wrap (2 * (j : Int) + 2) = 2 * ((j + 1 : Nat) : Int) := by rw [wrap_i64 (by omega) (by omega)]; omega
    have e9 : IntKind.i64.wrap (2 * (j : Int) + 1) = ((2 * j + 1 : Nat) : Int) := by rw [wrap_i64 (by omega) (by omega)]; omega
    have ei : (2 * (j : Int)).toNat = 2 * j := by omega
    have step : ∀ (T : TypeId) (hT : isSl pr T .u64 = some tU64) (v : Nat), v = (digs B64 n).getD j 0 → newC w1 #[Value.int .u64 (v : Int)] tU64 fun ad3 w3 =>
        semS pr (Builtin.append_ #[T, T] T #[out.v, (⟨some ad3, 1, 1⟩ : Slc).v]) w3 fun s1 w4 =>
        (t = t ∧ Ahead w w4 ∧ ∃ j' : Nat, IntKind.i64.wrap (2 * (j : Int) + 2) = 2 * (j' : Int) ∧ j' ≤ (digs B64 n).length ∧ OwnNil w.heap.size w4 s1 ((digs B64 n).take j')) ∧
        (2 * ((digs B64 n).length : Int) - IntKind.i64.wrap (2 * (j : Int) + 2)).toNat < (2 * ((digs B64 n).length : Int) - 2 * (j : Int)).toNat := by
      rintro T hT v rfl
      have hal := Ahead.alloc w1 (.cells #[Value.int .u64 (((digs B64 n).getD j 0 : Nat) : Int)] tU64 (0, 0))
      have hlit : Rd .u64 (w1.alloc (.cells #[Value.int .u64 (((digs B64 n).getD j 0 : Nat) : Int)] tU64 (0, 0))) ⟨some ⟨w1.heap.size, 0, none⟩, 1, 1⟩ (nn [(digs B64 n).getD j 0]) :=
        Own.rd (t := tU64) (b := w1.heap.size) ⟨rfl, [], rfl, by rw [get_alloc]; rfl⟩
      refine app (t := _) (e := tU64) (k := .u64) (l := nn ((digs B64 n).take j)) (base := w.heap.size) hT hlit (by simp)
        ((ho.ahead hal).imp (fun h => ⟨h.1, by rw [h.2]; rfl⟩) id) (ha.trans hal).size (by simp; omega) ?_
      intro s' w5 b' hb' hc' hown hbel hah
      refine ⟨⟨rfl, ?_, j + 1, e8, hjj, .inr ⟨b', hb', hc', ?_⟩⟩, by rw [e8]; omega⟩
      · refine hah w (ha.trans hal) fun b hb => ?_
        rcases ho with ⟨rfl, _⟩ | ⟨b2, h1, _, h3⟩
        · simp at hb
        · rw [h3.A] at hb; simp at hb; omega
      · rw [List.take_succ_eq_append_getElem hjj, nn_append, ← getD_lt _ 0 hjj]
        exact hown
    refine ldN (h.ahead ha) (by omega) (by omega) ?_
    rw [ei]
    refine br_intro (fun hin => ?_) (fun hin => ?_)
    · have hin' : 2 * j + 1 < (digs B32 n).length := by rw [e9] at hin; simp at hin; omega
      rw [e9]
      refine ldN (h.ahead ha) (by omega) (by omega) ?_
      rw [Int.toNat_natCast]
      have ev : IntKind.u64.wrap ((((digs B32 n).getD (2 * j) 0 : Nat) : Int) + IntKind.u64.wrap ((((digs B32 n).getD (2 * j + 1) 0 : Nat) : Int) * 4294967296)) = (((digs B64 n).getD j 0 : Nat) : Int) := by
        rw [hlimb]
        generalize (digs B32 n).getD (2 * j) 0 = a at *
        generalize (digs B32 n).getD (2 * j + 1) 0 = b at *
        rw [hB32] at *
        rw [wrap_u64' (x := (b : Int) * 4294967296) (by omega) (by omega), wrap_u64' (by omega) (by omega)]
        omega
      rw [ev]
      exact step _ (by kernel_rfl) _ rfl
    · have hin' : (digs B32 n).length ≤ 2 * j + 1 := by rw [e9] at hin; simp at hin; omega
      refine step _ (by kernel_rfl) _ ?_
      rw [hlimb, getD_ge _ 0 hin', Nat.zero_mul, Nat.add_zero]
  · have hj' : j = (digs B64 n).length := by
      have : ¬ 2 * j < (digs B32 n).length := by simp at hge; omega
      have := mt hiff.1 this
      omega
    subst hj'
    rw [List.take_length] at ho
    exact ⟨ha, _, rfl, ho⟩

theorem Is_spec {w : World} {s t : Slc} {n : Nat} (h : RN w s n) (ht : Rd .u64 w t (nn (digs B64 n))) (hl : (digs B64 n).length ≤ 2 ^ 44) :
    Calls pr surdref01_Num_Is_id #[s.v, t.v] w fun e w' => Ahead w w' ∧ e = .returned (.bool true) := by
  have htn : t.n = (digs B64 n).length := by rw [ht.n, nn_length]
  refine surdref01_Num_Is_vc s t w _ (fun p q m i w' => p = t ∧ m = ((digs B64 n).length : Int) ∧ Ahead w w' ∧ Rd .u64 w' q (nn (digs B64 n)) ∧ ∃ j : Nat, i = (j : Int) ∧ j ≤ (digs B64 n).length) (fun _ _ m i _ => (m - i).toNat) ?_ ?_
  · refine Calls.mono (Limbs_spec h hl) ?_
    rintro e w1 ⟨ha, s', rfl, ho⟩
    have hr := ho.rd
    have hn' : s'.n = (digs B64 n).length := by rw [hr.n, nn_length]
    exact ⟨_, rfl, br_false (by rw [hn', htn]; simp) ⟨rfl, by rw [hn'], ha, hr, 0, rfl, Nat.zero_le _⟩⟩
  · rintro p q m i w1 ⟨rfl, rfl, ha, hr, j, rfl, hj⟩
    refine br_intro (fun hlt => ?_) (fun hge => ?_)
    · have hj' : j < (digs B64 n).length := by simp at hlt; omega
      refine ldNf hr (by omega) (by omega) ?_
      refine ldNf (ht.ahead ha) (by omega) (by omega) ?_
      intro w2 ha2
      have e8 : IntKind.i64.wrap ((j : Int) + 1) = ((j + 1 : Nat) : Int) := by rw [wrap_i64 (by omega) (by omega)]; omega
      exact br_false (by simp) ⟨⟨rfl, rfl, ha.trans ha2, hr.ahead ha2, j + 1, e8, hj'⟩, by rw [e8]; omega⟩
    · exact ⟨ha, rfl⟩

theorem Fill.normN {w0 w : World} {c : Slc} {l : List Nat} {S : World → Prop} (h : Fill w0 w c l S) (hl : l.length ≤ 2 ^ 46) (hok : ok B32 l) :
    Calls pr surdref01_norm_id #[c.v] w fun e w' => w' = w ∧ ∃ s', e = .returned (Slc.v s') ∧ RN w s' (val B32 l) ∧ ∀ ad, s'.A = some ad → w0.heap.size ≤ ad.block :=
  Calls.mono (norm_specA h.rd hl hok) fun e w' ⟨h1, s', h2, h3, hA⟩ => ⟨h1, s', h2, h3, fun ad had => by
    rw [hA] at had
    obtain ⟨b, _, ho, _, hb, _⟩ := h
    rw [ho.A] at had
    obtain rfl := Option.some.inj had
    exact hb⟩

theorem Add_specN {w : World} {p q : Slc} {x y : Nat} (hp : RN w p x) (hq : RN w q y) (la : (digs B32 x).length + 1 ≤ 2 ^ 45) (lb : (digs B32 y).length + 1 ≤ 2 ^ 45) :
    Calls pr surdref01_Add_id #[p.v, q.v] w fun e w' => Ahead w w' ∧ ∃ s', e = .returned (Slc.v s') ∧ RN w' s' (x + y) ∧ ∀ ad, s'.A = some ad → w.heap.size ≤ ad.block := by
  have hB32 := B32v
  have hna := hp.n
  have hnb := hq.n
  have oa := ok_digs two32 x
  have ob := ok_digs two32 y
  have vx := val_digs two32 x
  have vy := val_digs two32 y
  unfold RN at hp hq
  generalize digs B32 x = A at *
  generalize digs B32 y = C at *
  refine surdref01_Add_vc p q w _ (fun s t n out k i w' => s = p ∧ t = q ∧ ∃ (m : Nat) (l : List Nat) (j cr : Nat), n = (m : Int) ∧ A.length ≤ m ∧ C.length ≤ m ∧ m + 1 ≤ 2 ^ 45 ∧ k = (cr : Int) ∧ cr ≤ 1 ∧ i = (j : Int) ∧ j ≤ m + 1 ∧
    Fill w w' out l (fun _ => True) ∧ l.length = m + 1 ∧ ok B32 l ∧ val B32 (l.take j) + cr * B32 ^ j = val B32 (A.take j) + val B32 (C.take j)) (fun _ _ n _ _ i _ => (n + 1 - i).toNat) ?_ ?_
  · refine br_intro (fun hlt => ?_) (fun hlt => ?_)
    · rw [wrap_i64 (x := (q.n : Int) + 1) (by omega) (by omega)]
      refine mkF (S := fun _ => True) (w0 := w) (by omega) (by omega) (Ahead.refl _) trivial ?_
      intro s w1 hsn hf ha
      refine ⟨rfl, rfl, q.n, _, 0, 0, rfl, by simp at hlt; omega, by omega, by omega, rfl, by omega, rfl, Nat.zero_le _, hf, by rw [List.length_replicate]; omega, ok_replicate (by omega) _, by simp [val]⟩
    · rw [wrap_i64 (x := (p.n : Int) + 1) (by omega) (by omega)]
      refine mkF (S := fun _ => True) (w0 := w) (by omega) (by omega) (Ahead.refl _) trivial ?_
      intro s w1 hsn hf ha
      refine ⟨rfl, rfl, p.n, _, 0, 0, rfl, by omega, by simp at hlt; omega, by omega, rfl, by omega, rfl, Nat.zero_le _, hf, by rw [List.length_replicate]; omega, ok_replicate (by omega) _, by simp [val]⟩
  · rintro s t n out k i w1 ⟨rfl, rfl, m, l, j, cr, rfl, hA, hC, hm, rfl, hcr, rfl, hj, hf, hl, ol, hv⟩
    refine br_intro (fun hlt => ?_) (fun hge => ?_)
    · have hj' : j < m + 1 := by simp at hlt; omega
      refine Calls.mono (at_spec (hp.ahead hf.base) (by omega)) ?_
      rintro e w2 ⟨rfl, rfl⟩
      refine ⟨_, rfl, Calls.mono (at_spec (hq.ahead hf.base) (by omega)) ?_⟩
      rintro e w3 ⟨rfl, rfl⟩
      refine ⟨_, rfl, ?_⟩
      simp only [Int.toNat_natCast]
      have hx := ok_getD oa (by omega : 0 < B32) j
      have hy := ok_getD ob (by omega : 0 < B32) j
      have e8 : IntKind.i64.wrap ((j : Int) + 1) = ((j + 1 : Nat) : Int) := by rw [wrap_i64 (by omega) (by omega)]; omega
      have t1 := val_take_succ' A j (B := B32)
      have t2 := val_take_succ' C j (B := B32)
      generalize A.getD j 0 = a at *
      generalize C.getD j 0 = c at *
      have e1 : IntKind.u64.wrap (IntKind.u64.wrap ((a : Int) + (c : Int)) + (cr : Int)) = ((a + c + cr : Nat) : Int) := by
        rw [wrap_u64' (x := (a : Int) + c) (by omega) (by omega), wrap_u64' (by omega) (by omega)]; omega
      have e2 : Int.tmod ((a + c + cr : Nat) : Int) 4294967296 = (((a + c + cr) % B32 : Nat) : Int) := by rw [Int.tmod_eq_emod_of_nonneg (by omega), hB32]; omega
      have e3 : IntKind.u64.wrap (Int.tdiv ((a + c + cr : Nat) : Int) 4294967296) = (((a + c + cr) / B32 : Nat) : Int) := by
        have : Int.tdiv ((a + c + cr : Nat) : Int) 4294967296 = (((a + c + cr) / 4294967296 : Nat) : Int) := by rw [Int.tdiv_eq_ediv_of_nonneg (by omega)]; omega
        rw [this, wrap_u64' (by omega) (by omega), hB32]
      rw [e1, e2, e3]
      refine stF hf (by omega) (by omega) ?_
      intro w5 hf5
      simp only [Int.toNat_natCast] at hf5
      refine ⟨⟨by trivial, by trivial, m, _, j + 1, (a + c + cr) / B32, rfl, hA, hC, hm, rfl, ?_, e8, hj', hf5, by simpa using hl, ok_set ol (Nat.mod_lt _ (by omega)), ?_⟩, by rw [e8]; omega⟩
      · rw [hB32]; omega
      · rw [val_take_set _ _ _ (by omega), t1, t2, Nat.pow_succ]
        exact add_step (by have := Nat.mod_add_div (a + c + cr) B32; omega) hv
    · have hj' : j = m + 1 := by simp at hge; omega
      subst hj'
      rw [val_take_all l (by omega), val_take_all A (by omega), val_take_all C (by omega), vx, vy] at hv
      have h1 : x < B32 ^ m := by rw [← vx]; exact Nat.lt_of_lt_of_le (val_lt oa) (Nat.pow_le_pow_right (by omega) hA)
      have h2 : y < B32 ^ m := by rw [← vy]; exact Nat.lt_of_lt_of_le (val_lt ob) (Nat.pow_le_pow_right (by omega) hC)
      have h3 : cr = 0 := by
        rcases Nat.lt_or_ge cr 1 with h | h
        · omega
        · have hc1 : cr = 1 := by omega
          subst hc1
          have : 2 * B32 ^ m ≤ B32 ^ (m + 1) := by rw [Nat.pow_succ, Nat.mul_comm]; exact Nat.mul_le_mul_left _ (by omega)
          omega
      subst h3
      have hv' : val B32 l = x + y := by omega
      refine Calls.mono (Fill.normN hf (by omega) ol) ?_
      rintro e w6 ⟨rfl, s', rfl, hr, hA⟩
      rw [hv'] at hr
      exact ⟨_, rfl, hf.base, _, rfl, hr, hA⟩
theorem Add_spec {w : World} {p q : Slc} {x y : Nat} (hp : RN w p x) (hq : RN w q y) (la : (digs B32 x).length + 1 ≤ 2 ^ 45) (lb : (digs B32 y).length + 1 ≤ 2 ^ 45) :
    Calls pr surdref01_Add_id #[p.v, q.v] w fun e w' => Ahead w w' ∧ ∃ s', e = .returned (Slc.v s') ∧ RN w' s' (x + y) :=
  Calls.mono (Add_specN hp hq la lb) fun e w' ⟨h1, s', h2, h3, _⟩ => ⟨h1, s', h2, h3⟩

end Ref
end Go.Proofs.Ytfdajpjiengihaa
namespace Go.Proofs.Ytfdajpjiengihaa
open Go Go.RowKit Eng Sp Dg
set_option linter.unusedVariables false
set_option linter.unusedSimpArgs false
set_option maxRecDepth 100000
namespace Ref
open _root_.Go.Proofs.Ytfdajpjiengihaa.Nat (ldN ldNf stN mkN cutHi cutCap Fill mkF stF Num OwnNil semShl semShr)

def A5 : Nat := 10855845
def lent (l : List Nat) : List Nat := A5 :: A5 :: (l ++ [A5, A5])

/-- What Lend hands out: the whole row, and the part in its middle. -/
def Lent (base : Nat) (w : World) (s t : Slc) (l : List Nat) : Prop :=
  ∃ b, base ≤ b ∧ s.c = l.length + 4 ∧ Own .u64 tU64 w s (nn (lent l)) b ∧ t = ⟨some ⟨b, 2, none⟩, l.length, l.length + 2⟩
theorem Lent.ahead {base : Nat} {w w' : World} {s t : Slc} {l : List Nat} (h : Lent base w s t l) (ha : Ahead w w') : Lent base w' s t l := by
  obtain ⟨b, h1, h2, h3, h4⟩ := h
  exact ⟨b, h1, h2, h3.ahead ha, h4⟩

end Ref
end Go.Proofs.Ytfdajpjiengihaa
namespace Go.Proofs.Ytfdajpjiengihaa
open Go Go.RowKit Eng Sp Dg
set_option linter.unusedVariables false
set_option linter.unusedSimpArgs false
set_option maxRecDepth 100000
namespace Nat

/-- A law's answer. -/
def Yes (w : World) (e : Ending) (w' : World) : Prop := e = .returned (.bool true) ∧ Ahead w w'

/-- A literal's slice of one limb. -/
theorem one_rd (w : World) (x : Nat) : Rd .u64 (w.alloc (.cells #[.int .u64 (x : Int)] tU64 (0, 0))) ⟨some ⟨w.heap.size, 0, none⟩, 1, 1⟩ (nn [x]) :=
  Own.rd (t := tU64) (b := w.heap.size) ⟨rfl, [], rfl, by rw [get_alloc]; rfl⟩

end Nat
end Go.Proofs.Ytfdajpjiengihaa
namespace Go.Proofs.Ytfdajpjiengihaa
open Go Go.RowKit Eng Sp Dg
set_option linter.unusedVariables false
set_option linter.unusedSimpArgs false
set_option maxRecDepth 100000
namespace Mul
open _root_.Go.Proofs.Ytfdajpjiengihaa.Nat (ldN ldNf stN mkN Num OwnNil len_le Norm_spec Length_spec Ret bigC bigC_ok own_num digs_len_bl Yes)

theorem fits_spec {w : World} {s : Slc} {l : List Nat} (h : Rd .u64 w s (nn l)) (hl : l.length ≤ 2 ^ 44) (ol : ok B64 l) : Calls pr mul_fits_id #[s.v] w (Ret w (bigC (val B64 l)) (val B64 l)) := by
  have hd := len_le ol
  refine mul_fits_vc s w _ (Calls.mono (Norm_spec h hl ol) ?_)
  rintro e w1 ⟨h1, t, rfl, ho⟩
  refine ⟨_, rfl, Calls.mono (Length_spec ho.rd (by omega) (ok_digs two64 _)) ?_⟩
  rintro e w2 ⟨rfl, rfl⟩
  rw [val_digs two64]
  refine ⟨_, rfl, br_intro (fun hb => ?_) (fun hb => ?_)⟩
  · have hc : bigC (val B64 l) = 3 := by rw [bigC, if_neg (by simp at hb; omega)]
    rw [hc]
    exact ⟨h1, _, rfl, by rw [if_neg (by omega)]; exact OwnNil.nil⟩
  · have hc : bigC (val B64 l) = 0 := by rw [bigC, if_pos (by simp at hb; omega)]
    rw [hc]
    exact ⟨h1, _, rfl, by rw [if_pos rfl]; exact ho⟩

theorem bl_mul {x y : Nat} (hx : x ≠ 0) (hy : y ≠ 0) : bl x + bl y - 1 ≤ bl (x * y) := by
  have h1 := (bl_bounds hx).1
  have h2 := (bl_bounds hy).1
  have p1 := bl_pos hx
  have p2 := bl_pos hy
  have h3 := Nat.mul_le_mul h1 h2
  rw [← Nat.pow_add] at h3
  rcases Nat.lt_or_ge (bl (x * y)) (bl x + bl y - 1) with h | h
  · exfalso
    have h4 := bl_le_iff.1 (show bl (x * y) ≤ bl x - 1 + (bl y - 1) by omega)
    omega
  · exact h

theorem great_spec {w : World} {a b : Slc} {x y : Nat} (ha : Num w a x) (hb : Num w b y) :
    Calls pr mul_great_id #[a.v, b.v] w fun e w' => w' = w ∧ ∃ c : Bool, e = .returned (.bool c) ∧ (c = true ↔ x ≠ 0 ∧ y ≠ 0 ∧ 67108864 < bl x + bl y - 1) := by
  have bx := ha.bl
  have by' := hb.bl
  refine mul_great_vc a b w _ (Calls.mono (Nat.len_num ha) ?_)
  rintro e w1 ⟨rfl, rfl⟩
  refine ⟨_, rfl, Calls.mono (Nat.len_num hb) ?_⟩
  rintro e w2 ⟨rfl, rfl⟩
  have zx : bl x = 0 ↔ x = 0 := ⟨fun h => by rcases Nat.eq_zero_or_pos x with h1 | h1; exact h1; have := bl_pos (n := x) (by omega); omega, fun h => by rw [h, bl_zero]⟩
  have zy : bl y = 0 ↔ y = 0 := ⟨fun h => by rcases Nat.eq_zero_or_pos y with h1 | h1; exact h1; have := bl_pos (n := y) (by omega); omega, fun h => by rw [h, bl_zero]⟩
  refine ⟨_, rfl, br_intro (fun h => br_intro (fun h' => ?_) (fun h' => ?_)) (fun h => ?_)⟩
  · have h1 : 0 < bl x := by simp at h; omega
    have h2 : 0 < bl y := by simp at h'; omega
    rw [wrap_i64 (x := (bl x : Int) + (bl y : Int)) (by omega) (by omega), wrap_i64 (by omega) (by omega)]
    refine ⟨rfl, _, rfl, ?_⟩
    simp only [decide_eq_true_eq]
    constructor
    · intro h3
      exact ⟨fun e => by have := zx.2 e; omega, fun e => by have := zy.2 e; omega, by omega⟩
    · rintro ⟨_, _, h3⟩
      omega
  · have h2 : bl y = 0 := by simp at h'; omega
    exact ⟨rfl, _, rfl, by simp [zy.1 h2]⟩
  · have h2 : bl x = 0 := by simp at h; omega
    exact ⟨rfl, _, rfl, by simp [zx.1 h2]⟩

theorem Mul_spec {w : World} {a b : Slc} {x y : Nat} (ha : Num w a x) (hb : Num w b y) (la : (digs B64 x).length + 16 ≤ 2 ^ 44) (lb : (digs B64 y).length + 16 ≤ 2 ^ 44) :
    Calls pr mul_Mul_id #[a.v, b.v] w (Ret w (bigC (x * y)) (x * y)) := by
  obtain ⟨l, ra, na, oa, rfl⟩ := ha
  obtain ⟨m, rb, nb, ob, rfl⟩ := hb
  refine mul_Mul_vc a b w _ ?_
  refine mul_product__mul_Mul_1_vc a b w _ (Calls.mono (Norm_spec ra na oa) ?_)
  rintro e w1 ⟨h1, s, rfl, os⟩
  refine ⟨_, rfl, Calls.mono (Norm_spec (rb.ahead h1) nb ob) ?_⟩
  rintro e w2 ⟨h2, t, rfl, ot⟩
  have h12 := h1.trans h2
  have rs := (os.ahead h2).rd
  have rt := ot.rd
  have ns : Num w2 s (val B64 l) := ⟨_, rs, by omega, ok_digs two64 _, val_digs two64 _⟩
  have nt : Num w2 t (val B64 m) := ⟨_, rt, by omega, ok_digs two64 _, val_digs two64 _⟩
  generalize val B64 l = x at *
  generalize val B64 m = y at *
  refine ⟨_, rfl, Calls.mono (great_spec ns nt) ?_⟩
  rintro e w3 ⟨rfl, c, rfl, hc⟩
  refine ⟨_, rfl, br_intro (fun h => ?_) (fun h => ?_)⟩
  · obtain ⟨h3, h4, h5⟩ := hc.1 h
    have := bl_mul h3 h4
    have hcc : bigC (x * y) = 3 := by rw [bigC, if_neg (by omega)]
    rw [hcc]
    exact ⟨_, _, rfl, h12, _, rfl, by rw [if_neg (by omega)]; exact OwnNil.nil⟩
  · have hsz : (digs B64 x).length + (digs B64 y).length + 16 ≤ 2 ^ 44 := by
      by_cases hx : x = 0
      · subst hx; rw [digs_zero]; simp; omega
      · by_cases hy : y = 0
        · subst hy; rw [digs_zero]; simp; omega
        · have hbl : bl x + bl y - 1 ≤ 67108864 := by
            rcases Nat.lt_or_ge 67108864 (bl x + bl y - 1) with h6 | h6
            · have := hc.2 ⟨hx, hy, h6⟩; rw [h] at this; cases this
            · exact h6
          have p1 := bl_pos hx
          have p2 := bl_pos hy
          have := digs_len_bl (N := x) (m := 2 ^ 21) (by omega)
          have := digs_len_bl (N := y) (m := 2 ^ 21) (by omega)
          omega
    refine mul_Mul_1_vc s t w3 _ (Calls.mono (halved_spec _ w3 s _ rs (ok_digs two64 x) t _ rt (ok_digs two64 y) 40 (by omega) (by omega) (by omega) (Nat.le_refl _)) ?_)
    rintro e w4 ⟨h4, u, L, rfl, ou, nu, ku, vu⟩
    rw [val_digs two64, val_digs two64] at vu
    refine ⟨_, rfl, _, rfl, Calls.mono (fits_spec ou.rd (by omega) ku) ?_⟩
    rw [vu]
    rintro e w5 ⟨h5, v, rfl, ov⟩
    have hsz := (h12.trans h4).size
    exact ⟨_, _, rfl, _, _, rfl, (h12.trans h4).trans h5, _, rfl, ov.mono hsz⟩

theorem num_spec {w : World} {c : Int} : Calls pr surdlaw02_num_id #[.int .i64 c] w fun e w' => w' = w ∧ e = .returned (.int .i64 c) :=
  surdlaw02_num_vc c w _ ⟨rfl, rfl⟩

theorem lit64 (w : World) (l : List Nat) : Rd .u64 (w.alloc (.cells (ints .u64 (nn l)).toArray tU64 (0, 0))) ⟨some ⟨w.heap.size, 0, none⟩, l.length, l.length⟩ (nn l) :=
  Own.rd (t := tU64) (b := w.heap.size) ⟨by simp, [], by simp, by rw [get_alloc]; simp⟩

theorem awake_spec (w : World) : Calls pr surdlaw02_awake_id #[] w (Yes w) := by
  have hB := B64v
  refine surdlaw02_awake_vc w _ ?_
  have r1 := lit64 w [0, 1]
  have a1 := Ahead.alloc w (.cells (ints .u64 (nn [0, 1])).toArray tU64 (0, 0))
  have r2 := lit64 (w.alloc (.cells (ints .u64 (nn [0, 1])).toArray tU64 (0, 0))) [7, 3]
  have a2 := Ahead.alloc (w.alloc (.cells (ints .u64 (nn [0, 1])).toArray tU64 (0, 0))) (.cells (ints .u64 (nn [7, 3])).toArray tU64 (0, 0))
  have ok2 : ∀ x y : Nat, x < 100 → y < 100 → ok B64 [x, y] := fun x y hx hy z hz => by simp at hz; omega
  have v1 : val B64 [0, 1] = B64 := by simp [val]
  have v2 : val B64 [7, 3] = 7 + B64 * 3 := by simp [val]
  have v3 : val B64 [0, 7, 3] = B64 * (7 + B64 * 3) := by simp [val]
  have n1 : Num _ _ B64 := ⟨[0, 1], r1.ahead a2, by simp, ok2 0 1 (by omega) (by omega), v1⟩
  have n2 : Num _ _ (7 + B64 * 3) := ⟨[7, 3], r2, by simp, ok2 7 3 (by omega) (by omega), v2⟩
  have hb1 : bl B64 ≤ 64 * 2 := bl_le (by rw [hB]; omega)
  have hb2 : bl (7 + B64 * 3) ≤ 64 * 2 := bl_le (by rw [hB]; omega)
  have hb3 : bl (B64 * (7 + B64 * 3)) ≤ 64 * 3 := bl_le (by rw [hB]; omega)
  have l1 := digs_len_bl hb1
  have l2 := digs_len_bl hb2
  have l3 := digs_len_bl hb3
  refine Calls.mono (Mul_spec n1 n2 (by omega) (by omega)) ?_
  intro e w3 hr
  have hcc : bigC (B64 * (7 + B64 * 3)) = 0 := bigC_ok (by omega)
  obtain ⟨h3, s, rfl, os, _⟩ := hr.num hcc (by omega)
  have h03 := (a1.trans a2).trans h3
  refine ⟨_, _, rfl, Calls.mono num_spec ?_⟩
  rintro e w4 ⟨rfl, rfl⟩
  refine ⟨_, rfl, br_true rfl ?_⟩
  have a5 := Ahead.alloc w4 (.cells (ints .u64 (nn [0, 7, 3])).toArray tU64 (0, 0))
  refine Calls.mono (Ref.Of_spec (lit64 w4 [0, 7, 3]) (by simp) (fun z hz => by simp at hz; omega)) ?_
  rintro e w6 ⟨h6, t, rfl, rt⟩
  rw [v3] at rt
  refine ⟨_, rfl, Calls.mono (Ref.Is_spec rt ((os.ahead a5).ahead h6).rd (by omega)) ?_⟩
  rintro e w7 ⟨h7, rfl⟩
  exact ⟨_, rfl, rfl, ((h03.trans a5).trans h6).trans h7⟩

theorem end_awake {w0 w : World} (ha : Ahead w0 w) : Calls pr surdlaw02_awake_id #[] w fun e w' => ∃ b : Bool, e = .returned (.bool b) ∧ Yes w0 (.returned (.bool b)) w' :=
  Calls.mono (awake_spec w) fun e w' ⟨he, h⟩ => ⟨true, he, rfl, ha.trans h⟩

end Mul
end Go.Proofs.Ytfdajpjiengihaa
namespace Go.Proofs.Ytfdajpjiengihaa
open Go Go.RowKit Eng Sp Dg
set_option linter.unusedVariables false
set_option linter.unusedSimpArgs false
set_option maxRecDepth 100000
namespace Ref
open _root_.Go.Proofs.Ytfdajpjiengihaa.Nat (ldN OwnNil)

/-- The slice's row lies in this block. -/
def Bk (s : Slc) (k : Nat) : Prop := s.A = some ⟨k, 0, none⟩

/-- The state of a call of Own: the lists lie apart, in memory from base on; their heads stand in the block ab. -/
structure St (V : Nat → Prop) (base : Nat) (w0 : World) (ab n : Nat) (w : World) (S : Nat → Slc) (L : Nat → List Nat) : Prop where
  low : Below base w0 w
  hab : base ≤ ab
  hsz : base ≤ w.heap.size
  row : w.heap[ab]? = some (.cells ((List.range n).map fun j => (S j).v).toArray tU64s (0, 0))
  own : ∀ j, j < n → OwnNil base w (S j) (L j)
  nab : ∀ j, j < n → ¬ Bk (S j) ab
  apart : ∀ i j k, i < n → j < n → i ≠ j → Bk (S i) k → ¬ Bk (S j) k
  keepV : ∀ k, k < w0.heap.size → ¬ V k → w.heap[k]? = w0.heap[k]?
  vab : V ab
  vbig : ∀ k, w0.heap.size ≤ k → V k
  vS : ∀ j k, j < n → Bk (S j) k → V k

theorem St.ablt {V : Nat → Prop} {base : Nat} {w0 : World} {ab n : Nat} {w : World} {S : Nat → Slc} {L : Nat → List Nat} (h : St V base w0 ab n w S L) : ab < w.heap.size := (Array.getElem?_eq_some_iff.1 h.row).1

theorem OwnNil.block {base : Nat} {w w' : World} {s : Slc} {l : List Nat} (h : OwnNil base w s l) (hb : ∀ k, k < w.heap.size → Bk s k → w'.heap[k]? = w.heap[k]?) : OwnNil base w' s l := by
  rcases h with h | ⟨b, h1, h2, h3⟩
  · exact .inl h
  · refine .inr ⟨b, h1, h2, h3.hd, ?_⟩
    obtain ⟨sp, hc, hm⟩ := h3.mem
    exact ⟨sp, hc, by rw [hb b h3.lt h3.A]; exact hm⟩

theorem St.alloc {V : Nat → Prop} {base : Nat} {w0 : World} {ab n : Nat} {w : World} {S : Nat → Slc} {L : Nat → List Nat} (h : St V base w0 ab n w S L) (o : Obj) : St V base w0 ab n (w.alloc o) S L where
  low := Below.alloc h.low h.hsz o
  hab := h.hab
  hsz := by rw [size_alloc]; have := h.hsz; omega
  row := by rw [Below.heap_alloc _ _ _ h.ablt]; exact h.row
  own := fun j hj => OwnNil.block (h.own j hj) fun k hk _ => Below.heap_alloc _ _ _ hk
  nab := h.nab
  apart := h.apart
  keepV := fun k hk hv => by rw [Below.heap_alloc _ _ _ (Nat.lt_of_lt_of_le hk h.low.size)]; exact h.keepV k hk hv
  vab := h.vab
  vbig := h.vbig
  vS := h.vS

end Ref
end Go.Proofs.Ytfdajpjiengihaa
namespace Go.Proofs.Ytfdajpjiengihaa
open Go Go.RowKit Eng Sp Dg
set_option linter.unusedVariables false
set_option linter.unusedSimpArgs false
set_option maxRecDepth 100000
namespace Ref
open _root_.Go.Proofs.Ytfdajpjiengihaa.Nat (OwnNil Num Ret bigC Yes own_num digs_len_bl bigC_ok)

theorem len32 {l : List Nat} (h : ok B64 l) : (digs B32 (val B64 l)).length ≤ 2 * l.length := by
  refine digs_length_le two32 ?_
  rw [← b64_sq]
  exact val_lt h

end Ref
end Go.Proofs.Ytfdajpjiengihaa
namespace Go.Proofs.Ytfdajpjiengihaa
open Go Go.RowKit Eng Sp Dg
set_option linter.unusedVariables false
set_option linter.unusedSimpArgs false
set_option maxRecDepth 100000
namespace Mul
open _root_.Go.Proofs.Ytfdajpjiengihaa.Nat (Num OwnNil Ret bigC bigC_ok digs_len_bl Yes)
open _root_.Go.Proofs.Ytfdajpjiengihaa.Ref (RN Of_spec Is_spec)

theorem bl_le_mul (x y : Nat) : bl (x * y) ≤ bl x + bl y := by
  refine bl_le ?_
  rw [Nat.pow_add]
  exact Nat.mul_lt_mul_of_lt_of_lt (lt_bl x) (lt_bl y)

theorem len32 {l : List Nat} (h : ok B64 l) : (digs B32 (val B64 l)).length ≤ 2 * l.length := by
  refine digs_length_le two32 ?_
  rw [← Ref.b64_sq]
  exact val_lt h

end Mul
end Go.Proofs.Ytfdajpjiengihaa
namespace Go.Proofs.Ytfdajpjiengihaa
open Go Go.RowKit Eng
set_option linter.unusedVariables false

def surdlaw02_all_cut (J0 : Slc → Int → Int → World → Prop) (m0 : Slc → Int → Int → World → Nat) : Nat → Option ((Act → World → Prop) × (Act → World → Nat))
  | 0 => some (fun a_ w_ => atSz a_ 15 (atS a_ 5 fun t5 => atI .i64 a_ 6 fun t6 => atI .i64 a_ 7 fun t7 => J0 t5 t6 t7 w_), fun a_ w_ => mS a_ 5 fun t5 => mI a_ 6 fun t6 => mI a_ 7 fun t7 => m0 t5 t6 t7 w_)
  | _ => none

set_option maxRecDepth 100000 in
/-- surd/surdlaw02.all: function 10. -/
theorem surdlaw02_all_vc (a0_l : Slc) (w : World) (R : Ending → World → Prop)
    (J0 : Slc → Int → Int → World → Prop) (m0 : Slc → Int → Int → World → Nat)
    (h : J0 a0_l (a0_l.n : Int) 0 w)
    (h0 : ∀ (t5 : Slc) (t6 : Int) (t7 : Int) (w_ : World), J0 t5 t6 t7 w_ → 
    br (decide (t7 < t6))
    (semA Try.prog (Instr.indexAt 65 t5.v (Value.int .i64 t7)) w_ fun ad1 w1 =>
     ldI .i64 ad1 w1 fun x1 =>
     Calls Try.prog 18 #[Value.int .i64 x1] w1 fun e1 w2 =>
     ∃ x2 : Int, e1 = .returned (Value.int .i64 x2) ∧
     (br (x2 != 0)
      (R (.returned (Value.bool false)) w2)
      (J0 t5 t6 (IntKind.i64.wrap (t7 + 1)) w2 ∧
       m0 t5 t6 (IntKind.i64.wrap (t7 + 1)) w2 < m0 t5 t6 t7 w_)))
    (R (.returned (Value.bool true)) w_)) :
    Calls Try.prog 10 #[a0_l.v] w R := by
  refine calls_of_vc (surdlaw02_all_cut J0 m0) (by kernel_rfl) Try.func10 rfl ?_ ?_
  · refine kcast h ?_; kernel_rfl
  · exact (obl_seq rfl (obl_reg (obl_seq rfl (obl_seq rfl (obl_reg (obl_loop _ rfl (fun a_ w_ hL_ => (by
    obtain ⟨hz_, hd_, hL_⟩ := atSz_out hL_
    obtain ⟨t5, h5_, hL_⟩ := atS_out hL_
    obtain ⟨t6, h6_, hL_⟩ := atI_out hL_
    obtain ⟨t7, h7_, hL_⟩ := atI_out hL_
    obtain ⟨g0, rfl⟩ : ∃ g, a_ = Fr 15 [(5, t5.v), (6, Value.int .i64 t6), (7, Value.int .i64 t7)] g := ⟨_, fr_of hz_ hd_ [(5, t5.v), (6, Value.int .i64 t6), (7, Value.int .i64 t7)] (sel_cons h5_ (sel_cons h6_ (sel_cons h7_ sel_nil)))⟩
    clear hz_ hd_ h5_ h6_ h7_
    have hJ0_ := hL_
    refine ⟨(fun _ => none), kcast (h0 t5 t6 t7 w_ hJ0_) ?_, ?_⟩
    · kernel_rfl
    · exact (obl_seq rfl (obl_reg (obl_seq rfl (obl_cond (obl_skip (obl_exit (obl_seq rfl (obl_blk rfl (obl_seq rfl (obl_reg (obl_seq rfl (obl_reg (obl_cond (obl_seq rfl (obl_reg (obl_ret (obl_skip (obl_reg trivial)))))))))))))))))))) (obl_seq rfl (obl_reg (obl_ret trivial)))))))))

set_option maxRecDepth 100000 in
/-- surd/surdlaw02.same: function 11. -/
theorem surdlaw02_same_vc (a0_a : Slc) (a1_b : Slc) (w : World) (R : Ending → World → Prop)
    
    (h : Calls Try.prog 20 #[a0_a.v] w fun e1 w1 =>
    ∃ s1 : Slc, e1 = .returned s1.v ∧
    (Calls Try.prog 20 #[a1_b.v] w1 fun e2 w2 =>
     ∃ s2 : Slc, e2 = .returned s2.v ∧
     (Calls Try.prog 36 #[s1.v, s2.v] w2 fun e3 w3 =>
      ∃ x1 : Int, e3 = .returned (Value.int .i64 x1) ∧
      (R (.returned (Value.bool (x1 == 0))) w3)))) :
    Calls Try.prog 11 #[a0_a.v, a1_b.v] w R := by
  refine calls_of_vc (fun _ => none) (by kernel_rfl) Try.func11 rfl ?_ ?_
  · refine kcast h ?_; kernel_rfl
  · exact (obl_seq rfl (obl_reg (obl_seq rfl (obl_reg (obl_ret trivial)))))

set_option maxRecDepth 100000 in
/-- surd/surdlaw02.sum: function 13. -/
theorem surdlaw02_sum_vc (a0_a : Slc) (a1_b : Slc) (w : World) (R : Ending → World → Prop)
    
    (h : Calls Try.prog 20 #[a0_a.v] w fun e1 w1 =>
    ∃ s1 : Slc, e1 = .returned s1.v ∧
    (Calls Try.prog 20 #[a1_b.v] w1 fun e2 w2 =>
     ∃ s2 : Slc, e2 = .returned s2.v ∧
     (Calls Try.prog 40 #[s1.v, s2.v] w2 fun e3 w3 =>
      ∃ s3 : Slc, e3 = .returned s3.v ∧
      (Calls Try.prog 28 #[s3.v] w3 fun e4 w4 =>
       ∃ s4 : Slc, e4 = .returned s4.v ∧
       (R (.returned s4.v) w4))))) :
    Calls Try.prog 13 #[a0_a.v, a1_b.v] w R := by
  refine calls_of_vc (fun _ => none) (by kernel_rfl) Try.func13 rfl ?_ ?_
  · refine kcast h ?_; kernel_rfl
  · exact (obl_seq rfl (obl_reg (obl_seq rfl (obl_reg (obl_ret trivial)))))

end Go.Proofs.Ytfdajpjiengihaa
namespace Go.Proofs.Ytfdajpjiengihaa
open Go Go.RowKit Eng Sp Dg
set_option linter.unusedVariables false
set_option linter.unusedSimpArgs false
set_option maxRecDepth 100000
namespace Mul
open _root_.Go.Proofs.Ytfdajpjiengihaa.Nat (Num OwnNil Ret bigC bigC_ok digs_len_bl Yes)
open _root_.Go.Proofs.Ytfdajpjiengihaa.Ref (RN Of_spec Is_spec)

theorem lit_rd (k : IntKind) (t : TypeId) (w : World) (l : List Int) : Rd k (w.alloc (.cells (ints k l).toArray t (0, 0))) ⟨some ⟨w.heap.size, 0, none⟩, l.length, l.length⟩ l :=
  Own.rd (t := t) (b := w.heap.size) ⟨rfl, [], by simp, by rw [get_alloc]; simp⟩

theorem all_spec {w : World} {s : Slc} {l : List Int} (h : Rd .i64 w s l) (hl : l.length ≤ 1000) :
    Calls pr surdlaw02_all_id #[s.v] w fun e w' => w' = w ∧ ∃ c : Bool, e = .returned (.bool c) ∧ (c = true ↔ ∀ x ∈ l, x = 0) := by
  have hn : s.n = l.length := h.n
  refine surdlaw02_all_vc s w _ (fun t n i w' => t = s ∧ w' = w ∧ n = (l.length : Int) ∧ ∃ j : Nat, i = (j : Int) ∧ j ≤ l.length ∧ ∀ x ∈ l.take j, x = 0) (fun _ n i _ => (n - i).toNat)
    ⟨rfl, rfl, by rw [hn], 0, rfl, Nat.zero_le _, by simp⟩ ?_
  rintro t n i w1 ⟨rfl, rfl, rfl, j, rfl, hj, hz⟩
  refine br_intro (fun hlt => ?_) (fun hge => ?_)
  · have hj' : j < l.length := by simp at hlt; omega
    refine ix_ld (e := 25) (k := .i64) (by kernel_rfl) h (by omega) (by omega) ?_
    refine Calls.mono num_spec ?_
    rintro e w2 ⟨rfl, rfl⟩
    have e8 : IntKind.i64.wrap ((j : Int) + 1) = ((j + 1 : Nat) : Int) := by rw [wrap_i64 (by omega) (by omega)]; omega
    have hmem : l.getD j 0 ∈ l := by rw [getD_lt l 0 hj']; exact List.getElem_mem hj'
    rw [Int.toNat_natCast]
    refine ⟨_, rfl, br_intro (fun hx => ?_) (fun hx => ?_)⟩
    · exact ⟨rfl, _, rfl, ⟨fun h => (by cases h), fun h => absurd (h _ hmem) (by simpa using hx)⟩⟩
    · refine ⟨⟨rfl, rfl, rfl, j + 1, e8, hj', ?_⟩, by rw [e8]; omega⟩
      rw [List.take_succ_eq_append_getElem hj']
      intro x hxm
      rcases List.mem_append.1 hxm with h1 | h1
      · exact hz x h1
      · have : x = l[j] := by simpa using h1
        rw [this, ← getD_lt l 0 hj']
        simpa using hx
  · have hj' : j = l.length := by simp at hge; omega
    subst hj'
    rw [List.take_length] at hz
    exact ⟨rfl, _, rfl, ⟨fun _ => hz, fun _ => rfl⟩⟩

/-- What reads as limbs of a number, of a size that the laws' own functions take. -/
def NumB (w : World) (s : Slc) (n : Nat) : Prop := ∃ l, Rd .u64 w s (nn l) ∧ l.length * 8 ≤ 140737488351232 ∧ ok B64 l ∧ val B64 l = n
theorem NumB.num {w : World} {s : Slc} {n : Nat} (h : NumB w s n) : Num w s n := by
  obtain ⟨l, h1, h2, h3, h4⟩ := h; exact ⟨l, h1, by omega, h3, h4⟩
theorem NumB.ahead {w w' : World} {s : Slc} {n : Nat} (h : NumB w s n) (ha : Ahead w w') : NumB w' s n := by
  obtain ⟨l, h1, h2⟩ := h; exact ⟨l, h1.ahead ha, h2⟩
theorem NumB.len {w : World} {s : Slc} {n : Nat} (h : NumB w s n) : (digs B64 n).length * 8 ≤ 140737488351232 ∧ (digs B32 n).length ≤ 2 ^ 45 - 1024 := by
  obtain ⟨l, h1, h2, h3, rfl⟩ := h
  have := Nat.len_le h3
  have := len32 h3
  omega
theorem own_numB {b : Nat} {w : World} {s : Slc} {n : Nat} (h : OwnNil b w s (digs B64 n)) (hl : (digs B64 n).length * 8 ≤ 140737488351232) : NumB w s n :=
  ⟨_, h.rd, hl, ok_digs two64 _, val_digs two64 _⟩
theorem own_numB' {b : Nat} {w : World} {s : Slc} {n : Nat} (h : OwnNil b w s (digs B64 n)) (hl : bl n ≤ 67108864) : NumB w s n :=
  own_numB h (by have := digs_len_bl (N := n) (m := 2 ^ 20) (by omega); omega)

theorem same2_spec {w : World} {a b : Slc} {x y : Nat} (ha : NumB w a x) (hb : NumB w b y) :
    Calls pr surdlaw02_same_id #[a.v, b.v] w fun e w' => Ahead w w' ∧ e = .returned (.bool (decide (x = y))) := by
  have l1 := ha.len
  have l2 := hb.len
  obtain ⟨l, ra, na, oa, rfl⟩ := ha
  obtain ⟨m, rb, nb, ob, rfl⟩ := hb
  refine surdlaw02_same_vc a b w _ (Calls.mono (Of_spec ra na oa) ?_)
  rintro e w1 ⟨h1, s, rfl, rs⟩
  refine ⟨_, rfl, Calls.mono (Of_spec (rb.ahead h1) nb ob) ?_⟩
  rintro e w2 ⟨h2, t, rfl, rt⟩
  refine ⟨_, rfl, Calls.mono (Ref.Cmp_spec (rs.ahead h2) rt (by omega) (by omega)) ?_⟩
  rintro e w3 ⟨h3, rfl⟩
  refine ⟨_, rfl, (h1.trans h2).trans h3, ?_⟩
  congr 2
  by_cases h : val B64 l = val B64 m
  · rw [cmpI_zero.2 h]; simp [h]
  · have : ¬ cmpI (val B64 l) (val B64 m) = 0 := fun e => h (cmpI_zero.1 e)
    simp [h, this]

theorem sum2_spec {w : World} {a b : Slc} {x y : Nat} (ha : NumB w a x) (hb : NumB w b y) (hl : (digs B64 (x + y)).length * 8 ≤ 140737488351232) :
    Calls pr surdlaw02_sum_id #[a.v, b.v] w fun e w' => Ahead w w' ∧ ∃ s, e = .returned (Slc.v s) ∧ NumB w' s (x + y) := by
  have l1 := ha.len
  have l2 := hb.len
  obtain ⟨l, ra, na, oa, rfl⟩ := ha
  obtain ⟨m, rb, nb, ob, rfl⟩ := hb
  refine surdlaw02_sum_vc a b w _ (Calls.mono (Of_spec ra na oa) ?_)
  rintro e w1 ⟨h1, s, rfl, rs⟩
  refine ⟨_, rfl, Calls.mono (Of_spec (rb.ahead h1) nb ob) ?_⟩
  rintro e w2 ⟨h2, t, rfl, rt⟩
  refine ⟨_, rfl, Calls.mono (Ref.Add_spec (rs.ahead h2) rt (by omega) (by omega)) ?_⟩
  rintro e w3 ⟨h3, u, rfl, ru⟩
  refine ⟨_, rfl, Calls.mono (Ref.Limbs_spec ru (by omega)) ?_⟩
  rintro e w4 ⟨h4, v, rfl, ov⟩
  exact ⟨_, rfl, ((h1.trans h2).trans h3).trans h4, _, rfl, own_numB ov hl⟩

end Mul
end Go.Proofs.Ytfdajpjiengihaa
namespace Go.Proofs.Ytfdajpjiengihaa
open Go Go.RowKit Eng Sp Dg
set_option linter.unusedVariables false
set_option linter.unusedSimpArgs false
set_option maxRecDepth 100000
namespace Dg

end Dg
namespace Nat
theorem andI_i64 {x y : Nat} (hx : x < 9223372036854775808) (hy : y < 9223372036854775808) : andI .i64 (x : Int) (y : Int) = ((x &&& y : Nat) : Int) := by
  unfold andI
  have e : (BitVec.ofInt IntKind.i64.bits (x : Int) &&& BitVec.ofInt IntKind.i64.bits (y : Int)).toNat = x &&& y := by
    rw [BitVec.toNat_and, BitVec.ofInt_natCast, BitVec.ofInt_natCast, BitVec.toNat_ofNat, BitVec.toNat_ofNat]
    show x % 2 ^ 64 &&& y % 2 ^ 64 = _
    rw [Nat.mod_eq_of_lt (by omega), Nat.mod_eq_of_lt (by omega)]
  rw [e]
  have : x &&& y < 2 ^ 63 := Nat.and_lt_two_pow _ (by omega)
  exact wrap_i64 (by omega) (by omega)
theorem fdivN (x k : Nat) : Int.fdiv (x : Int) (2 ^ (k : Nat)) = ((x / 2 ^ k : Nat) : Int) := by
  rw [Int.fdiv_eq_ediv_of_nonneg _ (Int.le_of_lt (Int.pow_pos (by omega)))]
  norm_cast

end Nat
end Go.Proofs.Ytfdajpjiengihaa
namespace Go.Proofs.Ytfdajpjiengihaa
open Go Go.RowKit Eng
set_option linter.unusedVariables false

def bits_Div64_cut (J0 : Int → Int → Int → Int → Int → Int → Int → Int → Int → World → Prop) (m0 : Int → Int → Int → Int → Int → Int → Int → Int → Int → World → Nat) (J2 : Int → Int → Int → Int → Int → Int → Int → Int → Int → World → Prop) (m2 : Int → Int → Int → Int → Int → Int → Int → Int → Int → World → Nat) : Nat → Option ((Act → World → Prop) × (Act → World → Nat))
  | 0 => some (fun a_ w_ => atSz a_ 135 (atI .u64 a_ 2 fun t2 => atI .u64 a_ 8 fun t8 => atI .u64 a_ 9 fun t9 => atI .u64 a_ 10 fun t10 => atI .u64 a_ 11 fun t11 => atI .u64 a_ 13 fun t13 => atI .u64 a_ 14 fun t14 => atI .u64 a_ 15 fun t15 => atI .u64 a_ 16 fun t16 => J0 t2 t8 t9 t10 t11 t13 t14 t15 t16 w_), fun a_ w_ => mI a_ 2 fun t2 => mI a_ 8 fun t8 => mI a_ 9 fun t9 => mI a_ 10 fun t10 => mI a_ 11 fun t11 => mI a_ 13 fun t13 => mI a_ 14 fun t14 => mI a_ 15 fun t15 => mI a_ 16 fun t16 => m0 t2 t8 t9 t10 t11 t13 t14 t15 t16 w_)
  | 2 => some (fun a_ w_ => atSz a_ 135 (atI .u64 a_ 2 fun t2 => atI .u64 a_ 8 fun t8 => atI .u64 a_ 9 fun t9 => atI .u64 a_ 10 fun t10 => atI .u64 a_ 14 fun t14 => atI .u64 a_ 15 fun t15 => atI .u64 a_ 16 fun t16 => atI .u64 a_ 17 fun t17 => atI .u64 a_ 18 fun t18 => J2 t2 t8 t9 t10 t14 t15 t16 t17 t18 w_), fun a_ w_ => mI a_ 2 fun t2 => mI a_ 8 fun t8 => mI a_ 9 fun t9 => mI a_ 10 fun t10 => mI a_ 14 fun t14 => mI a_ 15 fun t15 => mI a_ 16 fun t16 => mI a_ 17 fun t17 => mI a_ 18 fun t18 => m2 t2 t8 t9 t10 t14 t15 t16 t17 t18 w_)
  | _ => none

set_option maxRecDepth 100000 in
/-- math/bits.Div64: function 66. -/
theorem bits_Div64_vc (a0 : Int) (a1 : Int) (a2 : Int) (w : World) (R : Ending → World → Prop)
    (J0 : Int → Int → Int → Int → Int → Int → Int → Int → Int → World → Prop) (m0 : Int → Int → Int → Int → Int → Int → Int → Int → Int → World → Nat) (J2 : Int → Int → Int → Int → Int → Int → Int → Int → Int → World → Prop) (m2 : Int → Int → Int → Int → Int → Int → Int → Int → Int → World → Nat)
    (h : br (a2 == 0)
    (False)
    (br (decide (a2 ≤ a0))
     (False)
     (br (a0 == 0)
      (fixI Try.prog .u64 (binOp .quo 29 (Value.int .u64 a1) (Value.int .u64 a2)) w fun x1 =>
       fixI Try.prog .u64 (binOp .rem 29 (Value.int .u64 a1) (Value.int .u64 a2)) w fun x2 =>
       ∀ w1, Ahead w w1 →
       (R (.returned (Value.tuple #[Value.int .u64 x1, Value.int .u64 x2])) w1))
      (Calls Try.prog 76 #[Value.int .u64 a2] w fun e1 w2 =>
       ∃ x3 : Int, e1 = .returned (Value.int .i64 x3) ∧
       (semI Try.prog .u64 (binOp .shl 29 (Value.int .u64 a2) (Value.int .u64 (IntKind.u64.wrap x3))) w2 fun x4 w3 =>
        semI Try.prog .u64 (binOp .shl 29 (Value.int .u64 a0) (Value.int .u64 (IntKind.u64.wrap x3))) w3 fun x5 w4 =>
        semI Try.prog .u64 (binOp .shr 29 (Value.int .u64 a1) (Value.int .u64 (IntKind.u64.wrap (64 - (IntKind.u64.wrap x3))))) w4 fun x6 w5 =>
        semI Try.prog .u64 (binOp .shl 29 (Value.int .u64 a1) (Value.int .u64 (IntKind.u64.wrap x3))) w5 fun x7 w6 =>
        semI Try.prog .u64 (binOp .quo 29 (Value.int .u64 (orI .u64 x5 x6)) (Value.int .u64 (Int.fdiv x4 (2 ^ (32 : Nat))))) w6 fun x8 w7 =>
        J0 x4 (IntKind.u64.wrap x3) (Int.fdiv x4 (2 ^ (32 : Nat))) (andI .u64 x4 4294967295) (orI .u64 x5 x6) (Int.fdiv x7 (2 ^ (32 : Nat))) (andI .u64 x7 4294967295) x8 (IntKind.u64.wrap ((orI .u64 x5 x6) - (IntKind.u64.wrap (x8 * (Int.fdiv x4 (2 ^ (32 : Nat))))))) w7)))))
    (h0 : ∀ (t2 : Int) (t8 : Int) (t9 : Int) (t10 : Int) (t11 : Int) (t13 : Int) (t14 : Int) (t15 : Int) (t16 : Int) (w_ : World), J0 t2 t8 t9 t10 t11 t13 t14 t15 t16 w_ → 
    br (decide (t15 ≥ 4294967296))
    (br (decide ((IntKind.u64.wrap (t16 + t9)) ≥ 4294967296))
     (semI Try.prog .u64 (binOp .quo 29 (Value.int .u64 (IntKind.u64.wrap ((IntKind.u64.wrap ((IntKind.u64.wrap (t11 * 4294967296)) + t13)) - (IntKind.u64.wrap ((IntKind.u64.wrap (t15 - 1)) * t2))))) (Value.int .u64 t9)) w_ fun x9 w8 =>
      J2 t2 t8 t9 t10 t14 (IntKind.u64.wrap (t15 - 1)) (IntKind.u64.wrap ((IntKind.u64.wrap ((IntKind.u64.wrap ((IntKind.u64.wrap (t11 * 4294967296)) + t13)) - (IntKind.u64.wrap ((IntKind.u64.wrap (t15 - 1)) * t2)))) - (IntKind.u64.wrap (x9 * t9)))) (IntKind.u64.wrap ((IntKind.u64.wrap ((IntKind.u64.wrap (t11 * 4294967296)) + t13)) - (IntKind.u64.wrap ((IntKind.u64.wrap (t15 - 1)) * t2)))) x9 w8)
     (J0 t2 t8 t9 t10 t11 t13 t14 (IntKind.u64.wrap (t15 - 1)) (IntKind.u64.wrap (t16 + t9)) w_ ∧
      m0 t2 t8 t9 t10 t11 t13 t14 (IntKind.u64.wrap (t15 - 1)) (IntKind.u64.wrap (t16 + t9)) w_ < m0 t2 t8 t9 t10 t11 t13 t14 t15 t16 w_))
    (br (decide ((IntKind.u64.wrap (t15 * t10)) > (IntKind.u64.wrap ((IntKind.u64.wrap (4294967296 * t16)) + t13))))
     (br (decide ((IntKind.u64.wrap (t16 + t9)) ≥ 4294967296))
      (semI Try.prog .u64 (binOp .quo 29 (Value.int .u64 (IntKind.u64.wrap ((IntKind.u64.wrap ((IntKind.u64.wrap (t11 * 4294967296)) + t13)) - (IntKind.u64.wrap ((IntKind.u64.wrap (t15 - 1)) * t2))))) (Value.int .u64 t9)) w_ fun x13 w12 =>
       J2 t2 t8 t9 t10 t14 (IntKind.u64.wrap (t15 - 1)) (IntKind.u64.wrap ((IntKind.u64.wrap ((IntKind.u64.wrap ((IntKind.u64.wrap (t11 * 4294967296)) + t13)) - (IntKind.u64.wrap ((IntKind.u64.wrap (t15 - 1)) * t2)))) - (IntKind.u64.wrap (x13 * t9)))) (IntKind.u64.wrap ((IntKind.u64.wrap ((IntKind.u64.wrap (t11 * 4294967296)) + t13)) - (IntKind.u64.wrap ((IntKind.u64.wrap (t15 - 1)) * t2)))) x13 w12)
      (J0 t2 t8 t9 t10 t11 t13 t14 (IntKind.u64.wrap (t15 - 1)) (IntKind.u64.wrap (t16 + t9)) w_ ∧
       m0 t2 t8 t9 t10 t11 t13 t14 (IntKind.u64.wrap (t15 - 1)) (IntKind.u64.wrap (t16 + t9)) w_ < m0 t2 t8 t9 t10 t11 t13 t14 t15 t16 w_))
     (semI Try.prog .u64 (binOp .quo 29 (Value.int .u64 (IntKind.u64.wrap ((IntKind.u64.wrap ((IntKind.u64.wrap (t11 * 4294967296)) + t13)) - (IntKind.u64.wrap (t15 * t2))))) (Value.int .u64 t9)) w_ fun x14 w13 =>
      J2 t2 t8 t9 t10 t14 t15 (IntKind.u64.wrap ((IntKind.u64.wrap ((IntKind.u64.wrap ((IntKind.u64.wrap (t11 * 4294967296)) + t13)) - (IntKind.u64.wrap (t15 * t2)))) - (IntKind.u64.wrap (x14 * t9)))) (IntKind.u64.wrap ((IntKind.u64.wrap ((IntKind.u64.wrap (t11 * 4294967296)) + t13)) - (IntKind.u64.wrap (t15 * t2)))) x14 w13)))
    (h2 : ∀ (t2 : Int) (t8 : Int) (t9 : Int) (t10 : Int) (t14 : Int) (t15 : Int) (t16 : Int) (t17 : Int) (t18 : Int) (w_ : World), J2 t2 t8 t9 t10 t14 t15 t16 t17 t18 w_ → 
    br (decide (t18 ≥ 4294967296))
    (br (decide ((IntKind.u64.wrap (t16 + t9)) ≥ 4294967296))
     (semI Try.prog .u64 (binOp .shr 29 (Value.int .u64 (IntKind.u64.wrap ((IntKind.u64.wrap ((IntKind.u64.wrap (t17 * 4294967296)) + t14)) - (IntKind.u64.wrap ((IntKind.u64.wrap (t18 - 1)) * t2))))) (Value.int .u64 t8)) w_ fun x10 w9 =>
      R (.returned (Value.tuple #[Value.int .u64 (IntKind.u64.wrap ((IntKind.u64.wrap (t15 * 4294967296)) + (IntKind.u64.wrap (t18 - 1)))), Value.int .u64 x10])) w9)
     (J2 t2 t8 t9 t10 t14 t15 (IntKind.u64.wrap (t16 + t9)) t17 (IntKind.u64.wrap (t18 - 1)) w_ ∧
      m2 t2 t8 t9 t10 t14 t15 (IntKind.u64.wrap (t16 + t9)) t17 (IntKind.u64.wrap (t18 - 1)) w_ < m2 t2 t8 t9 t10 t14 t15 t16 t17 t18 w_))
    (br (decide ((IntKind.u64.wrap (t18 * t10)) > (IntKind.u64.wrap ((IntKind.u64.wrap (4294967296 * t16)) + t14))))
     (br (decide ((IntKind.u64.wrap (t16 + t9)) ≥ 4294967296))
      (semI Try.prog .u64 (binOp .shr 29 (Value.int .u64 (IntKind.u64.wrap ((IntKind.u64.wrap ((IntKind.u64.wrap (t17 * 4294967296)) + t14)) - (IntKind.u64.wrap ((IntKind.u64.wrap (t18 - 1)) * t2))))) (Value.int .u64 t8)) w_ fun x11 w10 =>
       R (.returned (Value.tuple #[Value.int .u64 (IntKind.u64.wrap ((IntKind.u64.wrap (t15 * 4294967296)) + (IntKind.u64.wrap (t18 - 1)))), Value.int .u64 x11])) w10)
      (J2 t2 t8 t9 t10 t14 t15 (IntKind.u64.wrap (t16 + t9)) t17 (IntKind.u64.wrap (t18 - 1)) w_ ∧
       m2 t2 t8 t9 t10 t14 t15 (IntKind.u64.wrap (t16 + t9)) t17 (IntKind.u64.wrap (t18 - 1)) w_ < m2 t2 t8 t9 t10 t14 t15 t16 t17 t18 w_))
     (semI Try.prog .u64 (binOp .shr 29 (Value.int .u64 (IntKind.u64.wrap ((IntKind.u64.wrap ((IntKind.u64.wrap (t17 * 4294967296)) + t14)) - (IntKind.u64.wrap (t18 * t2))))) (Value.int .u64 t8)) w_ fun x12 w11 =>
      R (.returned (Value.tuple #[Value.int .u64 (IntKind.u64.wrap ((IntKind.u64.wrap (t15 * 4294967296)) + t18)), Value.int .u64 x12])) w11))) :
    Calls Try.prog 66 #[Value.int .u64 a0, Value.int .u64 a1, Value.int .u64 a2] w R := by
  refine calls_of_vc (bits_Div64_cut J0 m0 J2 m2) (by kernel_rfl) Try.func66 rfl ?_ ?_
  · refine kcast h ?_; kernel_rfl
  · exact (obl_seq rfl (obl_reg (obl_seq rfl (obl_seq rfl (obl_reg (obl_cond (obl_reg (obl_skip (obl_seq rfl (obl_seq rfl (obl_reg (obl_cond (obl_reg (obl_skip (obl_seq rfl (obl_seq rfl (obl_reg (obl_cond (obl_seq rfl (obl_quiet (by kernel_rfl) (by kernel_rfl) (by kernel_rfl) (by kernel_rfl) (obl_ret (obl_skip (obl_seq rfl (obl_reg (obl_seq rfl (obl_reg (obl_seq rfl (obl_reg (obl_seq rfl (obl_reg (obl_seq rfl (obl_reg (obl_seq rfl (obl_reg (obl_seq rfl (obl_reg (obl_seq rfl (obl_reg (obl_seq rfl (obl_reg (obl_seq rfl (obl_reg (obl_seq rfl (obl_loop _ rfl (fun a_ w_ hL_ => (by
    obtain ⟨hz_, hd_, hL_⟩ := atSz_out hL_
    obtain ⟨t2, h2_, hL_⟩ := atI_out hL_
    obtain ⟨t8, h8_, hL_⟩ := atI_out hL_
    obtain ⟨t9, h9_, hL_⟩ := atI_out hL_
    obtain ⟨t10, h10_, hL_⟩ := atI_out hL_
    obtain ⟨t11, h11_, hL_⟩ := atI_out hL_
    obtain ⟨t13, h13_, hL_⟩ := atI_out hL_
    obtain ⟨t14, h14_, hL_⟩ := atI_out hL_
    obtain ⟨t15, h15_, hL_⟩ := atI_out hL_
    obtain ⟨t16, h16_, hL_⟩ := atI_out hL_
    obtain ⟨g0, rfl⟩ : ∃ g, a_ = Fr 135 [(2, Value.int .u64 t2), (8, Value.int .u64 t8), (9, Value.int .u64 t9), (10, Value.int .u64 t10), (11, Value.int .u64 t11), (13, Value.int .u64 t13), (14, Value.int .u64 t14), (15, Value.int .u64 t15), (16, Value.int .u64 t16)] g := ⟨_, fr_of hz_ hd_ [(2, Value.int .u64 t2), (8, Value.int .u64 t8), (9, Value.int .u64 t9), (10, Value.int .u64 t10), (11, Value.int .u64 t11), (13, Value.int .u64 t13), (14, Value.int .u64 t14), (15, Value.int .u64 t15), (16, Value.int .u64 t16)] (sel_cons h2_ (sel_cons h8_ (sel_cons h9_ (sel_cons h10_ (sel_cons h11_ (sel_cons h13_ (sel_cons h14_ (sel_cons h15_ (sel_cons h16_ sel_nil)))))))))⟩
    clear hz_ hd_ h2_ h8_ h9_ h10_ h11_ h13_ h14_ h15_ h16_
    have hJ0_ := hL_
    refine ⟨(fun _ => none), kcast (h0 t2 t8 t9 t10 t11 t13 t14 t15 t16 w_ hJ0_) ?_, ?_⟩
    · kernel_rfl
    · exact (obl_seq rfl (obl_seq rfl (obl_reg (obl_cond (obl_skip (obl_exit (obl_blk rfl (obl_seq rfl (obl_reg (obl_seq rfl (obl_reg (obl_seq rfl (obl_reg (obl_cond (obl_exit (obl_skip trivial)))))))))))))))))) (obl_seq rfl (obl_reg (obl_seq rfl (obl_reg (obl_seq rfl (obl_reg (obl_seq rfl (obl_loop _ rfl (fun a_ w_ hL_ => (by
    obtain ⟨hz_, hd_, hL_⟩ := atSz_out hL_
    obtain ⟨t2, h2_, hL_⟩ := atI_out hL_
    obtain ⟨t8, h8_, hL_⟩ := atI_out hL_
    obtain ⟨t9, h9_, hL_⟩ := atI_out hL_
    obtain ⟨t10, h10_, hL_⟩ := atI_out hL_
    obtain ⟨t14, h14_, hL_⟩ := atI_out hL_
    obtain ⟨t15, h15_, hL_⟩ := atI_out hL_
    obtain ⟨t16, h16_, hL_⟩ := atI_out hL_
    obtain ⟨t17, h17_, hL_⟩ := atI_out hL_
    obtain ⟨t18, h18_, hL_⟩ := atI_out hL_
    obtain ⟨g2, rfl⟩ : ∃ g, a_ = Fr 135 [(2, Value.int .u64 t2), (8, Value.int .u64 t8), (9, Value.int .u64 t9), (10, Value.int .u64 t10), (14, Value.int .u64 t14), (15, Value.int .u64 t15), (16, Value.int .u64 t16), (17, Value.int .u64 t17), (18, Value.int .u64 t18)] g := ⟨_, fr_of hz_ hd_ [(2, Value.int .u64 t2), (8, Value.int .u64 t8), (9, Value.int .u64 t9), (10, Value.int .u64 t10), (14, Value.int .u64 t14), (15, Value.int .u64 t15), (16, Value.int .u64 t16), (17, Value.int .u64 t17), (18, Value.int .u64 t18)] (sel_cons h2_ (sel_cons h8_ (sel_cons h9_ (sel_cons h10_ (sel_cons h14_ (sel_cons h15_ (sel_cons h16_ (sel_cons h17_ (sel_cons h18_ sel_nil)))))))))⟩
    clear hz_ hd_ h2_ h8_ h9_ h10_ h14_ h15_ h16_ h17_ h18_
    have hJ2_ := hL_
    refine ⟨(fun _ => none), kcast (h2 t2 t8 t9 t10 t14 t15 t16 t17 t18 w_ hJ2_) ?_, ?_⟩
    · kernel_rfl
    · exact (obl_seq rfl (obl_seq rfl (obl_reg (obl_cond (obl_skip (obl_exit (obl_blk rfl (obl_seq rfl (obl_reg (obl_seq rfl (obl_reg (obl_seq rfl (obl_reg (obl_cond (obl_exit (obl_skip trivial)))))))))))))))))) (obl_seq rfl (obl_reg (obl_ret trivial)))))))))))))))))))))))))))))))))))))))))))))))))))))))

end Go.Proofs.Ytfdajpjiengihaa
namespace Go.Proofs.Ytfdajpjiengihaa
open Go Go.RowKit Eng Sp Dg
set_option linter.unusedVariables false
set_option linter.unusedSimpArgs false
set_option maxRecDepth 100000
namespace Nat

theorem binQuo {x y : Nat} {t : TypeId} (hx : x < B64) (hy : y ≠ 0) : binOp .quo t (.int .u64 (x : Int)) (.int .u64 (y : Int)) = pure (.int .u64 ((x / y : Nat) : Int)) := by
  have e : Int.tdiv (x : Int) (y : Int) = ((x / y : Nat) : Int) := by rw [Int.tdiv_eq_ediv_of_nonneg (by omega)]; simp
  have hle := Nat.div_le_self x y
  have hB := B64v
  unfold binOp
  simp only [Op.intDiv]
  rw [if_neg (by simp), if_neg (by simpa using hy)]
  simp only [e]
  generalize x / y = q at *
  rw [wrap_u64' (by omega) (by omega)]
theorem binRem {x y : Nat} {t : TypeId} (hx : x < B64) (hy : y ≠ 0) : binOp .rem t (.int .u64 (x : Int)) (.int .u64 (y : Int)) = pure (.int .u64 ((x % y : Nat) : Int)) := by
  have e : Int.tmod (x : Int) (y : Int) = ((x % y : Nat) : Int) := by rw [Int.tmod_eq_emod_of_nonneg (by omega)]; simp
  have hle := Nat.mod_le x y
  have hB := B64v
  unfold binOp
  simp only [Op.intDiv]
  rw [if_neg (by simp), if_neg (by simpa using hy)]
  simp only [e]

theorem semQuo {x y : Nat} {t : TypeId} {w : World} {K : Int → World → Prop} (hx : x < B64) (hy : y ≠ 0) (h : K ((x / y : Nat) : Int) w) : semI pr .u64 (binOp .quo t (.int .u64 (x : Int)) (.int .u64 (y : Int))) w K := by
  unfold semI
  rw [binQuo hx hy, Sem.wp_iff_run]
  exact ⟨_, rfl, h⟩
theorem fixQuo {x y : Nat} {t : TypeId} {w : World} {K : Int → Prop} (hx : x < B64) (hy : y ≠ 0) (h : K ((x / y : Nat) : Int)) : fixI pr .u64 (binOp .quo t (.int .u64 (x : Int)) (.int .u64 (y : Int))) w K := by
  rw [fixI, binQuo hx hy]
  exact ⟨_, fun _ _ => rfl, h⟩
theorem fixRem {x y : Nat} {t : TypeId} {w : World} {K : Int → Prop} (hx : x < B64) (hy : y ≠ 0) (h : K ((x % y : Nat) : Int)) : fixI pr .u64 (binOp .rem t (.int .u64 (x : Int)) (.int .u64 (y : Int))) w K := by
  rw [fixI, binRem hx hy]
  exact ⟨_, fun _ _ => rfl, h⟩

/-- The guess q, with its rest r, of U b + u through y = y1 b + y0. -/
structure Guess (U u y y1 y0 q r : Nat) : Prop where
  eq : q * y1 + r = U
  ge : (U * 4294967296 + u) / y ≤ q
theorem Guess.over {U u y y1 y0 q r : Nat} (h : Guess U u y y1 y0 q r) (hy : y = y1 * 4294967296 + y0) : q * y0 > 4294967296 * r + u ↔ q * y > U * 4294967296 + u := by
  have e1 : q * y = q * y1 * 4294967296 + q * y0 := by rw [hy, Nat.mul_add, Nat.mul_assoc]
  have := h.eq
  generalize q * y1 = A at *
  generalize q * y0 = B at *
  generalize q * y = C at *
  omega
theorem Guess.less {U u y y1 y0 q r : Nat} (h : Guess U u y y1 y0 q r) (hq : 0 < q) (hl : (U * 4294967296 + u) / y < q) : Guess U u y y1 y0 (q - 1) (r + y1) := by
  refine ⟨?_, by omega⟩
  have := h.eq
  obtain ⟨k, rfl⟩ : ∃ k, q = k + 1 := ⟨q - 1, by omega⟩
  rw [Nat.add_sub_cancel]
  rw [Nat.succ_mul] at this
  omega
theorem Guess.done {U u y y1 y0 q r : Nat} (h : Guess U u y y1 y0 q r) (hy0 : 0 < y) (hl : q * y ≤ U * 4294967296 + u) : q = (U * 4294967296 + u) / y :=
  Nat.le_antisymm ((Nat.le_div_iff_mul_le hy0).2 hl) h.ge
theorem Guess.far {U u y y1 y0 q r : Nat} (h : Guess U u y y1 y0 q r) (hy : y = y1 * 4294967296 + y0) (h0 : y0 < 4294967296) (hq : q ≤ 4294967296) (hr : 4294967296 ≤ r) : q * y ≤ U * 4294967296 + u := by
  have e1 : q * y = q * y1 * 4294967296 + q * y0 := by rw [hy, Nat.mul_add, Nat.mul_assoc]
  have := h.eq
  have h2 : q * y0 ≤ 4294967296 * 4294967295 := Nat.mul_le_mul hq (by omega)
  generalize q * y1 = A at *
  generalize q * y0 = B at *
  generalize q * y = C at *
  omega
theorem Guess.first {U u y y1 y0 : Nat} (hy : y = y1 * 4294967296 + y0) (h1 : 2147483648 ≤ y1) (h0 : y0 < 4294967296) (hu : u < 4294967296) (hU : U < y) :
    Guess U u y y1 y0 (U / y1) (U - U / y1 * y1) ∧ U / y1 ≤ 4294967297 ∧ U - U / y1 * y1 < 4294967296 + y1 := by
  have hd := Nat.div_add_mod U y1
  have hm := Nat.mod_lt U (show y1 > 0 by omega)
  have hc : y1 * (U / y1) = U / y1 * y1 := Nat.mul_comm _ _
  refine ⟨⟨by omega, ?_⟩, ?_, by omega⟩
  · rw [← Nat.lt_succ_iff, Nat.div_lt_iff_lt_mul (by omega)]
    have e1 : (U / y1).succ * y = (U / y1 * y1 + y1) * 4294967296 + (U / y1).succ * y0 := by
      rw [hy, Nat.mul_add, ← Nat.mul_assoc, Nat.succ_mul]
    rw [e1]
    have : U + 1 ≤ U / y1 * y1 + y1 := by omega
    generalize U / y1 * y1 = A at *
    generalize (U / y1).succ * y0 = B at *
    omega
  · rw [← Nat.lt_succ_iff, Nat.div_lt_iff_lt_mul (by omega)]
    omega
theorem quot_lt {U u y : Nat} (hu : u < 4294967296) (hU : U < y) : (U * 4294967296 + u) / y < 4294967296 := by
  rw [Nat.div_lt_iff_lt_mul (by omega)]; omega
/-- What stays, reckoned modulo 2^64. -/
theorem rest_wrap {U u y q : Nat} (hy : y < 18446744073709551616) (hy0 : 0 < y) (hq : q = (U * 4294967296 + u) / y) :
    IntKind.u64.wrap (IntKind.u64.wrap (IntKind.u64.wrap ((U : Int) * 4294967296) + (u : Int)) - IntKind.u64.wrap ((q : Int) * (y : Int))) = (((U * 4294967296 + u) % y : Nat) : Int) := by
  have hd := Nat.div_add_mod (U * 4294967296 + u) y
  have hm := Nat.mod_lt (U * 4294967296 + u) hy0
  rw [← hq, Nat.mul_comm] at hd
  have e : (q : Int) * (y : Int) = ((q * y : Nat) : Int) := by push_cast; rfl
  rw [e, wrap_u64, wrap_u64, wrap_u64, wrap_u64]
  generalize (U * 4294967296 + u) % y = m at *
  generalize q * y = C at *
  omega

def J0r (w : World) (Y s y1 y0 U u1 u0 : Nat) (t2 t8 t9 t10 t11 t13 t14 t15 t16 : Int) (w' : World) : Prop :=
  w' = w ∧ t2 = (Y : Int) ∧ t8 = (s : Int) ∧ t9 = (y1 : Int) ∧ t10 = (y0 : Int) ∧ t11 = (U : Int) ∧ t13 = (u1 : Int) ∧ t14 = (u0 : Int) ∧ ∃ q r : Nat, t15 = (q : Int) ∧ t16 = (r : Int) ∧ Guess U u1 Y y1 y0 q r ∧ r < 4294967296 ∧ q ≤ 4294967297
def J2r (w : World) (Y s y1 y0 u0 Q1 R1 : Nat) (t2 t8 t9 t10 t14 t15 t16 t17 t18 : Int) (w' : World) : Prop :=
  w' = w ∧ t2 = (Y : Int) ∧ t8 = (s : Int) ∧ t9 = (y1 : Int) ∧ t10 = (y0 : Int) ∧ t14 = (u0 : Int) ∧ t15 = (Q1 : Int) ∧ t17 = (R1 : Int) ∧ ∃ q r : Nat, t18 = (q : Int) ∧ t16 = (r : Int) ∧ Guess R1 u0 Y y1 y0 q r ∧ r < 4294967296 ∧ q ≤ 4294967297
theorem guess_wrap {U y1 : Nat} (hU : U < B64) (h1 : 0 < y1) : IntKind.u64.wrap ((U : Int) - IntKind.u64.wrap (((U / y1 : Nat) : Int) * (y1 : Int))) = ((U - U / y1 * y1 : Nat) : Int) ∧ U - U / y1 * y1 < y1 := by
  have hB := B64v
  have hd := Nat.div_mul_le_self U y1
  have h2 := Nat.div_add_mod U y1
  have h3 := Nat.mod_lt U h1
  have h4 : y1 * (U / y1) = U / y1 * y1 := Nat.mul_comm _ _
  have e : ((U / y1 : Nat) : Int) * (y1 : Int) = ((U / y1 * y1 : Nat) : Int) := by push_cast; rfl
  rw [e]
  generalize U / y1 * y1 = A at *
  refine ⟨?_, by omega⟩
  rw [wrap_u64' (x := (A : Int)) (by omega) (by omega), wrap_u64' (by omega) (by omega)]
  omega
theorem exit1 {w : World} {Y s y1 y0 u0 Q1 R1 : Nat} (eY : Y = y1 * 4294967296 + y0) (hy1lo : 2147483648 ≤ y1) (hy1hi : y1 < 4294967296) (hy0lt : y0 < 4294967296) (hu0lt : u0 < 4294967296) (hR : R1 < Y) :
    semI pr .u64 (binOp .quo tU64 (.int .u64 (R1 : Int)) (.int .u64 (y1 : Int))) w fun x9 w8 => J2r w Y s y1 y0 u0 Q1 R1 Y s y1 y0 u0 Q1 (IntKind.u64.wrap ((R1 : Int) - IntKind.u64.wrap (x9 * (y1 : Int)))) R1 x9 w8 := by
  have hB := B64v
  obtain ⟨k1, k2, k3⟩ := Guess.first (u := u0) eY hy1lo hy0lt hu0lt hR
  obtain ⟨e6, hm⟩ := guess_wrap (U := R1) (y1 := y1) (by omega) (by omega)
  refine semQuo (by omega) (by omega) ?_
  rw [e6]
  exact ⟨rfl, rfl, rfl, rfl, rfl, rfl, rfl, rfl, _, _, rfl, rfl, k1, by omega, k2⟩

theorem Div64_spec {w : World} {hi lo y : Nat} (hh : hi < y) (hl : lo < B64) (hy : y < B64) :
    Calls pr bits_Div64_id #[.int .u64 (hi : Int), .int .u64 (lo : Int), .int .u64 (y : Int)] w fun e w' => Ahead w w' ∧ e = .returned (.tuple #[.int .u64 (((hi * B64 + lo) / y : Nat) : Int), .int .u64 (((hi * B64 + lo) % y : Nat) : Int)]) := by
  have hB := B64v
  obtain ⟨s, hs⟩ : ∃ s, s = 64 - bl y := ⟨_, rfl⟩
  have hbl : bl y ≤ 64 := bl_le_iff.2 hy
  have hbp : 0 < bl y := bl_pos (by omega)
  obtain ⟨Y, hY⟩ : ∃ Y, Y = y * 2 ^ s := ⟨_, rfl⟩
  obtain ⟨M, hM⟩ : ∃ M, M = (hi * B64 + lo) * 2 ^ s := ⟨_, rfl⟩
  have hp : 0 < 2 ^ s := Nat.pow_pos (by omega)
  have hYlo : 9223372036854775808 ≤ Y := by
    have h1 : 2 ^ (bl y - 1) ≤ y := by
      rcases Nat.lt_or_ge y (2 ^ (bl y - 1)) with h | h
      · have := bl_le h; omega
      · exact h
    have h2 : (2 : Nat) ^ (bl y - 1) * 2 ^ s = 9223372036854775808 := by rw [← Nat.pow_add, show bl y - 1 + s = 63 by omega]
    rw [hY, ← h2]
    exact Nat.mul_le_mul_right _ h1
  have hYhi : Y < 18446744073709551616 := by
    have h1 := bl_le_iff.1 (Nat.le_refl (bl y))
    have h2 : (2 : Nat) ^ bl y * 2 ^ s = 18446744073709551616 := by rw [← Nat.pow_add, show bl y + s = 64 by omega]
    rw [hY, ← h2]
    exact Nat.mul_lt_mul_of_pos_right h1 hp
  -- the parts
  obtain ⟨y1, hy1⟩ : ∃ y1, y1 = Y / 4294967296 := ⟨_, rfl⟩
  obtain ⟨y0, hy0⟩ : ∃ y0, y0 = Y % 4294967296 := ⟨_, rfl⟩
  obtain ⟨U, hU⟩ : ∃ U, U = M / 18446744073709551616 := ⟨_, rfl⟩
  obtain ⟨L, hL⟩ : ∃ L, L = M % 18446744073709551616 := ⟨_, rfl⟩
  obtain ⟨u1, hu1⟩ : ∃ u1, u1 = L / 4294967296 := ⟨_, rfl⟩
  obtain ⟨u0, hu0⟩ : ∃ u0, u0 = L % 4294967296 := ⟨_, rfl⟩
  have eY : Y = y1 * 4294967296 + y0 := by omega
  have hUY : U < Y := by
    rw [hU, Nat.div_lt_iff_lt_mul (by omega), hM, hY, Nat.mul_right_comm]
    refine Nat.mul_lt_mul_of_pos_right ?_ hp
    rw [← hB]
    calc hi * B64 + lo < hi * B64 + B64 := by omega
      _ = (hi + 1) * B64 := by rw [Nat.succ_mul]
      _ ≤ y * B64 := Nat.mul_le_mul_right _ hh
  have hu1lt : u1 < 4294967296 := by omega
  have hu0lt : u0 < 4294967296 := by omega
  have hy0lt : y0 < 4294967296 := by omega
  have hy1lo : 2147483648 ≤ y1 := by omega
  have hy1hi : y1 < 4294967296 := by omega
  obtain ⟨Q1, hQ1⟩ : ∃ Q1, Q1 = (U * 4294967296 + u1) / Y := ⟨_, rfl⟩
  obtain ⟨R1, hR1⟩ : ∃ R1, R1 = (U * 4294967296 + u1) % Y := ⟨_, rfl⟩
  have hR1lt : R1 < Y := by rw [hR1]; exact Nat.mod_lt _ (by omega)
  have hQ1lt := quot_lt hu1lt hUY
  rw [← hQ1] at hQ1lt
  obtain ⟨Q0, hQ0⟩ : ∃ Q0, Q0 = (R1 * 4294967296 + u0) / Y := ⟨_, rfl⟩
  have hQ0lt := quot_lt hu0lt hR1lt
  rw [← hQ0] at hQ0lt
  have eM : M = (U * 4294967296 + u1) * 4294967296 + u0 := by omega
  have hq : (hi * B64 + lo) / y = Q1 * 4294967296 + Q0 := by
    have e1 : (hi * B64 + lo) / y = M / Y := by rw [hM, hY, Nat.mul_div_mul_right _ _ hp]
    have d1 := Nat.div_add_mod (U * 4294967296 + u1) Y
    have d0 := Nat.div_add_mod (R1 * 4294967296 + u0) Y
    rw [← hQ1, ← hR1] at d1
    have m0 := Nat.mod_lt (R1 * 4294967296 + u0) (show Y > 0 by omega)
    rw [← hQ0] at d0
    rw [e1]
    refine Nat.div_eq_of_lt_le ?_ ?_
    · rw [eM, ← d1, Nat.add_mul, Nat.add_mul, Nat.mul_comm Y Q1] 
      have : Q1 * 4294967296 * Y = Q1 * Y * 4294967296 := Nat.mul_right_comm _ _ _
      have e3 : Y * Q0 = Q0 * Y := Nat.mul_comm _ _
      omega
    · rw [eM, ← d1, Nat.add_mul, Nat.succ_mul, Nat.add_mul, Nat.mul_comm Y Q1]
      have : Q1 * 4294967296 * Y = Q1 * Y * 4294967296 := Nat.mul_right_comm _ _ _
      have e3 : Y * Q0 = Q0 * Y := Nat.mul_comm _ _
      omega
  have hr : (R1 * 4294967296 + u0) % Y / 2 ^ s = (hi * B64 + lo) % y := by
    have e2 : (R1 * 4294967296 + u0) % Y = M % Y := by
      rw [eM, hR1]
      have d1 := Nat.div_add_mod (U * 4294967296 + u1) Y
      rw [← hQ1] at d1
      conv => rhs; rw [← d1, Nat.add_mul, Nat.mul_assoc, Nat.add_assoc, Nat.mul_add_mod]
    rw [e2, hM, hY, Nat.mul_mod_mul_right, Nat.mul_div_cancel _ hp]
  refine bits_Div64_vc hi lo y w _ (J0r w Y s y1 y0 U u1 u0) (fun _ _ _ _ _ _ _ t15 _ _ => t15.toNat) (J2r w Y s y1 y0 u0 Q1 R1)
    (fun _ _ _ _ _ _ _ _ t18 _ => t18.toNat) ?_ ?_ ?_
  · refine br_false (by simp; omega) (br_false (by simp; omega) (br_intro (fun h0 => ?_) (fun h0 => ?_)))
    · have h0' : hi = 0 := by simpa using h0
      refine fixQuo hl (by omega) (fixRem hl (by omega) fun w1 ha => ⟨ha, ?_⟩)
      rw [h0', Nat.zero_mul, Nat.zero_add]
    · have hlz := Try.bits_LeadingZeros64 (y : Int) w (by omega) (by omega)
      refine Calls.mono hlz ?_
      rintro e w1 ⟨rfl, rfl⟩
      have e3 : (64 : Int) - (Lib.bitLen ((y : Int)).toNat : Int) = (s : Int) := by
        rw [Int.toNat_natCast, bitLen_eq hy]; omega
      rw [e3]
      have e4 : IntKind.u64.wrap (s : Int) = (s : Int) := wrap_u64' (by omega) (by omega)
      have e5 : IntKind.u64.wrap (64 - (s : Int)) = ((64 - s : Nat) : Int) := by rw [wrap_u64' (by omega) (by omega)]; omega
      refine ⟨_, rfl, ?_⟩
      rw [e4, e5]
      refine semShl (by omega) (semShl (by omega) (semShr (by omega) (semShl (by omega) ?_)))
      have f1 : y * 2 ^ s % B64 = Y := by rw [← hY]; exact Nat.mod_eq_of_lt (by omega)
      have hhi : hi * 2 ^ s < B64 := by
        have : hi * 2 ^ s < y * 2 ^ s := Nat.mul_lt_mul_of_pos_right hh hp
        omega
      have eM2 : M = hi * 2 ^ s * 18446744073709551616 + lo * 2 ^ s := by rw [hM, Nat.add_mul, hB, Nat.mul_right_comm]
      have hlo2 : lo * 2 ^ s / 18446744073709551616 = lo / 2 ^ (64 - s) := by
        rw [show (18446744073709551616 : Nat) = 2 ^ (64 - s) * 2 ^ s by rw [← Nat.pow_add, show 64 - s + s = 64 by omega], Nat.mul_div_mul_right _ _ hp]
      have hlos : lo / 2 ^ (64 - s) < 2 ^ s := by
        rw [Nat.div_lt_iff_lt_mul (Nat.pow_pos (by omega)), ← Nat.pow_add, show s + (64 - s) = 64 by omega]
        omega
      have f2 : (hi * 2 ^ s % B64) ||| (lo / 2 ^ (64 - s)) = U := by
        rw [Nat.mod_eq_of_lt hhi, Nat.mul_comm, ← Nat.two_pow_add_eq_or_of_lt hlos, hU, eM2]
        rw [Nat.mul_comm (hi * 2 ^ s), Nat.mul_add_div (by omega), hlo2, Nat.mul_comm]
      have f3 : lo * 2 ^ s % B64 = L := by rw [hL, eM2, Nat.mul_comm (hi * 2 ^ s), Nat.mul_add_mod, hB]
      have hlo3 : lo / 2 ^ (64 - s) < B64 := Nat.lt_of_le_of_lt (Nat.div_le_self _ _) hl
      rw [f1, orI_nat (Nat.mod_lt _ (by omega)) hlo3, f2, f3, show (4294967295 : Int) = ((4294967295 : Nat) : Int) from rfl, andI_nat (by omega) (by omega), andI_nat (by omega) (by omega)]
      have g1 : ∀ x : Nat, Int.fdiv (x : Int) (2 ^ (32 : Nat)) = ((x / 4294967296 : Nat) : Int) := fun x => by
        have := fdivN x 32
        exact this
      have g2 : ∀ x : Nat, x &&& 4294967295 = x % 4294967296 := fun x => Nat.and_two_pow_sub_one_eq_mod x 32
      rw [g1, g1, g2, g2, ← hy1, ← hu1, ← hy0, ← hu0]
      obtain ⟨k1, k2, k3⟩ := Guess.first (u := u1) eY hy1lo hy0lt hu1lt hUY
      obtain ⟨e6, hm⟩ := guess_wrap (U := U) (y1 := y1) (by omega) (by omega)
      refine semQuo (by omega) (by omega) ?_
      rw [e6]
      exact ⟨rfl, rfl, rfl, rfl, rfl, rfl, rfl, rfl, _, _, rfl, rfl, k1, by omega, k2⟩
  · rintro t2 t8 t9 t10 t11 t13 t14 t15 t16 w' ⟨rfl, rfl, rfl, rfl, rfl, rfl, rfl, rfl, q, r, rfl, rfl, hg, hr', hqm⟩
    have out : ∀ {t : Int}, t = (Q1 : Int) → IntKind.u64.wrap (IntKind.u64.wrap (IntKind.u64.wrap ((U : Int) * 4294967296) + (u1 : Int)) - IntKind.u64.wrap (t * (Y : Int))) = (R1 : Int) := by
      rintro t rfl
      rw [rest_wrap (by omega) (by omega) hQ1, hR1]
    have e2 : IntKind.u64.wrap ((r : Int) + (y1 : Int)) = ((r + y1 : Nat) : Int) := by rw [wrap_u64' (by omega) (by omega)]; omega
    have dec : Q1 < q → br (decide (IntKind.u64.wrap ((r : Int) + (y1 : Int)) ≥ 4294967296))
        (semI pr .u64 (binOp .quo tU64 (.int .u64 (IntKind.u64.wrap (IntKind.u64.wrap (IntKind.u64.wrap ((U : Int) * 4294967296) + (u1 : Int)) - IntKind.u64.wrap (IntKind.u64.wrap ((q : Int) - 1) * (Y : Int))))) (.int .u64 (y1 : Int))) w' fun x9 w8 =>
          J2r w' Y s y1 y0 u0 Q1 R1 Y s y1 y0 u0 (IntKind.u64.wrap ((q : Int) - 1)) (IntKind.u64.wrap (IntKind.u64.wrap (IntKind.u64.wrap (IntKind.u64.wrap ((U : Int) * 4294967296) + (u1 : Int)) - IntKind.u64.wrap (IntKind.u64.wrap ((q : Int) - 1) * (Y : Int))) - IntKind.u64.wrap (x9 * (y1 : Int))))
            (IntKind.u64.wrap (IntKind.u64.wrap (IntKind.u64.wrap ((U : Int) * 4294967296) + (u1 : Int)) - IntKind.u64.wrap (IntKind.u64.wrap ((q : Int) - 1) * (Y : Int)))) x9 w8)
        (J0r w' Y s y1 y0 U u1 u0 Y s y1 y0 U u1 u0 (IntKind.u64.wrap ((q : Int) - 1)) (IntKind.u64.wrap ((r : Int) + (y1 : Int))) w' ∧ (IntKind.u64.wrap ((q : Int) - 1)).toNat < ((q : Int)).toNat) := by
      intro hlt
      have hg' := hg.less (by omega) (by omega)
      have e1 : IntKind.u64.wrap ((q : Int) - 1) = ((q - 1 : Nat) : Int) := by rw [wrap_u64' (by omega) (by omega)]; omega
      refine br_intro (fun h => ?_) (fun h => ?_)
      · rw [e2] at h
        have hf := hg'.done (by omega) (hg'.far eY hy0lt (by omega) (by simp at h; omega))
        rw [out (by rw [e1]; omega), e1, show q - 1 = Q1 by omega]
        exact exit1 eY hy1lo hy1hi hy0lt hu0lt hR1lt
      · rw [e2] at h ⊢
        rw [e1]
        exact ⟨⟨rfl, rfl, rfl, rfl, rfl, rfl, rfl, rfl, _, _, rfl, rfl, hg', by simp at h; omega, by omega⟩, by omega⟩
    refine br_intro (fun h1 => dec (by simp at h1; omega)) (fun h1 => ?_)
    have h1' : q < 4294967296 := by simp at h1; omega
    have m1 : q * y0 ≤ 4294967295 * 4294967295 := Nat.mul_le_mul (by omega) (by omega)
    have e3 : IntKind.u64.wrap ((q : Int) * (y0 : Int)) = ((q * y0 : Nat) : Int) := by
      have e : (q : Int) * (y0 : Int) = ((q * y0 : Nat) : Int) := by push_cast; rfl
      rw [e, wrap_u64' (by omega) (by omega)]
    have e4 : IntKind.u64.wrap (IntKind.u64.wrap (4294967296 * (r : Int)) + (u1 : Int)) = ((4294967296 * r + u1 : Nat) : Int) := by
      rw [wrap_u64' (x := 4294967296 * (r : Int)) (by omega) (by omega), wrap_u64' (by omega) (by omega)]; omega
    rw [e3, e4]
    have ho := hg.over eY
    refine br_intro (fun h2 => dec ?_) (fun h2 => ?_)
    · have := ho.1 (by simp at h2; omega)
      rw [hQ1, Nat.div_lt_iff_lt_mul (by omega)]
      exact this
    · have hle : q * Y ≤ U * 4294967296 + u1 := by
        rcases Nat.lt_or_ge (U * 4294967296 + u1) (q * Y) with h | h
        · have := ho.2 h; simp at h2; omega
        · exact h
      have hf := hg.done (by omega) hle
      rw [out (by omega), show q = Q1 by omega]
      exact exit1 eY hy1lo hy1hi hy0lt hu0lt hR1lt
  · rintro t2 t8 t9 t10 t14 t15 t16 t17 t18 w' ⟨rfl, rfl, rfl, rfl, rfl, rfl, rfl, rfl, q, r, rfl, rfl, hg, hr', hqm⟩
    have out : ∀ {t : Int}, t = (Q0 : Int) → IntKind.u64.wrap (IntKind.u64.wrap (IntKind.u64.wrap ((R1 : Int) * 4294967296) + (u0 : Int)) - IntKind.u64.wrap (t * (Y : Int))) = (((R1 * 4294967296 + u0) % Y : Nat) : Int) := by
      rintro t rfl
      rw [rest_wrap (by omega) (by omega) hQ0]
    have e2 : IntKind.u64.wrap ((r : Int) + (y1 : Int)) = ((r + y1 : Nat) : Int) := by rw [wrap_u64' (by omega) (by omega)]; omega
    have eq : IntKind.u64.wrap (IntKind.u64.wrap ((Q1 : Int) * 4294967296) + (Q0 : Int)) = (((hi * B64 + lo) / y : Nat) : Int) := by
      rw [hq, wrap_u64' (x := (Q1 : Int) * 4294967296) (by omega) (by omega), wrap_u64' (by omega) (by omega)]; omega
    have fin : semI pr .u64 (binOp .shr tU64 (.int .u64 (((R1 * 4294967296 + u0) % Y : Nat) : Int)) (.int .u64 (s : Int))) w' fun x10 w9 =>
        Ahead w' w9 ∧ Ending.returned (.tuple #[.int .u64 (((hi * B64 + lo) / y : Nat) : Int), .int .u64 x10]) = .returned (.tuple #[.int .u64 (((hi * B64 + lo) / y : Nat) : Int), .int .u64 (((hi * B64 + lo) % y : Nat) : Int)]) := by
      refine semShr (by omega) ⟨Ahead.refl _, ?_⟩
      rw [hr]
    have dec : Q0 < q → br (decide (IntKind.u64.wrap ((r : Int) + (y1 : Int)) ≥ 4294967296))
        (semI pr .u64 (binOp .shr tU64 (.int .u64 (IntKind.u64.wrap (IntKind.u64.wrap (IntKind.u64.wrap ((R1 : Int) * 4294967296) + (u0 : Int)) - IntKind.u64.wrap (IntKind.u64.wrap ((q : Int) - 1) * (Y : Int))))) (.int .u64 (s : Int))) w' fun x10 w9 =>
          Ahead w' w9 ∧ Ending.returned (.tuple #[.int .u64 (IntKind.u64.wrap (IntKind.u64.wrap ((Q1 : Int) * 4294967296) + IntKind.u64.wrap ((q : Int) - 1))), .int .u64 x10]) = .returned (.tuple #[.int .u64 (((hi * B64 + lo) / y : Nat) : Int), .int .u64 (((hi * B64 + lo) % y : Nat) : Int)]))
        (J2r w' Y s y1 y0 u0 Q1 R1 Y s y1 y0 u0 Q1 (IntKind.u64.wrap ((r : Int) + (y1 : Int))) R1 (IntKind.u64.wrap ((q : Int) - 1)) w' ∧ (IntKind.u64.wrap ((q : Int) - 1)).toNat < ((q : Int)).toNat) := by
      intro hlt
      have hg' := hg.less (by omega) (by omega)
      have e1 : IntKind.u64.wrap ((q : Int) - 1) = ((q - 1 : Nat) : Int) := by rw [wrap_u64' (by omega) (by omega)]; omega
      refine br_intro (fun h => ?_) (fun h => ?_)
      · rw [e2] at h
        have hf := hg'.done (by omega) (hg'.far eY hy0lt (by omega) (by simp at h; omega))
        rw [out (by rw [e1]; omega), e1, show q - 1 = Q0 by omega, eq]
        exact fin
      · rw [e2] at h ⊢
        rw [e1]
        exact ⟨⟨rfl, rfl, rfl, rfl, rfl, rfl, rfl, rfl, _, _, rfl, rfl, hg', by simp at h; omega, by omega⟩, by omega⟩
    refine br_intro (fun h1 => dec (by simp at h1; omega)) (fun h1 => ?_)
    have h1' : q < 4294967296 := by simp at h1; omega
    have m1 : q * y0 ≤ 4294967295 * 4294967295 := Nat.mul_le_mul (by omega) (by omega)
    have e3 : IntKind.u64.wrap ((q : Int) * (y0 : Int)) = ((q * y0 : Nat) : Int) := by
      have e : (q : Int) * (y0 : Int) = ((q * y0 : Nat) : Int) := by push_cast; rfl
      rw [e, wrap_u64' (by omega) (by omega)]
    have e4 : IntKind.u64.wrap (IntKind.u64.wrap (4294967296 * (r : Int)) + (u0 : Int)) = ((4294967296 * r + u0 : Nat) : Int) := by
      rw [wrap_u64' (x := 4294967296 * (r : Int)) (by omega) (by omega), wrap_u64' (by omega) (by omega)]; omega
    rw [e3, e4]
    have ho := hg.over eY
    refine br_intro (fun h2 => dec ?_) (fun h2 => ?_)
    · have := ho.1 (by simp at h2; omega)
      rw [hQ0, Nat.div_lt_iff_lt_mul (by omega)]
      exact this
    · have hle : q * Y ≤ R1 * 4294967296 + u0 := by
        rcases Nat.lt_or_ge (R1 * 4294967296 + u0) (q * Y) with h | h
        · have := ho.2 h; simp at h2; omega
        · exact h
      have hf := hg.done (by omega) hle
      rw [out (by omega), show q = Q0 by omega, eq]
      exact fin

end Nat
end Go.Proofs.Ytfdajpjiengihaa
namespace Go.Proofs.Ytfdajpjiengihaa
open Go Go.RowKit Eng Sp Dg
set_option linter.unusedVariables false
set_option linter.unusedSimpArgs false
set_option maxRecDepth 100000
namespace Nat

theorem times_step {V P A x m c s c' B : Nat} (h : s + B * c' = x * m + c) (ih : V + c * P = A * m) : V + P * s + c' * (P * B) = (A + P * x) * m := by
  have e1 : P * (s + B * c') = P * s + c' * (P * B) := by rw [Nat.mul_add]; congr 1; ac_rfl
  have e2 : P * (x * m + c) = P * x * m + c * P := by rw [Nat.mul_add, Nat.mul_assoc, Nat.mul_comm c P]
  rw [Nat.add_mul, ← ih, Nat.add_assoc, ← e1, h, e2]; omega
theorem times_digit {x m c B : Nat} (hx : x < B) (hm : m < B) (hc : c < B) :
    (x * m % B + c) % B + B * (x * m / B + (x * m % B + c) / B) = x * m + c ∧ x * m / B + (x * m % B + c) / B < B := by
  have hB : 0 < B := by omega
  have d1 := Nat.mod_add_div (x * m) B
  have d2 := Nat.mod_add_div (x * m % B + c) B
  have e : (x * m % B + c) % B + B * (x * m / B + (x * m % B + c) / B) = x * m + c := by rw [Nat.mul_add]; omega
  refine ⟨e, ?_⟩
  have h1 : x * m ≤ (B - 1) * (B - 1) := Nat.mul_le_mul (by omega) (by omega)
  have h2 : (B - 1) * (B - 1) + (B - 1) = (B - 1) * B := by
    obtain ⟨k, rfl⟩ : ∃ k, B = k + 1 := ⟨B - 1, by omega⟩
    rw [Nat.add_sub_cancel, Nat.mul_succ]
  have h3 : B * (x * m / B + (x * m % B + c) / B) ≤ B * (B - 1) := by rw [Nat.mul_comm B (B - 1)]; omega
  have := Nat.le_of_mul_le_mul_left h3 hB
  omega

theorem Times_spec {w : World} {p : Slc} {a : List Nat} {m : Nat} (hp : Rd .u64 w p (nn a)) (la : a.length ≤ 2 ^ 44) (oa : ok B64 a) (hm : m < B64) :
    Calls pr nat_Times_id #[p.v, .int .u64 (m : Int)] w (Ret w (bigC (val B64 a * m)) (val B64 a * m)) := by
  have hB := B64v
  have hlen := len_le oa
  have hA0 : val B64 (digs B64 (val B64 a)) = val B64 a := val_digs two64 _
  have hoA := ok_digs two64 (val B64 a)
  generalize hA : digs B64 (val B64 a) = A at *
  refine nat_Times_vc p m w _ (fun t0 t1 c t7 t20 t21 t22 w' => t0.n = A.length ∧ t1 = (m : Int) ∧ t21 = (A.length : Int) ∧ ∃ (l : List Nat) (j cr : Nat), t7 = (cr : Int) ∧ cr < B64 ∧ t22 = (j : Int) ∧ j ≤ A.length ∧
    Fill w w' c l (fun w' => Rd .u64 w' t20 (nn A)) ∧ l.length = A.length + 1 ∧ ok B64 l ∧ val B64 (l.take j) + cr * B64 ^ j = val B64 (A.take j) * m) (fun _ _ _ _ _ n i _ => (n - i).toNat) ?_ ?_
  · refine Calls.mono (trim_rd hp la oa) ?_
    rw [hA]
    rintro e w' ⟨rfl, s, rfl, hsn, hs⟩
    refine ⟨_, rfl, ?_⟩
    rw [hsn, wrap_i64 (x := (A.length : Int) + 1) (by omega) (by omega)]
    refine mkF (w0 := w') (S := fun w' => Rd .u64 w' s (nn A)) (by omega) (by omega) (Ahead.refl _) hs ?_
    intro c w3 hcn hf ha
    exact ⟨by first | exact hsn | rfl, rfl, rfl, _, 0, 0, rfl, by omega, rfl, Nat.zero_le _, hf, by simp, ok_replicate (by omega) _, by simp [val]⟩
  · rintro t0 t1 c t7 t20 t21 t22 w' ⟨htn, rfl, rfl, l, j, cr, rfl, hcr, rfl, hj, hf, hl, ol, hv⟩
    have hS := hf.src (fun _ h hs => Rd.ahead hs h)
    refine br_intro (fun hlt => ?_) (fun hge => ?_)
    · have hj' : j < A.length := by simpa using hlt
      have hx := ok_getD hoA (by omega : 0 < B64) j
      refine ldN hS (by omega) (by omega) ?_
      rw [Int.toNat_natCast]
      refine Calls.mono (Try.bits_Mul64 _ _ (by omega) (by omega) _) ?_
      rintro e w4 ⟨rfl, rfl⟩
      refine ⟨_, _, rfl, ?_⟩
      rw [← B64v]
      refine add64 (c := 0) (by omega) ?_
      refine stF hf (by omega) (by omega) ?_
      intro w7 hf7
      rw [Int.toNat_natCast] at hf7
      simp only [Nat.add_zero] at hf7 ⊢
      obtain ⟨r1, r2⟩ := times_digit hx hm hcr
      have hsB : (A.getD j 0 * m % B64 + cr) % B64 < B64 := Nat.mod_lt _ (by omega)
      generalize (A.getD j 0 * m % B64 + cr) % B64 = s at *
      generalize A.getD j 0 * m / B64 = hi' at *
      generalize (A.getD j 0 * m % B64 + cr) / B64 = c1 at *
      have ec : IntKind.u64.wrap ((hi' : Int) + (c1 : Int)) = ((hi' + c1 : Nat) : Int) := by rw [wrap_u64' (by omega) (by omega)]; omega
      have e8 : IntKind.i64.wrap ((j : Int) + 1) = ((j + 1 : Nat) : Int) := by rw [wrap_i64 (by omega) (by omega)]; omega
      rw [ec, e8]
      refine ⟨⟨htn, by trivial, by trivial, _, j + 1, _, rfl, r2, rfl, by omega, hf7, by simpa using hl, ok_set ol hsB, ?_⟩, by omega⟩
      rw [val_take_set _ _ _ (by omega), val_take_succ', Nat.pow_succ]
      exact times_step r1 hv
    · have hj' : j = A.length := by simp at hge; omega
      subst hj'
      rw [htn]
      refine stF hf (by omega) (by omega) ?_
      intro w8 hf8
      rw [Int.toNat_natCast] at hf8
      have hfin : val B64 (l.set A.length cr) = val B64 a * m := by
        rw [← val_take_all (l.set A.length cr) (m := A.length + 1) (by simp; omega), val_take_set _ _ _ (by omega), Nat.mul_comm, hv, val_take_all A (Nat.le_refl _), hA0]
      refine Calls.mono (hf8.told (by simp; omega) (ok_set ol hcr)) ?_
      rw [hfin]
      intro e w3 h
      obtain ⟨h1, s, rfl, h2⟩ := h.ret
      exact ⟨_, _, rfl, h1, _, rfl, h2⟩

/-- Through's answer. -/
def RetQ (w : World) (code : Int) (Q r : Nat) (e : Ending) (w' : World) : Prop :=
  Ahead w w' ∧ ∃ s, e = .returned (.tuple #[Slc.v s, .int .u64 (if code = 0 then r else 0 : Nat), .int .i64 code]) ∧ OwnNil w.heap.size w' s (if code = 0 then digs B64 Q else [])
def thC (x d : Nat) : Int := if d = 0 then 1 else bigC (x / d)
theorem drop_set_self (l : List Nat) (i q : Nat) (h : i < l.length) : (l.set i q).drop i = q :: l.drop (i + 1) := by
  apply List.ext_getElem?
  intro k
  rw [List.getElem?_drop]
  cases k with
  | zero => simp [h]
  | succ k =>
    rw [List.getElem?_set_ne (by omega)]
    simp; congr 1; omega
theorem quot_limb {r x d B : Nat} (hr : r < d) (hx : x < B) : (r * B + x) / d < B := by
  rw [Nat.div_lt_iff_lt_mul (by omega)]
  have : (r + 1) * B ≤ d * B := Nat.mul_le_mul_right _ hr
  rw [Nat.succ_mul] at this
  rw [Nat.mul_comm B d]; omega

theorem Through_spec {w : World} {p : Slc} {a : List Nat} {d : Nat} (hp : Rd .u64 w p (nn a)) (la : a.length ≤ 2 ^ 44) (oa : ok B64 a) (hd : d < B64) :
    Calls pr nat_Through_id #[p.v, .int .u64 (d : Int)] w (RetQ w (thC (val B64 a) d) (val B64 a / d) (val B64 a % d)) := by
  have hB := B64v
  have hlen := len_le oa
  have hA0 : val B64 (digs B64 (val B64 a)) = val B64 a := val_digs two64 _
  have hoA := ok_digs two64 (val B64 a)
  generalize hA : digs B64 (val B64 a) = A at *
  refine nat_Through_vc p d w _ (fun t0 t1 c t8 t9 w' => 0 < d ∧ t1 = (d : Int) ∧ ∃ (l : List Nat) (j r : Nat), t8 = (r : Int) ∧ r < d ∧ t9 = (j : Int) - 1 ∧ j ≤ A.length ∧
    Fill w w' c l (fun w' => Rd .u64 w' t0 (nn A)) ∧ l.length = A.length ∧ ok B64 l ∧ val B64 (A.drop j) = val B64 (l.drop j) * d + r) (fun _ _ _ _ i _ => (i + 1).toNat) ?_ ?_
  · refine br_intro (fun h0 => ?_) (fun h0 => ?_)
    · have h0' : d = 0 := by simpa using h0
      have hc : thC (val B64 a) d = 1 := if_pos h0'
      rw [hc]
      exact ⟨Ahead.refl _, _, rfl, OwnNil.nil⟩
    · have h0' : 0 < d := by simp at h0; omega
      refine Calls.mono (trim_rd hp la oa) ?_
      rw [hA]
      rintro e w' ⟨rfl, s, rfl, hsn, hs⟩
      refine ⟨_, rfl, ?_⟩
      rw [hsn, wrap_i64 (x := (A.length : Int) - 1) (by omega) (by omega)]
      refine mkF (w0 := w') (S := fun w' => Rd .u64 w' s (nn A)) (by omega) (by omega) (Ahead.refl _) hs ?_
      intro c w3 hcn hf ha
      refine ⟨h0', rfl, _, A.length, 0, rfl, h0', rfl, Nat.le_refl _, hf, by simp, ok_replicate (by omega) _, ?_⟩
      rw [List.drop_eq_nil_of_le (Nat.le_refl _), List.drop_eq_nil_of_le (by simp)]; simp [val]
  · rintro t0 t1 c t8 t9 w' ⟨h0, rfl, l, j, r, rfl, hr, rfl, hj, hf, hl, ol, hv⟩
    have hS := hf.src (fun _ h hs => Rd.ahead hs h)
    refine br_intro (fun hge => ?_) (fun hlt => ?_)
    · have hj' : 1 ≤ j := by simp at hge; omega
      have e1 : ((j : Int) - 1) = ((j - 1 : Nat) : Int) := by omega
      have hx := ok_getD hoA (by omega : 0 < B64) (j - 1)
      rw [e1]
      refine ldN hS (by omega) (by omega) ?_
      rw [Int.toNat_natCast]
      refine Calls.mono (Div64_spec hr hx hd) ?_
      rintro e w4 ⟨h4, rfl⟩
      refine ⟨_, _, rfl, ?_⟩
      have hf4 := hf.ahead h4
      refine stF hf4 (by omega) (by omega) ?_
      intro w6 hf6
      rw [Int.toNat_natCast] at hf6
      have hq := quot_limb hr hx
      have hm := Nat.mod_lt (r * B64 + A.getD (j - 1) 0) h0
      have hdm := Nat.mod_add_div (r * B64 + A.getD (j - 1) 0) d
      rw [wrap_i64 (by omega) (by omega)]
      refine ⟨⟨h0, by trivial, _, j - 1, _, rfl, hm, rfl, by omega, hf6, by simpa using hl, ok_set ol hq, ?_⟩, by omega⟩
      rw [drop_set_self _ _ _ (by omega), List.drop_eq_getElem_cons (by omega : j - 1 < A.length), ← getD_lt _ 0, show j - 1 + 1 = j by omega]
      simp only [val]
      rw [hv]
      generalize (r * B64 + A.getD (j - 1) 0) / d = q at *
      generalize (r * B64 + A.getD (j - 1) 0) % d = m at *
      generalize A.getD (j - 1) 0 = x at *
      generalize val B64 (l.drop j) = V at *
      rw [Nat.mul_add, Nat.add_mul, ← Nat.mul_assoc, Nat.mul_comm B64 r, Nat.mul_comm q d]
      omega
    · have hj' : j = 0 := by simp at hlt; omega
      subst hj'
      rw [List.drop_zero, List.drop_zero, hA0] at hv
      have hq : val B64 l = val B64 a / d := by
        rw [hv, Nat.add_comm, Nat.add_mul_div_right _ _ h0, Nat.div_eq_of_lt hr]; omega
      have hm : r = val B64 a % d := by
        rw [hv, Nat.add_comm, Nat.add_mul_mod_self_right, Nat.mod_eq_of_lt hr]
      refine Calls.mono (hf.told (by omega) ol) ?_
      rw [hq]
      intro e w3 h
      obtain ⟨h1, s, rfl, h2⟩ := h.ret
      have hc : thC (val B64 a) d = bigC (val B64 a / d) := if_neg (by omega)
      rw [← hc] at h2 ⊢
      refine ⟨_, _, rfl, br_intro (fun hz => ?_) (fun hz => ?_)⟩
      · have hz' : ¬ thC (val B64 a) d = 0 := by simpa using hz
        refine ⟨h1, _, by rw [if_neg hz']; rfl, ?_⟩
        rw [if_neg hz']; exact OwnNil.nil
      · have hz' : thC (val B64 a) d = 0 := by simpa using hz
        rw [hz', if_pos rfl] at h2
        rw [hz', ← hm]
        exact ⟨h1, _, rfl, h2⟩

theorem times_num {w : World} {p : Slc} {x m : Nat} (hp : Num w p x) (hm : m < B64) : Calls pr nat_Times_id #[p.v, .int .u64 (m : Int)] w (Ret w (bigC (x * m)) (x * m)) := by
  obtain ⟨a, ra, la, oa, rfl⟩ := hp
  exact Times_spec ra la oa hm
theorem through_num {w : World} {p : Slc} {x d : Nat} (hp : Num w p x) (hd : d < B64) : Calls pr nat_Through_id #[p.v, .int .u64 (d : Int)] w (RetQ w (thC x d) (x / d) (x % d)) := by
  obtain ⟨a, ra, la, oa, rfl⟩ := hp
  exact Through_spec ra la oa hd

end Nat
end Go.Proofs.Ytfdajpjiengihaa
namespace Go.Proofs.Ytfdajpjiengihaa
set_option linter.unusedVariables false
set_option linter.unusedSimpArgs false
namespace Cb
def ch : Nat → Nat → Nat
  | _, 0 => 1
  | 0, _ + 1 => 0
  | n + 1, k + 1 => ch n k + ch n (k + 1)
theorem ch_zero (n : Nat) : ch n 0 = 1 := by cases n <;> rfl
theorem ch_succ (n k : Nat) : ch (n + 1) (k + 1) = ch n k + ch n (k + 1) := rfl
theorem ch_gt : ∀ {n k : Nat}, n < k → ch n k = 0
  | 0, k + 1, _ => rfl
  | n + 1, k + 1, h => by rw [ch_succ, ch_gt (by omega), ch_gt (by omega)]
theorem ch_self : ∀ n, ch n n = 1
  | 0 => rfl
  | n + 1 => by rw [ch_succ, ch_self n, ch_gt (by omega)]
theorem ch_up : ∀ n k, (n + 1) * ch n k = ch (n + 1) (k + 1) * (k + 1)
  | 0, 0 => rfl
  | 0, k + 1 => by rw [ch_succ, ch_gt (n := 0) (k := k + 1) (by omega), ch_gt (n := 0) (k := k + 1 + 1) (by omega)]; omega
  | n + 1, 0 => by
    have h := ch_up n 0
    rw [ch_succ (n + 1) 0, ch_zero]
    rw [ch_zero] at h
    omega
  | n + 1, k + 1 => by
    have h1 := ch_up n k
    have h2 := ch_up n (k + 1)
    rw [ch_succ (n + 1) (k + 1), Nat.add_mul (ch (n + 1) (k + 1)), Nat.mul_succ (ch (n + 1) (k + 1)), ← h1, ← h2, Nat.succ_mul (n + 1)]
    have e : (n + 1) * ch (n + 1) (k + 1) = (n + 1) * ch n k + (n + 1) * ch n (k + 1) := by rw [ch_succ n k, Nat.mul_add]
    omega
theorem ch_step (n k : Nat) : ch n k * (n - k) = ch n (k + 1) * (k + 1) := by
  by_cases h : n < k
  · rw [ch_gt h, ch_gt (by omega : n < k + 1)]; omega
  · have h1 := ch_up n k
    rw [ch_succ n k, Nat.add_mul (ch n k)] at h1
    have h2 : ch n k * (n - k) + ch n k * (k + 1) = (n + 1) * ch n k := by rw [← Nat.mul_add, Nat.mul_comm]; congr 1; omega
    omega
theorem ch_sym : ∀ n a b, a + b = n → ch n a = ch n b
  | 0, a, b, h => by rw [show a = 0 by omega, show b = 0 by omega]
  | n + 1, 0, b, h => by rw [show b = n + 1 by omega, ch_self, ch_zero]
  | n + 1, a + 1, 0, h => by rw [show a + 1 = n + 1 by omega, ch_self, ch_zero]
  | n + 1, a + 1, b + 1, h => by rw [ch_succ, ch_succ, ch_sym n a (b + 1) (by omega), ch_sym n (a + 1) b (by omega), Nat.add_comm]
theorem ch_le : ∀ n k, ch n k ≤ 2 ^ n
  | n, 0 => by rw [ch_zero]; exact Nat.pow_pos (by omega)
  | 0, k + 1 => by rw [ch_gt (by omega)]; omega
  | n + 1, k + 1 => by
    have h1 := ch_le n k
    have h2 := ch_le n (k + 1)
    rw [ch_succ, Nat.pow_succ]; omega
/-- The sum of the first i of row n. -/
def rs (n : Nat) : Nat → Nat
  | 0 => 0
  | i + 1 => rs n i + ch n i
theorem rs_succ (n i : Nat) : rs n (i + 1) = rs n i + ch n i := rfl
theorem rs_row (n : Nat) : ∀ i, rs (n + 1) (i + 1) = rs n (i + 1) + rs n i
  | 0 => by simp [rs, ch_zero]
  | i + 1 => by
    have h := rs_row n i
    rw [rs_succ (n + 1) (i + 1), h, ch_succ, rs_succ n (i + 1), rs_succ n i]
    omega
theorem rs_all : ∀ n, rs n (n + 1) = 2 ^ n
  | 0 => rfl
  | n + 1 => by
    have h := rs_all n
    rw [rs_row, rs_succ n (n + 1), ch_gt (by omega), h, Nat.pow_succ]; omega
theorem rs_le (n : Nat) : ∀ i, rs n i ≤ i * 2 ^ n
  | 0 => by simp [rs]
  | i + 1 => by
    have h := rs_le n i
    have h2 := ch_le n i
    rw [rs_succ, Nat.succ_mul]; omega
/-- Fibonacci's numbers. -/
def fib : Nat → Nat
  | 0 => 0
  | 1 => 1
  | n + 2 => fib n + fib (n + 1)
theorem fib_two (n : Nat) : fib (n + 2) = fib n + fib (n + 1) := rfl
theorem fib_add : ∀ n k, fib (n + k + 1) = fib n * fib k + fib (n + 1) * fib (k + 1)
  | 0, k => by simp [fib]
  | n + 1, k => by
    have h := fib_add n (k + 1)
    rw [show n + 1 + k + 1 = n + (k + 1) + 1 by omega, h, fib_two k, fib_two n, Nat.mul_add, Nat.add_mul]
    omega
theorem fib_le : ∀ n, fib n ≤ 2 ^ n ∧ fib (n + 1) ≤ 2 ^ n
  | 0 => by simp [fib]
  | n + 1 => by
    obtain ⟨h1, h2⟩ := fib_le n
    rw [fib_two, Nat.pow_succ]
    omega
/-- The product of m numbers from lo on. -/
def run (lo : Nat) : Nat → Nat
  | 0 => 1
  | m + 1 => run lo m * (lo + m)
theorem run_succ (lo m : Nat) : run lo (m + 1) = run lo m * (lo + m) := rfl
theorem run_add (lo a : Nat) : ∀ b, run lo (a + b) = run lo a * run (lo + a) b
  | 0 => by simp [run]
  | b + 1 => by rw [← Nat.add_assoc, run_succ, run_succ, run_add lo a b, Nat.mul_assoc, Nat.add_assoc]
theorem run_le {lo k : Nat} : ∀ m, lo + m ≤ 2 ^ k + 1 → run lo m ≤ 2 ^ (k * m)
  | 0, _ => by simp [run]
  | m + 1, h => by
    have h1 := run_le (lo := lo) (k := k) m (by omega)
    rw [run_succ, Nat.mul_succ, Nat.pow_add]
    exact Nat.mul_le_mul h1 (by omega)
end Cb
end Go.Proofs.Ytfdajpjiengihaa
namespace Go.Proofs.Ytfdajpjiengihaa
open Go Go.RowKit Eng
set_option linter.unusedVariables false

set_option maxRecDepth 100000 in
/-- surd/mul.run: function 32. -/
theorem mul_run_vc (a0_lo : Int) (a1_hi : Int) (w : World) (R : Ending → World → Prop)
    
    (h : br (decide (a0_lo > a1_hi))
    (Calls Try.prog 37 #[Value.int .u64 1] w fun e1 w1 =>
     ∃ s1 : Slc, e1 = .returned s1.v ∧
     (R (.returned s1.v) w1))
    (br (a0_lo == a1_hi)
     (Calls Try.prog 37 #[Value.int .u64 (IntKind.u64.wrap a0_lo)] w fun e2 w2 =>
      ∃ s2 : Slc, e2 = .returned s2.v ∧
      (R (.returned s2.v) w2))
     (Calls Try.prog 32 #[Value.int .i64 a0_lo, Value.int .i64 (IntKind.i64.wrap (Int.tdiv (IntKind.i64.wrap (a0_lo + a1_hi)) 2))] w fun e3 w3 =>
      ∃ s3 : Slc, e3 = .returned s3.v ∧
      (Calls Try.prog 32 #[Value.int .i64 (IntKind.i64.wrap ((IntKind.i64.wrap (Int.tdiv (IntKind.i64.wrap (a0_lo + a1_hi)) 2)) + 1)), Value.int .i64 a1_hi] w3 fun e4 w4 =>
       ∃ s4 : Slc, e4 = .returned s4.v ∧
       (Calls Try.prog 35 #[s3.v, s4.v, Value.int .i64 40] w4 fun e5 w5 =>
        ∃ s5 : Slc, e5 = .returned s5.v ∧
        (Calls Try.prog 41 #[s5.v] w5 fun e6 w6 =>
         ∃ s6 : Slc, e6 = .returned s6.v ∧
         (R (.returned s6.v) w6))))))) :
    Calls Try.prog 32 #[Value.int .i64 a0_lo, Value.int .i64 a1_hi] w R := by
  refine calls_of_vc (fun _ => none) (by kernel_rfl) Try.func32 rfl ?_ ?_
  · refine kcast h ?_; kernel_rfl
  · exact (obl_seq rfl (obl_reg (obl_seq rfl (obl_seq rfl (obl_reg (obl_cond (obl_seq rfl (obl_reg (obl_ret (obl_skip (obl_seq rfl (obl_seq rfl (obl_reg (obl_cond (obl_seq rfl (obl_reg (obl_ret (obl_skip (obl_seq rfl (obl_reg (obl_seq rfl (obl_reg (obl_ret trivial)))))))))))))))))))))))

set_option maxRecDepth 100000 in
/-- surd/mul.Factorial: function 8. -/
theorem mul_Factorial_vc (a0_n : Int) (w : World) (R : Ending → World → Prop)
    
    (h : br (decide (a0_n < 0))
    (R (.returned (Value.tuple #[(⟨none, 0, 0⟩ : Slc).v, Value.int .i64 1])) w)
    (br (decide (a0_n > 20000))
     (R (.returned (Value.tuple #[(⟨none, 0, 0⟩ : Slc).v, Value.int .i64 1])) w)
     (Calls Try.prog 32 #[Value.int .i64 1, Value.int .i64 a0_n] w fun e1 w1 =>
      ∃ s1 : Slc, e1 = .returned s1.v ∧
      (R (.returned (Value.tuple #[s1.v, Value.int .i64 0])) w1)))) :
    Calls Try.prog 8 #[Value.int .i64 a0_n] w R := by
  refine calls_of_vc (fun _ => none) (by kernel_rfl) Try.func8 rfl ?_ ?_
  · refine kcast h ?_; kernel_rfl
  · exact (obl_seq rfl (obl_reg (obl_seq rfl (obl_seq rfl (obl_reg (obl_cond (obl_seq rfl (obl_reg (obl_ret (obl_skip (obl_seq rfl (obl_reg (obl_ret trivial)))))))))))))

def mul_Binomial_cut (J0 : Int → Int → Slc → Int → World → Prop) (m0 : Int → Int → Slc → Int → World → Nat) : Nat → Option ((Act → World → Prop) × (Act → World → Nat))
  | 0 => some (fun a_ w_ => atSz a_ 50 (atI .i64 a_ 0 fun t0_n => atI .i64 a_ 1 fun t1_k => atS a_ 6 fun t6_out => atI .i64 a_ 7 fun t7_i => J0 t0_n t1_k t6_out t7_i w_), fun a_ w_ => mI a_ 0 fun t0_n => mI a_ 1 fun t1_k => mS a_ 6 fun t6_out => mI a_ 7 fun t7_i => m0 t0_n t1_k t6_out t7_i w_)
  | _ => none

set_option maxRecDepth 100000 in
/-- surd/mul.Binomial: function 12. -/
theorem mul_Binomial_vc (a0_n : Int) (a1_k : Int) (w : World) (R : Ending → World → Prop)
    (J0 : Int → Int → Slc → Int → World → Prop) (m0 : Int → Int → Slc → Int → World → Nat)
    (h : br (decide (a0_n < 0))
    (R (.returned (Value.tuple #[(⟨none, 0, 0⟩ : Slc).v, Value.int .i64 1])) w)
    (br (decide (a0_n > 20000))
     (R (.returned (Value.tuple #[(⟨none, 0, 0⟩ : Slc).v, Value.int .i64 1])) w)
     (br (decide (a1_k < 0))
      (R (.returned (Value.tuple #[(⟨none, 0, 0⟩ : Slc).v, Value.int .i64 0])) w)
      (br (decide (a1_k > a0_n))
       (R (.returned (Value.tuple #[(⟨none, 0, 0⟩ : Slc).v, Value.int .i64 0])) w)
       (Calls Try.prog 37 #[Value.int .u64 1] w fun e1 w1 =>
        ∃ s1 : Slc, e1 = .returned s1.v ∧
        (J0 a0_n a1_k s1 1 w1))))))
    (h0 : ∀ (t0_n : Int) (t1_k : Int) (t6_out : Slc) (t7_i : Int) (w_ : World), J0 t0_n t1_k t6_out t7_i w_ → 
    br (decide (t7_i ≤ (minI t1_k (IntKind.i64.wrap (t0_n - t1_k)))))
    (Calls Try.prog 38 #[t6_out.v, Value.int .u64 (IntKind.u64.wrap (IntKind.i64.wrap ((IntKind.i64.wrap (t0_n - t7_i)) + 1)))] w_ fun e2 w2 =>
     ∃ s2 : Slc, ∃ x1 : Int, e2 = .returned (Value.tuple #[s2.v, Value.int .i64 x1]) ∧
     (Calls Try.prog 39 #[s2.v, Value.int .u64 (IntKind.u64.wrap t7_i)] w2 fun e3 w3 =>
      ∃ s3 : Slc, ∃ x2 : Int, ∃ x3 : Int, e3 = .returned (Value.tuple #[s3.v, Value.int .u64 x2, Value.int .i64 x3]) ∧
      (J0 t0_n t1_k s3 (IntKind.i64.wrap (t7_i + 1)) w3 ∧
       m0 t0_n t1_k s3 (IntKind.i64.wrap (t7_i + 1)) w3 < m0 t0_n t1_k t6_out t7_i w_)))
    (R (.returned (Value.tuple #[t6_out.v, Value.int .i64 0])) w_)) :
    Calls Try.prog 12 #[Value.int .i64 a0_n, Value.int .i64 a1_k] w R := by
  refine calls_of_vc (mul_Binomial_cut J0 m0) (by kernel_rfl) Try.func12 rfl ?_ ?_
  · refine kcast h ?_; kernel_rfl
  · exact (obl_seq rfl (obl_reg (obl_seq rfl (obl_seq rfl (obl_reg (obl_cond (obl_seq rfl (obl_reg (obl_ret (obl_skip (obl_seq rfl (obl_seq rfl (obl_reg (obl_cond (obl_seq rfl (obl_reg (obl_ret (obl_skip (obl_seq rfl (obl_reg (obl_seq rfl (obl_seq rfl (obl_reg (obl_loop _ rfl (fun a_ w_ hL_ => (by
    obtain ⟨hz_, hd_, hL_⟩ := atSz_out hL_
    obtain ⟨t0_n, h0_, hL_⟩ := atI_out hL_
    obtain ⟨t1_k, h1_, hL_⟩ := atI_out hL_
    obtain ⟨t6_out, h6_, hL_⟩ := atS_out hL_
    obtain ⟨t7_i, h7_, hL_⟩ := atI_out hL_
    obtain ⟨g0, rfl⟩ : ∃ g, a_ = Fr 50 [(0, Value.int .i64 t0_n), (1, Value.int .i64 t1_k), (6, t6_out.v), (7, Value.int .i64 t7_i)] g := ⟨_, fr_of hz_ hd_ [(0, Value.int .i64 t0_n), (1, Value.int .i64 t1_k), (6, t6_out.v), (7, Value.int .i64 t7_i)] (sel_cons h0_ (sel_cons h1_ (sel_cons h6_ (sel_cons h7_ sel_nil))))⟩
    clear hz_ hd_ h0_ h1_ h6_ h7_
    have hJ0_ := hL_
    refine ⟨(fun _ => none), kcast (h0 t0_n t1_k t6_out t7_i w_ hJ0_) ?_, ?_⟩
    · kernel_rfl
    · exact (obl_seq rfl (obl_seq rfl (obl_reg (obl_cond (obl_skip (obl_exit (obl_seq rfl (obl_blk rfl (obl_seq rfl (obl_reg (obl_reg (obl_reg trivial)))))))))))))) (obl_seq rfl (obl_reg (obl_ret trivial)))))))))))))))))))))))))))

def mul_Fibonacci_cut (J0 : Slc → Slc → Int → Int → World → Prop) (m0 : Slc → Slc → Int → Int → World → Nat) : Nat → Option ((Act → World → Prop) × (Act → World → Nat))
  | 0 => some (fun a_ w_ => atSz a_ 23 (atS a_ 4 fun t4_a => atS a_ 5 fun t5_b => atI .i64 a_ 13 fun t13 => atI .i64 a_ 14 fun t14 => J0 t4_a t5_b t13 t14 w_), fun a_ w_ => mS a_ 4 fun t4_a => mS a_ 5 fun t5_b => mI a_ 13 fun t13 => mI a_ 14 fun t14 => m0 t4_a t5_b t13 t14 w_)
  | _ => none

set_option maxRecDepth 100000 in
/-- surd/mul.Fibonacci: function 15. -/
theorem mul_Fibonacci_vc (a0_n : Int) (w : World) (R : Ending → World → Prop)
    (J0 : Slc → Slc → Int → Int → World → Prop) (m0 : Slc → Slc → Int → Int → World → Nat)
    (h : br (decide (a0_n < 0))
    (R (.returned (Value.tuple #[(⟨none, 0, 0⟩ : Slc).v, Value.int .i64 1])) w)
    (br (decide (a0_n > 20000))
     (R (.returned (Value.tuple #[(⟨none, 0, 0⟩ : Slc).v, Value.int .i64 1])) w)
     (Calls Try.prog 37 #[Value.int .u64 1] w fun e1 w1 =>
      ∃ s1 : Slc, e1 = .returned s1.v ∧
      (J0 (⟨none, 0, 0⟩ : Slc) s1 a0_n 0 w1))))
    (h0 : ∀ (t4_a : Slc) (t5_b : Slc) (t13 : Int) (t14 : Int) (w_ : World), J0 t4_a t5_b t13 t14 w_ → 
    br (decide (t14 < t13))
    (Calls Try.prog 44 #[t4_a.v, t5_b.v] w_ fun e2 w2 =>
     ∃ s2 : Slc, e2 = .returned s2.v ∧
     (Calls Try.prog 41 #[s2.v] w2 fun e3 w3 =>
      ∃ s3 : Slc, e3 = .returned s3.v ∧
      (J0 t5_b s3 t13 (IntKind.i64.wrap (t14 + 1)) w3 ∧
       m0 t5_b s3 t13 (IntKind.i64.wrap (t14 + 1)) w3 < m0 t4_a t5_b t13 t14 w_)))
    (R (.returned (Value.tuple #[t4_a.v, Value.int .i64 0])) w_)) :
    Calls Try.prog 15 #[Value.int .i64 a0_n] w R := by
  refine calls_of_vc (mul_Fibonacci_cut J0 m0) (by kernel_rfl) Try.func15 rfl ?_ ?_
  · refine kcast h ?_; kernel_rfl
  · exact (obl_seq rfl (obl_reg (obl_seq rfl (obl_seq rfl (obl_reg (obl_cond (obl_seq rfl (obl_reg (obl_ret (obl_skip (obl_seq rfl (obl_reg (obl_seq rfl (obl_seq rfl (obl_reg (obl_loop _ rfl (fun a_ w_ hL_ => (by
    obtain ⟨hz_, hd_, hL_⟩ := atSz_out hL_
    obtain ⟨t4_a, h4_, hL_⟩ := atS_out hL_
    obtain ⟨t5_b, h5_, hL_⟩ := atS_out hL_
    obtain ⟨t13, h13_, hL_⟩ := atI_out hL_
    obtain ⟨t14, h14_, hL_⟩ := atI_out hL_
    obtain ⟨g0, rfl⟩ : ∃ g, a_ = Fr 23 [(4, t4_a.v), (5, t5_b.v), (13, Value.int .i64 t13), (14, Value.int .i64 t14)] g := ⟨_, fr_of hz_ hd_ [(4, t4_a.v), (5, t5_b.v), (13, Value.int .i64 t13), (14, Value.int .i64 t14)] (sel_cons h4_ (sel_cons h5_ (sel_cons h13_ (sel_cons h14_ sel_nil))))⟩
    clear hz_ hd_ h4_ h5_ h13_ h14_
    have hJ0_ := hL_
    refine ⟨(fun _ => none), kcast (h0 t4_a t5_b t13 t14 w_ hJ0_) ?_, ?_⟩
    · kernel_rfl
    · exact (obl_seq rfl (obl_reg (obl_seq rfl (obl_cond (obl_skip (obl_exit (obl_seq rfl (obl_blk rfl (obl_reg (obl_reg trivial)))))))))))) (obl_seq rfl (obl_reg (obl_ret trivial)))))))))))))))))))

def mul_Pow_cut (J0 : Slc → Int → Slc → Int → World → Prop) (m0 : Slc → Int → Slc → Int → World → Nat) : Nat → Option ((Act → World → Prop) × (Act → World → Nat))
  | 0 => some (fun a_ w_ => atSz a_ 63 (atS a_ 0 fun t0_a => atI .i64 a_ 1 fun t1_n => atS a_ 7 fun t7_out => atI .i64 a_ 8 fun t8_i => J0 t0_a t1_n t7_out t8_i w_), fun a_ w_ => mS a_ 0 fun t0_a => mI a_ 1 fun t1_n => mS a_ 7 fun t7_out => mI a_ 8 fun t8_i => m0 t0_a t1_n t7_out t8_i w_)
  | _ => none

set_option maxRecDepth 100000 in
/-- surd/mul.Pow: function 14. -/
theorem mul_Pow_vc (a0_a : Slc) (a1_n : Int) (w : World) (R : Ending → World → Prop)
    (J0 : Slc → Int → Slc → Int → World → Prop) (m0 : Slc → Int → Slc → Int → World → Nat)
    (h : br (decide (a1_n < 0))
    (R (.returned (Value.tuple #[(⟨none, 0, 0⟩ : Slc).v, Value.int .i64 1])) w)
    (Calls Try.prog 41 #[a0_a.v] w fun e1 w1 =>
     ∃ s1 : Slc, e1 = .returned s1.v ∧
     (br (a1_n == 0)
      (Calls Try.prog 37 #[Value.int .u64 1] w1 fun e2 w2 =>
       ∃ s2 : Slc, e2 = .returned s2.v ∧
       (R (.returned (Value.tuple #[s2.v, Value.int .i64 0])) w2))
      (Calls Try.prog 42 #[s1.v] w1 fun e3 w3 =>
       ∃ x1 : Int, e3 = .returned (Value.int .i64 x1) ∧
       (br (decide (x1 ≤ 1))
        (R (.returned (Value.tuple #[s1.v, Value.int .i64 0])) w3)
        (br (decide (a1_n > 67108864))
         (R (.returned (Value.tuple #[(⟨none, 0, 0⟩ : Slc).v, Value.int .i64 3])) w3)
         (br (decide ((IntKind.i64.wrap ((IntKind.i64.wrap ((IntKind.i64.wrap (x1 - 1)) * a1_n)) + 1)) > 67108864))
          (R (.returned (Value.tuple #[(⟨none, 0, 0⟩ : Slc).v, Value.int .i64 3])) w3)
          (Calls Try.prog 37 #[Value.int .u64 1] w3 fun e4 w4 =>
           ∃ s3 : Slc, e4 = .returned s3.v ∧
           (J0 s1 a1_n s3 62 w4)))))))))
    (h0 : ∀ (t0_a : Slc) (t1_n : Int) (t7_out : Slc) (t8_i : Int) (w_ : World), J0 t0_a t1_n t7_out t8_i w_ → 
    br (decide (t8_i ≥ 0))
    (br (decide ((t7_out.n : Int) > 0))
     (Calls Try.prog 43 #[t7_out.v] w_ fun e5 w5 =>
      ∃ s4 : Slc, ∃ x2 : Int, e5 = .returned (Value.tuple #[s4.v, Value.int .i64 x2]) ∧
      (br (x2 != 0)
       (R (.returned (Value.tuple #[(⟨none, 0, 0⟩ : Slc).v, Value.int .i64 x2])) w5)
       (semI Try.prog .i64 (binOp .shr 3 (Value.int .i64 t1_n) (Value.int .i64 t8_i)) w5 fun x3 w6 =>
        br ((andI .i64 x3 1) == 1)
        (Calls Try.prog 9 #[s4.v, t0_a.v] w6 fun e6 w7 =>
         ∃ s5 : Slc, ∃ x4 : Int, e6 = .returned (Value.tuple #[s5.v, Value.int .i64 x4]) ∧
         (br (x4 != 0)
          (R (.returned (Value.tuple #[(⟨none, 0, 0⟩ : Slc).v, Value.int .i64 x4])) w7)
          (J0 t0_a t1_n s5 (IntKind.i64.wrap (t8_i - 1)) w7 ∧
           m0 t0_a t1_n s5 (IntKind.i64.wrap (t8_i - 1)) w7 < m0 t0_a t1_n t7_out t8_i w_)))
        (J0 t0_a t1_n s4 (IntKind.i64.wrap (t8_i - 1)) w6 ∧
         m0 t0_a t1_n s4 (IntKind.i64.wrap (t8_i - 1)) w6 < m0 t0_a t1_n t7_out t8_i w_))))
     (semI Try.prog .i64 (binOp .shr 3 (Value.int .i64 t1_n) (Value.int .i64 t8_i)) w_ fun x5 w8 =>
      br ((andI .i64 x5 1) == 1)
      (Calls Try.prog 9 #[t7_out.v, t0_a.v] w8 fun e7 w9 =>
       ∃ s6 : Slc, ∃ x6 : Int, e7 = .returned (Value.tuple #[s6.v, Value.int .i64 x6]) ∧
       (br (x6 != 0)
        (R (.returned (Value.tuple #[(⟨none, 0, 0⟩ : Slc).v, Value.int .i64 x6])) w9)
        (J0 t0_a t1_n s6 (IntKind.i64.wrap (t8_i - 1)) w9 ∧
         m0 t0_a t1_n s6 (IntKind.i64.wrap (t8_i - 1)) w9 < m0 t0_a t1_n t7_out t8_i w_)))
      (J0 t0_a t1_n t7_out (IntKind.i64.wrap (t8_i - 1)) w8 ∧
       m0 t0_a t1_n t7_out (IntKind.i64.wrap (t8_i - 1)) w8 < m0 t0_a t1_n t7_out t8_i w_)))
    (R (.returned (Value.tuple #[t7_out.v, Value.int .i64 0])) w_)) :
    Calls Try.prog 14 #[a0_a.v, Value.int .i64 a1_n] w R := by
  refine calls_of_vc (mul_Pow_cut J0 m0) (by kernel_rfl) Try.func14 rfl ?_ ?_
  · refine kcast h ?_; kernel_rfl
  · exact (obl_seq rfl (obl_reg (obl_seq rfl (obl_seq rfl (obl_reg (obl_cond (obl_seq rfl (obl_reg (obl_ret (obl_skip (obl_seq rfl (obl_reg (obl_seq rfl (obl_seq rfl (obl_reg (obl_cond (obl_seq rfl (obl_reg (obl_ret (obl_skip (obl_seq rfl (obl_reg (obl_seq rfl (obl_seq rfl (obl_reg (obl_cond (obl_seq rfl (obl_reg (obl_ret (obl_skip (obl_seq rfl (obl_seq rfl (obl_reg (obl_cond (obl_seq rfl (obl_reg (obl_ret (obl_skip (obl_seq rfl (obl_reg (obl_seq rfl (obl_seq rfl (obl_reg (obl_loop _ rfl (fun a_ w_ hL_ => (by
    obtain ⟨hz_, hd_, hL_⟩ := atSz_out hL_
    obtain ⟨t0_a, h0_, hL_⟩ := atS_out hL_
    obtain ⟨t1_n, h1_, hL_⟩ := atI_out hL_
    obtain ⟨t7_out, h7_, hL_⟩ := atS_out hL_
    obtain ⟨t8_i, h8_, hL_⟩ := atI_out hL_
    obtain ⟨g0, rfl⟩ : ∃ g, a_ = Fr 63 [(0, t0_a.v), (1, Value.int .i64 t1_n), (7, t7_out.v), (8, Value.int .i64 t8_i)] g := ⟨_, fr_of hz_ hd_ [(0, t0_a.v), (1, Value.int .i64 t1_n), (7, t7_out.v), (8, Value.int .i64 t8_i)] (sel_cons h0_ (sel_cons h1_ (sel_cons h7_ (sel_cons h8_ sel_nil))))⟩
    clear hz_ hd_ h0_ h1_ h7_ h8_
    have hJ0_ := hL_
    refine ⟨(fun _ => none), kcast (h0 t0_a t1_n t7_out t8_i w_ hJ0_) ?_, ?_⟩
    · kernel_rfl
    · exact (obl_seq rfl (obl_seq rfl (obl_reg (obl_cond (obl_skip (obl_exit (obl_seq rfl (obl_blk rfl (obl_seq rfl (obl_reg (obl_seq rfl (obl_seq rfl (obl_reg (obl_cond (obl_seq rfl (obl_reg (obl_seq rfl (obl_reg (obl_cond (obl_seq rfl (obl_reg (obl_ret (obl_skip (obl_skip (obl_seq rfl (obl_reg (obl_cond (obl_seq rfl (obl_reg (obl_seq rfl (obl_reg (obl_cond (obl_seq rfl (obl_reg (obl_ret (obl_skip (obl_skip (obl_reg trivial)))))))))))))))))))))))))))))))))))))))) (obl_seq rfl (obl_reg (obl_ret trivial)))))))))))))))))))))))))))))))))))))))))))))))

def surdlaw02_MulRecurs_cut (J0 : Int → Int → Slc → Int → World → Prop) (m0 : Int → Int → Slc → Int → World → Nat) (K22 : Int → Int → Slc → Int → World → Int → Int → Slc → Int → Slc → Slc → Slc → World → Prop) : Nat → Option ((Act → World → Prop) × (Act → World → Nat))
  | 0 => some (fun a_ w_ => atSz a_ 204 (atI .i64 a_ 0 fun t0 => atI .i64 a_ 1 fun t1 => atS a_ 11 fun t11 => atI .i64 a_ 12 fun t12 => J0 t0 t1 t11 t12 w_), fun a_ w_ => mI a_ 0 fun t0 => mI a_ 1 fun t1 => mS a_ 11 fun t11 => mI a_ 12 fun t12 => m0 t0 t1 t11 t12 w_)
  | _ => none

def surdlaw02_MulRecurs_cut_0 (J0 : Int → Int → Slc → Int → World → Prop) (m0 : Int → Int → Slc → Int → World → Nat) (K22 : Int → Int → Slc → Int → World → Int → Int → Slc → Int → Slc → Slc → Slc → World → Prop) (o_t0 : Int) (o_t1 : Int) (o_t11 : Slc) (o_t12 : Int) (o_w_ : World) : Nat → Option ((Act → World → Prop) × (Act → World → Nat))
  | 3000022 => some (fun a_ w_ => atSz a_ 204 (atI .i64 a_ 0 fun t0 => atI .i64 a_ 1 fun t1 => atS a_ 11 fun t11 => atI .i64 a_ 12 fun t12 => atS a_ 13 fun t13 => atS a_ 15 fun t15 => atS a_ 17 fun t17 => K22 o_t0 o_t1 o_t11 o_t12 o_w_ t0 t1 t11 t12 t13 t15 t17 w_), fun _ _ => 0)
  | _ => none

set_option maxRecDepth 100000 in
/-- surd/surdlaw02.MulRecurs: function 3. -/
theorem surdlaw02_MulRecurs_vc (a0 : Int) (a1 : Int) (w : World) (R : Ending → World → Prop)
    (J0 : Int → Int → Slc → Int → World → Prop) (m0 : Int → Int → Slc → Int → World → Nat) (K22 : Int → Int → Slc → Int → World → Int → Int → Slc → Int → Slc → Slc → Slc → World → Prop)
    (h : br (decide (a0 < 1))
    (Calls Try.prog 7 #[] w fun e1 w1 =>
     ∃ b1 : Bool, e1 = .returned (Value.bool b1) ∧
     (R (.returned (Value.bool b1)) w1))
    (br (decide (a0 > 300))
     (Calls Try.prog 7 #[] w fun e2 w2 =>
      ∃ b2 : Bool, e2 = .returned (Value.bool b2) ∧
      (R (.returned (Value.bool b2)) w2))
     (Calls Try.prog 8 #[Value.int .i64 a0] w fun e3 w3 =>
      ∃ s1 : Slc, ∃ x1 : Int, e3 = .returned (Value.tuple #[s1.v, Value.int .i64 x1]) ∧
      (Calls Try.prog 8 #[Value.int .i64 (IntKind.i64.wrap (a0 - 1))] w3 fun e4 w4 =>
       ∃ s2 : Slc, ∃ x2 : Int, e4 = .returned (Value.tuple #[s2.v, Value.int .i64 x2]) ∧
       (newC w4 #[Value.int .u64 (IntKind.u64.wrap a0)] 29 fun ad1 w5 =>
        Calls Try.prog 9 #[s2.v, (⟨some ad1, 1, 1⟩ : Slc).v] w5 fun e5 w6 =>
        ∃ s3 : Slc, ∃ x3 : Int, e5 = .returned (Value.tuple #[s3.v, Value.int .i64 x3]) ∧
        (newC w6 #[Value.int .i64 x1, Value.int .i64 x2, Value.int .i64 x3] 25 fun ad2 w7 =>
         Calls Try.prog 10 #[(⟨some ad2, 3, 3⟩ : Slc).v] w7 fun e6 w8 =>
         ∃ b3 : Bool, e6 = .returned (Value.bool b3) ∧
         (br (!b3)
          (R (.returned (Value.bool false)) w8)
          (Calls Try.prog 11 #[s1.v, s3.v] w8 fun e7 w9 =>
           ∃ b4 : Bool, e7 = .returned (Value.bool b4) ∧
           (br (!b4)
            (R (.returned (Value.bool false)) w9)
            (newC w9 #[] 29 fun ad3 w10 =>
             J0 a0 a1 (⟨some ad3, 0, 0⟩ : Slc) 0 w10))))))))))
    (h0 : ∀ (t0 : Int) (t1 : Int) (t11 : Slc) (t12 : Int) (w_ : World), J0 t0 t1 t11 t12 w_ → 
    br (decide (t12 ≤ t0))
    (Calls Try.prog 12 #[Value.int .i64 t0, Value.int .i64 t12] w_ fun e8 w11 =>
     ∃ s4 : Slc, ∃ x4 : Int, e8 = .returned (Value.tuple #[s4.v, Value.int .i64 x4]) ∧
     (Calls Try.prog 12 #[Value.int .i64 (IntKind.i64.wrap (t0 - 1)), Value.int .i64 t12] w11 fun e9 w12 =>
      ∃ s5 : Slc, ∃ x5 : Int, e9 = .returned (Value.tuple #[s5.v, Value.int .i64 x5]) ∧
      (newC w12 #[Value.int .i64 x4, Value.int .i64 x5] 25 fun ad4 w13 =>
       Calls Try.prog 10 #[(⟨some ad4, 2, 2⟩ : Slc).v] w13 fun e10 w14 =>
       ∃ b5 : Bool, e10 = .returned (Value.bool b5) ∧
       (br (!b5)
        (R (.returned (Value.bool false)) w14)
        (newC w14 #[] 29 fun ad5 w15 =>
         br (decide (t12 > 0))
         (Calls Try.prog 12 #[Value.int .i64 (IntKind.i64.wrap (t0 - 1)), Value.int .i64 (IntKind.i64.wrap (t12 - 1))] w15 fun e11 w16 =>
          ∃ s6 : Slc, ∃ x6 : Int, e11 = .returned (Value.tuple #[s6.v, Value.int .i64 x6]) ∧
          (newC w16 #[Value.int .i64 x6] 25 fun ad6 w17 =>
           Calls Try.prog 10 #[(⟨some ad6, 1, 1⟩ : Slc).v] w17 fun e12 w18 =>
           ∃ b6 : Bool, e12 = .returned (Value.bool b6) ∧
           (br (!b6)
            (R (.returned (Value.bool false)) w18)
            (K22 t0 t1 t11 t12 w_ t0 t1 t11 t12 s4 s5 s6 w18))))
         (K22 t0 t1 t11 t12 w_ t0 t1 t11 t12 s4 s5 (⟨some ad5, 0, 0⟩ : Slc) w15))))))
    (newC w_ #[Value.int .u64 2] 29 fun ad7 w22 =>
     Calls Try.prog 14 #[(⟨some ad7, 1, 1⟩ : Slc).v, Value.int .i64 t0] w22 fun e16 w23 =>
     ∃ s9 : Slc, ∃ x7 : Int, e16 = .returned (Value.tuple #[s9.v, Value.int .i64 x7]) ∧
     (newC w23 #[Value.int .i64 x7] 25 fun ad8 w24 =>
      Calls Try.prog 10 #[(⟨some ad8, 1, 1⟩ : Slc).v] w24 fun e17 w25 =>
      ∃ b8 : Bool, e17 = .returned (Value.bool b8) ∧
      (br (!b8)
       (R (.returned (Value.bool false)) w25)
       (Calls Try.prog 11 #[t11.v, s9.v] w25 fun e18 w26 =>
        ∃ b9 : Bool, e18 = .returned (Value.bool b9) ∧
        (br (!b9)
         (R (.returned (Value.bool false)) w26)
         (Calls Try.prog 15 #[Value.int .i64 (IntKind.i64.wrap ((IntKind.i64.wrap (t0 + (Int.tmod (IntKind.i64.wrap ((Int.tmod t1 100) + 100)) 100))) + 1))] w26 fun e19 w27 =>
          ∃ s10 : Slc, ∃ x8 : Int, e19 = .returned (Value.tuple #[s10.v, Value.int .i64 x8]) ∧
          (Calls Try.prog 15 #[Value.int .i64 t0] w27 fun e20 w28 =>
           ∃ s11 : Slc, ∃ x9 : Int, e20 = .returned (Value.tuple #[s11.v, Value.int .i64 x9]) ∧
           (Calls Try.prog 15 #[Value.int .i64 (IntKind.i64.wrap (t0 + 1))] w28 fun e21 w29 =>
            ∃ s12 : Slc, ∃ x10 : Int, e21 = .returned (Value.tuple #[s12.v, Value.int .i64 x10]) ∧
            (Calls Try.prog 15 #[Value.int .i64 (Int.tmod (IntKind.i64.wrap ((Int.tmod t1 100) + 100)) 100)] w29 fun e22 w30 =>
             ∃ s13 : Slc, ∃ x11 : Int, e22 = .returned (Value.tuple #[s13.v, Value.int .i64 x11]) ∧
             (Calls Try.prog 15 #[Value.int .i64 (IntKind.i64.wrap ((Int.tmod (IntKind.i64.wrap ((Int.tmod t1 100) + 100)) 100) + 1))] w30 fun e23 w31 =>
              ∃ s14 : Slc, ∃ x12 : Int, e23 = .returned (Value.tuple #[s14.v, Value.int .i64 x12]) ∧
              (newC w31 #[Value.int .i64 x8, Value.int .i64 x9, Value.int .i64 x10, Value.int .i64 x11, Value.int .i64 x12] 25 fun ad9 w32 =>
               Calls Try.prog 10 #[(⟨some ad9, 5, 5⟩ : Slc).v] w32 fun e24 w33 =>
               ∃ b10 : Bool, e24 = .returned (Value.bool b10) ∧
               (br (!b10)
                (R (.returned (Value.bool false)) w33)
                (Calls Try.prog 9 #[s11.v, s13.v] w33 fun e25 w34 =>
                 ∃ s15 : Slc, ∃ x13 : Int, e25 = .returned (Value.tuple #[s15.v, Value.int .i64 x13]) ∧
                 (Calls Try.prog 9 #[s12.v, s14.v] w34 fun e26 w35 =>
                  ∃ s16 : Slc, ∃ x14 : Int, e26 = .returned (Value.tuple #[s16.v, Value.int .i64 x14]) ∧
                  (newC w35 #[Value.int .i64 x13, Value.int .i64 x14] 25 fun ad10 w36 =>
                   Calls Try.prog 10 #[(⟨some ad10, 2, 2⟩ : Slc).v] w36 fun e27 w37 =>
                   ∃ b11 : Bool, e27 = .returned (Value.bool b11) ∧
                   (br b11
                    (Calls Try.prog 13 #[s15.v, s16.v] w37 fun e28 w38 =>
                     ∃ s17 : Slc, e28 = .returned s17.v ∧
                     (Calls Try.prog 11 #[s10.v, s17.v] w38 fun e29 w39 =>
                      ∃ b12 : Bool, e29 = .returned (Value.bool b12) ∧
                      (br b12
                       (Calls Try.prog 7 #[] w39 fun e30 w40 =>
                        ∃ b13 : Bool, e30 = .returned (Value.bool b13) ∧
                        (R (.returned (Value.bool b13)) w40))
                       (R (.returned (Value.bool false)) w39))))
                    (R (.returned (Value.bool false)) w37))))))))))))))))))
    (h3000022 : ∀ (t0 : Int) (t1 : Int) (t11 : Slc) (t12 : Int) (w_ : World), J0 t0 t1 t11 t12 w_ → ∀ (t0' : Int) (t1' : Int) (t11' : Slc) (t12' : Int) (t13' : Slc) (t15' : Slc) (t17' : Slc) (w__ : World), K22 t0 t1 t11 t12 w_ t0' t1' t11' t12' t13' t15' t17' w__ → 
    Calls Try.prog 13 #[t17'.v, t15'.v] w__ fun e13 w19 =>
    ∃ s7 : Slc, e13 = .returned s7.v ∧
    (Calls Try.prog 11 #[t13'.v, s7.v] w19 fun e14 w20 =>
     ∃ b7 : Bool, e14 = .returned (Value.bool b7) ∧
     (br (!b7)
      (R (.returned (Value.bool false)) w20)
      (Calls Try.prog 13 #[t11'.v, t13'.v] w20 fun e15 w21 =>
       ∃ s8 : Slc, e15 = .returned s8.v ∧
       (J0 t0' t1' s8 (IntKind.i64.wrap (t12' + 1)) w21 ∧
        m0 t0' t1' s8 (IntKind.i64.wrap (t12' + 1)) w21 < m0 t0 t1 t11 t12 w_))))) :
    Calls Try.prog 3 #[Value.int .i64 a0, Value.int .i64 a1] w R := by
  refine calls_of_vc (surdlaw02_MulRecurs_cut J0 m0 K22) (by kernel_rfl) Try.func3 rfl ?_ ?_
  · refine kcast h ?_; kernel_rfl
  · exact (obl_seq rfl (obl_reg (obl_seq rfl (obl_seq rfl (obl_reg (obl_cond (obl_seq rfl (obl_reg (obl_ret (obl_skip (obl_seq rfl (obl_reg (obl_seq rfl (obl_reg (obl_seq rfl (obl_reg (obl_seq rfl (obl_seq rfl (obl_reg (obl_cond (obl_seq rfl (obl_reg (obl_ret (obl_skip (obl_seq rfl (obl_reg (obl_seq rfl (obl_seq rfl (obl_reg (obl_loop _ rfl (fun a_ w_ hL_ => (by
    obtain ⟨hz_, hd_, hL_⟩ := atSz_out hL_
    obtain ⟨t0, h0_, hL_⟩ := atI_out hL_
    obtain ⟨t1, h1_, hL_⟩ := atI_out hL_
    obtain ⟨t11, h11_, hL_⟩ := atS_out hL_
    obtain ⟨t12, h12_, hL_⟩ := atI_out hL_
    obtain ⟨g0, rfl⟩ : ∃ g, a_ = Fr 204 [(0, Value.int .i64 t0), (1, Value.int .i64 t1), (11, t11.v), (12, Value.int .i64 t12)] g := ⟨_, fr_of hz_ hd_ [(0, Value.int .i64 t0), (1, Value.int .i64 t1), (11, t11.v), (12, Value.int .i64 t12)] (sel_cons h0_ (sel_cons h1_ (sel_cons h11_ (sel_cons h12_ sel_nil))))⟩
    clear hz_ hd_ h0_ h1_ h11_ h12_
    have hJ0_ := hL_
    refine ⟨(surdlaw02_MulRecurs_cut_0 J0 m0 K22 t0 t1 t11 t12 w_), kcast (h0 t0 t1 t11 t12 w_ hJ0_) ?_, ?_⟩
    · kernel_rfl
    · exact (obl_seq rfl (obl_seq rfl (obl_reg (obl_cond (obl_skip (obl_exit (obl_seq rfl (obl_blk rfl (obl_seq rfl (obl_reg (obl_seq rfl (obl_reg (obl_seq rfl (obl_seq rfl (obl_reg (obl_cond (obl_seq rfl (obl_reg (obl_ret (obl_skip (obl_seq rfl (obl_reg (obl_join _ rfl (obl_seq rfl (obl_reg (obl_cond (obl_seq rfl (obl_reg (obl_seq rfl (obl_reg (obl_cond (obl_seq rfl (obl_reg (obl_ret (obl_skip (obl_skip (obl_reg trivial)))))))))))))) (fun a_ w__ hL_ => (by
      obtain ⟨hz_, hd_, hL_⟩ := atSz_out hL_
      obtain ⟨t0', h0_, hL_⟩ := atI_out hL_
      obtain ⟨t1', h1_, hL_⟩ := atI_out hL_
      obtain ⟨t11', h11_, hL_⟩ := atS_out hL_
      obtain ⟨t12', h12_, hL_⟩ := atI_out hL_
      obtain ⟨t13', h13_, hL_⟩ := atS_out hL_
      obtain ⟨t15', h15_, hL_⟩ := atS_out hL_
      obtain ⟨t17', h17_, hL_⟩ := atS_out hL_
      obtain ⟨g3000022, rfl⟩ : ∃ g, a_ = Fr 204 [(0, Value.int .i64 t0'), (1, Value.int .i64 t1'), (11, t11'.v), (12, Value.int .i64 t12'), (13, t13'.v), (15, t15'.v), (17, t17'.v)] g := ⟨_, fr_of hz_ hd_ [(0, Value.int .i64 t0'), (1, Value.int .i64 t1'), (11, t11'.v), (12, Value.int .i64 t12'), (13, t13'.v), (15, t15'.v), (17, t17'.v)] (sel_cons h0_ (sel_cons h1_ (sel_cons h11_ (sel_cons h12_ (sel_cons h13_ (sel_cons h15_ (sel_cons h17_ sel_nil)))))))⟩
      clear hz_ hd_ h0_ h1_ h11_ h12_ h13_ h15_ h17_
      have hJ3000022_ := hL_
      refine ⟨(surdlaw02_MulRecurs_cut_0 J0 m0 K22 t0 t1 t11 t12 w_), kcast (h3000022 t0 t1 t11 t12 w_ hJ0_ t0' t1' t11' t12' t13' t15' t17' w__ hJ3000022_) ?_, ?_⟩
      · kernel_rfl
      · exact (obl_seq rfl (obl_seq rfl (obl_reg (obl_cond (obl_seq rfl (obl_reg (obl_ret (obl_skip (obl_reg trivial)))))))))))))))))))))))))))))))))))) (obl_seq rfl (obl_reg (obl_seq rfl (obl_seq rfl (obl_reg (obl_cond (obl_seq rfl (obl_reg (obl_ret (obl_skip (obl_seq rfl (obl_reg (obl_seq rfl (obl_reg (obl_seq rfl (obl_reg (obl_seq rfl (obl_reg (obl_seq rfl (obl_reg (obl_seq rfl (obl_reg (obl_seq rfl (obl_seq rfl (obl_reg (obl_cond (obl_seq rfl (obl_reg (obl_ret (obl_skip (obl_seq rfl (obl_reg (obl_seq rfl (obl_reg (obl_seq rfl (obl_reg (obl_ret trivial)))))))))))))))))))))))))))))))))))))))))))))))))))))))))))))))))))

end Go.Proofs.Ytfdajpjiengihaa
namespace Go.Proofs.Ytfdajpjiengihaa
open Go Go.RowKit Eng Sp Dg
set_option linter.unusedVariables false
set_option linter.unusedSimpArgs false
set_option maxRecDepth 100000
namespace Mul
open _root_.Go.Proofs.Ytfdajpjiengihaa.Nat (Num OwnNil OwnNil.nil OwnNil.rd OwnNil.mono OwnNil.ahead Ret bigC bigC_ok digs_len_bl Yes own_num Norm_spec From_spec times_num through_num thC len_num andI_i64)

theorem semShrI {x y : Nat} {t : TypeId} {w : World} {K : Int → World → Prop} (hy : y < 64) (h : K ((x / 2 ^ y : Nat) : Int) w) :
    semI pr .i64 (binOp .shr t (.int .i64 (x : Int)) (.int .i64 (y : Int))) w K := by
  have e : binOp .shr t (.int .i64 (x : Int)) (.int .i64 (y : Int)) = pure (.int .i64 ((x / 2 ^ y : Nat) : Int)) := by
    rw [binOp_shr, shift_shr_any .i64 .i64 _ _ (by omega)]
    have : min ((y : Int)).toNat IntKind.i64.bits = y := by
      have : IntKind.i64.bits = 64 := rfl
      rw [this]; omega
    rw [this]
    congr 2
  unfold semI
  rw [e, Sem.wp_iff_run]
  exact ⟨_, rfl, h⟩

theorem run_len (lo m : Nat) (h : lo + m ≤ 20001) : (digs B64 (Cb.run lo m)).length ≤ m + 1 := by
  have h1 := Cb.run_le (lo := lo) (k := 15) m (by omega)
  refine digs_length_le two64 (Nat.lt_of_le_of_lt h1 ?_)
  rw [b64_pow]
  exact Nat.pow_lt_pow_right (by omega) (by omega)
theorem run_spec : ∀ (m lo : Nat) (w : World), lo + m ≤ 20001 → Calls pr mul_run_id #[.int .i64 (lo : Int), .int .i64 ((lo : Int) + m - 1)] w fun e w' => Ahead w w' ∧ ∃ s, e = .returned (Slc.v s) ∧ OwnNil w.heap.size w' s (digs B64 (Cb.run lo m)) := by
  have hB := B64v
  intro m
  induction m using Nat.strongRecOn with
  | ind m ih =>
  intro lo w hm
  refine mul_run_vc _ _ w _ (br_intro (fun h => ?_) (fun h => br_intro (fun h2 => ?_) (fun h2 => ?_)))
  · have h' : m = 0 := by have := of_decide_eq_true h; omega
    subst h'
    refine Calls.mono (From_spec (v := 1) (by omega)) ?_
    rintro e w1 ⟨h1, s, rfl, o⟩
    exact ⟨_, rfl, h1, s, rfl, o⟩
  · have h' : m = 1 := by have := eq_of_beq h2; omega
    subst h'
    rw [wrap_u64' (by omega) (by omega)]
    refine Calls.mono (From_spec (v := lo) (by omega)) ?_
    rintro e w1 ⟨h1, s, rfl, o⟩
    refine ⟨_, rfl, h1, s, rfl, ?_⟩
    have : Cb.run lo 1 = lo := by simp [Cb.run]
    rw [this]; exact o
  · have q1 := of_decide_eq_false h
    have q2 : ¬ (lo : Int) = (lo : Int) + m - 1 := fun h => by rw [← h] at h2; simp at h2
    have hm2 : 2 ≤ m := by omega
    obtain ⟨a, ha⟩ : ∃ a, a = (m - 1) / 2 + 1 := ⟨_, rfl⟩
    have e1 : IntKind.i64.wrap (Int.tdiv (IntKind.i64.wrap ((lo : Int) + ((lo : Int) + m - 1))) 2) = (lo : Int) + a - 1 := by
      rw [wrap_i64 (x := (lo : Int) + _) (by omega) (by omega), Int.tdiv_eq_ediv_of_nonneg (by omega), wrap_i64 (by omega) (by omega)]
      omega
    rw [e1, wrap_i64 (x := (lo : Int) + a - 1 + 1) (by omega) (by omega), show (lo : Int) + a - 1 + 1 = ((lo + a : Nat) : Int) by omega,
      show (lo : Int) + m - 1 = ((lo + a : Nat) : Int) + ((m - a : Nat) : Int) - 1 by omega]
    refine Calls.mono (ih a (by omega) lo w (by omega)) ?_
    rintro e w1 ⟨h1, s, rfl, os⟩
    refine ⟨_, rfl, Calls.mono (ih (m - a) (by omega) (lo + a) w1 (by omega)) ?_⟩
    rintro e w2 ⟨h2, t, rfl, ot⟩
    have l1 := run_len lo a (by omega)
    have l2 := run_len (lo + a) (m - a) (by omega)
    refine ⟨_, rfl, Calls.mono (halved_spec _ w2 s _ (os.ahead h2).rd (ok_digs two64 _) t _ ot.rd (ok_digs two64 _) 40 (by omega) (by omega) (by omega) (Nat.le_refl _)) ?_⟩
    rintro e w3 ⟨h3, u, L, rfl, ou, nu, ku, vu⟩
    rw [val_digs two64, val_digs two64, ← Cb.run_add, show a + (m - a) = m by omega] at vu
    refine ⟨_, rfl, Calls.mono (Norm_spec ou.rd (by omega) ku) ?_⟩
    rw [vu]
    rintro e w4 ⟨h4, v, rfl, ov⟩
    have h03 := (h1.trans h2).trans h3
    exact ⟨_, rfl, h03.trans h4, v, rfl, ov.mono h03.size⟩
theorem Factorial_spec {w : World} {n : Nat} (hn : n ≤ 20000) : Calls pr mul_Factorial_id #[.int .i64 (n : Int)] w (Ret w 0 (Cb.run 1 n)) := by
  refine mul_Factorial_vc _ w _ (br_false (decide_eq_false (by omega)) (br_false (decide_eq_false (by omega)) ?_))
  have := run_spec n 1 w (by omega)
  rw [show ((1 : Nat) : Int) + (n : Int) - 1 = (n : Int) by omega] at this
  refine Calls.mono this ?_
  rintro e w1 ⟨h1, s, rfl, o⟩
  exact ⟨_, rfl, h1, s, rfl, by rw [if_pos rfl]; exact o⟩
theorem ch_bl (n k : Nat) : bl (Cb.ch n k) ≤ n + 1 := bl_le (Nat.lt_of_le_of_lt (Cb.ch_le n k) (Nat.pow_lt_pow_right (by omega) (by omega)))
theorem Binomial_spec {w : World} {n k : Nat} (hn : n ≤ 20000) (hk : k ≤ 20000) : Calls pr mul_Binomial_id #[.int .i64 (n : Int), .int .i64 (k : Int)] w (Ret w 0 (Cb.ch n k)) := by
  have hB := B64v
  refine mul_Binomial_vc _ _ w _ (fun t0 t1 out i w' => t0 = (n : Int) ∧ t1 = (k : Int) ∧ k ≤ n ∧ ∃ j : Nat, i = (j : Int) + 1 ∧ j ≤ min k (n - k) ∧ Ahead w w' ∧ OwnNil w.heap.size w' out (digs B64 (Cb.ch n j))) (fun _ _ _ i _ => (20002 - i).toNat) ?_ ?_
  · refine br_false (decide_eq_false (by omega)) (br_false (decide_eq_false (by omega)) (br_false (decide_eq_false (by omega)) (br_intro (fun h => ?_) (fun h => ?_))))
    · have h' := of_decide_eq_true h
      refine ⟨Ahead.refl _, _, rfl, ?_⟩
      rw [if_pos rfl, Cb.ch_gt (by omega), digs_zero]
      exact OwnNil.nil
    · have h' := of_decide_eq_false h
      refine Calls.mono (From_spec (v := 1) (by omega)) ?_
      rintro e w1 ⟨h1, s, rfl, o⟩
      refine ⟨_, rfl, rfl, rfl, by omega, 0, rfl, Nat.zero_le _, h1, ?_⟩
      rw [Cb.ch_zero]; exact o
  · rintro t0 t1 out i w1 ⟨rfl, rfl, hkn, j, rfl, hj, h1, o⟩
    have em : minI (k : Int) (IntKind.i64.wrap ((n : Int) - (k : Int))) = ((min k (n - k) : Nat) : Int) := by
      rw [wrap_i64 (by omega) (by omega)]
      unfold minI; split <;> omega
    rw [em]
    refine br_intro (fun hlt => ?_) (fun hge => ?_)
    · have hj' : j < min k (n - k) := by have := of_decide_eq_true hlt; omega
      rw [wrap_i64 (x := (n : Int) - _) (by omega) (by omega), wrap_i64 (x := (n : Int) - _ + 1) (by omega) (by omega), wrap_u64' (x := (n : Int) - _ + 1) (by omega) (by omega), show (n : Int) - ((j : Int) + 1) + 1 = ((n - j : Nat) : Int) by omega]
      have hs := Cb.ch_step n j
      have b1 := ch_bl n j
      have b2 := ch_bl n (j + 1)
      have b3 : bl (Cb.ch n j * (n - j)) ≤ 67108864 := by
        refine Nat.le_trans (bl_le_mul _ _) ?_
        have : bl (n - j) ≤ 15 := bl_le (by omega)
        omega
      refine Calls.mono (times_num (own_num o (by omega)) (by omega)) ?_
      intro e w2 hr
      obtain ⟨h2, s, rfl, _, ns⟩ := hr.num (bigC_ok b3) b3
      refine ⟨_, _, rfl, ?_⟩
      rw [wrap_u64' (by omega) (by omega), show (j : Int) + 1 = ((j + 1 : Nat) : Int) by omega]
      refine Calls.mono (through_num ns (by omega)) ?_
      rintro e w3 ⟨h3, t, rfl, ot⟩
      have eq : Cb.ch n j * (n - j) / (j + 1) = Cb.ch n (j + 1) := by rw [hs]; exact Nat.mul_div_cancel _ (by omega)
      have ec : thC (Cb.ch n j * (n - j)) (j + 1) = 0 := by rw [thC, if_neg (by omega), eq]; exact bigC_ok (by omega)
      rw [ec, if_pos rfl, eq] at ot
      rw [wrap_i64 (by omega) (by omega)]
      refine ⟨_, _, _, rfl, ⟨rfl, rfl, hkn, j + 1, rfl, hj', (h1.trans h2).trans h3, ot.mono (h1.trans h2).size⟩, by omega⟩
    · have hj' : j = min k (n - k) := by have := of_decide_eq_false hge; omega
      refine ⟨h1, _, rfl, ?_⟩
      rw [if_pos rfl]
      have : Cb.ch n j = Cb.ch n k := by
        rcases Nat.le_total k (n - k) with h | h
        · rw [hj', Nat.min_eq_left h]
        · rw [hj', Nat.min_eq_right h]; exact (Cb.ch_sym n _ _ (by omega))
      rw [← this]; exact o
theorem fib_bl (n : Nat) : bl (Cb.fib n) ≤ n + 1 := bl_le (Nat.lt_of_le_of_lt (Cb.fib_le n).1 (Nat.pow_lt_pow_right (by omega) (by omega)))
theorem Fibonacci_spec {w : World} {n : Nat} (hn : n ≤ 20000) : Calls pr mul_Fibonacci_id #[.int .i64 (n : Int)] w (Ret w 0 (Cb.fib n)) := by
  have hB := B64v
  refine mul_Fibonacci_vc _ w _ (fun a b t i w' => t = (n : Int) ∧ ∃ j : Nat, i = (j : Int) ∧ j ≤ n ∧ Ahead w w' ∧ OwnNil w.heap.size w' a (digs B64 (Cb.fib j)) ∧ OwnNil w.heap.size w' b (digs B64 (Cb.fib (j + 1)))) (fun _ _ t i _ => (t - i).toNat) ?_ ?_
  · refine br_false (decide_eq_false (by omega)) (br_false (decide_eq_false (by omega)) ?_)
    refine Calls.mono (From_spec (v := 1) (by omega)) ?_
    rintro e w1 ⟨h1, s, rfl, o⟩
    refine ⟨_, rfl, rfl, 0, rfl, Nat.zero_le _, h1, ?_, o⟩
    rw [show Cb.fib 0 = 0 from rfl, digs_zero]
    exact OwnNil.nil
  · rintro a b t i w1 ⟨rfl, j, rfl, hj, h1, oa, ob⟩
    refine br_intro (fun hlt => ?_) (fun hge => ?_)
    · have hj' : j < n := by have := of_decide_eq_true hlt; omega
      have b1 := fib_bl j
      have b2 := fib_bl (j + 1)
      have l1 := digs_len_bl (N := Cb.fib j) (m := j + 1) (by omega)
      have l2 := digs_len_bl (N := Cb.fib (j + 1)) (m := j + 2) (by omega)
      refine Calls.mono (sum_spec oa.rd ob.rd (ok_digs two64 _) (ok_digs two64 _) (by omega) (by omega)) ?_
      rintro e w2 ⟨h2, s, l, rfl, os, ls, ks, vs⟩
      refine ⟨_, rfl, Calls.mono (Norm_spec os.rd (by omega) ks) ?_⟩
      rw [vs, val_digs two64, val_digs two64, ← Cb.fib_two]
      rintro e w3 ⟨h3, u, rfl, ou⟩
      rw [wrap_i64 (by omega) (by omega)]
      exact ⟨_, rfl, ⟨rfl, j + 1, rfl, hj', (h1.trans h2).trans h3, (ob.ahead h2).ahead h3, ou.mono (h1.trans h2).size⟩, by omega⟩
    · have hj' : j = n := by have := of_decide_eq_false hge; omega
      subst hj'
      exact ⟨h1, _, rfl, by rw [if_pos rfl]; exact oa⟩

theorem pow_bl {x n m : Nat} (h : m ≤ n) (hb : bl x * n ≤ 67108864) : bl (x ^ m) ≤ 67108864 := by
  have h1 : x ^ m < 2 ^ (bl x * m + 1) := by
    refine Nat.lt_of_le_of_lt (Nat.pow_le_pow_left (Nat.le_of_lt (lt_bl x)) m) ?_
    rw [← Nat.pow_mul]
    exact Nat.pow_lt_pow_right (by omega) (by omega)
  rcases Nat.eq_zero_or_pos m with h0 | h0
  · subst h0
    rw [Nat.pow_zero]
    exact Nat.le_trans (bl_le (k := 1) (by omega)) (by omega)
  · have : x ^ m < 2 ^ (bl x * m) := by
      rw [Nat.pow_mul]
      exact Nat.pow_lt_pow_left (lt_bl x) (by omega)
    exact Nat.le_trans (bl_le this) (Nat.le_trans (Nat.mul_le_mul_left _ h) hb)
theorem Pow_spec {w : World} {a : Slc} {x n : Nat} (ha : Num w a x) (hx : 2 ≤ bl x) (h0 : 1 ≤ n) (hb : bl x * n ≤ 67108864) : Calls pr mul_Pow_id #[a.v, .int .i64 (n : Int)] w (Ret w 0 (x ^ n)) := by
  have hB := B64v
  have hn : n ≤ 67108864 := Nat.le_trans (Nat.le_mul_of_pos_left n (by omega)) hb
  have hxb : bl x ≤ 67108864 := Nat.le_trans (Nat.le_mul_of_pos_right (bl x) h0) hb
  have hne : x ≠ 0 := fun h => by rw [h, bl_zero] at hx; omega
  have lx := digs_len_bl (N := x) (m := 2 ^ 20) (by omega)
  have lp : ∀ m, m ≤ n → bl (x ^ m) ≤ 67108864 ∧ (digs B64 (x ^ m)).length ≤ 2 ^ 20 := fun m h => ⟨pow_bl h hb, digs_len_bl (m := 2 ^ 20) (by have := pow_bl h hb; omega)⟩
  refine mul_Pow_vc a _ w _ (fun s t out i w' => t = (n : Int) ∧ ∃ j : Nat, i = (j : Int) - 1 ∧ j ≤ 63 ∧ Ahead w w' ∧ OwnNil w.heap.size w' s (digs B64 x) ∧ OwnNil w.heap.size w' out (digs B64 (x ^ (n / 2 ^ j)))) (fun _ _ _ i _ => (i + 1).toNat) ?_ ?_
  · refine br_false (decide_eq_false (by omega)) ?_
    obtain ⟨l, rl, ll, ol, vl⟩ := ha
    refine Calls.mono (Norm_spec rl ll ol) ?_
    rw [vl]
    rintro e w1 ⟨h1, s, rfl, os⟩
    refine ⟨_, rfl, br_false (beq_eq_false_iff_ne.2 (by omega)) (Calls.mono (len_num (own_num os hxb)) ?_)⟩
    rintro e w2 ⟨rfl, rfl⟩
    refine ⟨_, rfl, br_false (decide_eq_false (by omega)) (br_false (decide_eq_false (by omega)) ?_)⟩
    have hm : (bl x - 1) * n + 1 ≤ 67108864 := by
      have : (bl x - 1) * n + n = bl x * n := by rw [← Nat.succ_mul]; congr 1; omega
      omega
    have e1 : ((bl x : Int) - 1) * (n : Int) = (((bl x - 1) * n : Nat) : Int) := by rw [Int.natCast_mul]; congr 1; omega
    rw [wrap_i64 (x := (bl x : Int) - 1) (by omega) (by omega), e1, wrap_i64 (x := (((bl x - 1) * n : Nat) : Int)) (by omega) (by omega), wrap_i64 (by omega) (by omega)]
    refine br_false (decide_eq_false (by omega)) ?_
    refine Calls.mono (From_spec (v := 1) (by omega)) ?_
    rintro e w3 ⟨h3, t, rfl, ot⟩
    refine ⟨_, rfl, rfl, 63, rfl, Nat.le_refl _, h1.trans h3, os.ahead h3, ?_⟩
    rw [Nat.div_eq_of_lt (by omega), Nat.pow_zero]
    exact ot.mono h1.size
  · rintro s t out i w1 ⟨rfl, j, rfl, hj, h1, os, oo⟩
    refine br_intro (fun hge => ?_) (fun hlt => ?_)
    · have hj' : 1 ≤ j := by have := of_decide_eq_true hge; omega
      have hle : n / 2 ^ j ≤ n := Nat.div_le_self _ _
      have hle2 : n / 2 ^ (j - 1) ≤ n := Nat.div_le_self _ _
      have hdd : n / 2 ^ (j - 1) / 2 = n / 2 ^ j := by
        rw [Nat.div_div_eq_div_mul, ← Nat.pow_succ]; congr 2; omega
      have hpos : 0 < x ^ (n / 2 ^ j) := Nat.pow_pos (by omega)
      have hlen : 0 < out.n := by
        rw [oo.rd.n, nn_length]
        exact List.length_pos_iff.2 (digs_ne_nil two64 (by omega))
      have lo := lp _ hle
      have l2 := lp _ hle2
      have hsq : x ^ (n / 2 ^ j) * x ^ (n / 2 ^ j) = x ^ (2 * (n / 2 ^ j)) := by rw [← Nat.pow_add]; congr 1; omega
      have lsq := lp (2 * (n / 2 ^ j)) (by omega)
      have no : Num w1 out (x ^ (n / 2 ^ j)) := own_num oo lo.1
      refine br_true (decide_eq_true (by omega)) (mul_Square_vc out w1 _ (Calls.mono (Mul_spec no no (by omega) (by omega)) ?_))
      rw [hsq]
      intro e w2 hr
      obtain ⟨h2, q, rfl, oq, nq⟩ := hr.num (bigC_ok lsq.1) lsq.1
      refine ⟨_, _, rfl, _, _, rfl, br_false rfl ?_⟩
      rw [show (j : Int) - 1 = ((j - 1 : Nat) : Int) by omega]
      refine semShrI (by omega) ?_
      rw [show (1 : Int) = ((1 : Nat) : Int) from rfl, andI_i64 (by omega) (by omega), Nat.and_one_is_mod, show ((j - 1 : Nat) : Int) - ((1 : Nat) : Int) = ((j - 1 : Nat) : Int) - 1 from rfl, wrap_i64 (x := ((j - 1 : Nat) : Int) - 1) (by omega) (by omega)]
      refine br_intro (fun hbit => ?_) (fun hbit => ?_)
      · have hb1 : n / 2 ^ (j - 1) % 2 = 1 := by have := eq_of_beq hbit; omega
        have ee : x ^ (2 * (n / 2 ^ j)) * x = x ^ (n / 2 ^ (j - 1)) := by rw [← Nat.pow_succ]; congr 1; omega
        refine Calls.mono (Mul_spec nq (own_num (os.ahead h2) hxb) (by omega) (by omega)) ?_
        rw [ee]
        intro e w3 hr
        obtain ⟨h3, u, rfl, ou, nu⟩ := hr.num (bigC_ok l2.1) l2.1
        refine ⟨_, _, rfl, br_false rfl ⟨⟨rfl, j - 1, rfl, by omega, (h1.trans h2).trans h3, (os.ahead h2).ahead h3, ou.mono (h1.trans h2).size⟩, by omega⟩⟩
      · have hb0 : n / 2 ^ (j - 1) % 2 = 0 := by
          have : ¬ n / 2 ^ (j - 1) % 2 = 1 := fun h => by rw [h] at hbit; simp at hbit
          omega
        have ee : 2 * (n / 2 ^ j) = n / 2 ^ (j - 1) := by omega
        rw [ee] at oq
        exact ⟨⟨rfl, j - 1, rfl, by omega, h1.trans h2, os.ahead h2, oq.mono h1.size⟩, by omega⟩
    · have hj' : j = 0 := by have := of_decide_eq_false hlt; omega
      subst hj'
      rw [Nat.pow_zero, Nat.div_one] at oo
      exact ⟨h1, _, rfl, by rw [if_pos rfl]; exact oo⟩

end Mul
end Go.Proofs.Ytfdajpjiengihaa
namespace Go.Proofs.Ytfdajpjiengihaa
open Go Go.RowKit Eng Sp Dg
set_option linter.unusedVariables false
set_option linter.unusedSimpArgs false
set_option maxRecDepth 100000
namespace Mul
open _root_.Go.Proofs.Ytfdajpjiengihaa.Nat (Num OwnNil OwnNil.nil OwnNil.rd OwnNil.mono OwnNil.ahead Ret bigC bigC_ok digs_len_bl Yes own_num)

/-- Nought told of all calls. -/
theorem all_nought {w : World} (l : List Int) (hl : l.length ≤ 1000) (hz : ∀ x ∈ l, x = 0) {cs : Array Value} {n : Nat} (hcs : cs = (ints .i64 l).toArray) (hn : n = l.length) {K : Bool → World → Prop} (h1 : ∀ w', Ahead w w' → K true w') :
    newC w cs 25 fun ad w1 => Calls pr surdlaw02_all_id #[(⟨some ad, n, n⟩ : Slc).v] w1 fun e w2 => ∃ b : Bool, e = .returned (.bool b) ∧ K b w2 := by
  subst hcs hn
  show Calls pr surdlaw02_all_id #[(⟨some ⟨w.heap.size, 0, none⟩, l.length, l.length⟩ : Slc).v] _ _
  refine Calls.mono (all_spec (lit_rd .i64 25 w l) hl) ?_
  rintro e w2 ⟨rfl, c, rfl, hc⟩
  rw [hc.2 hz]
  exact ⟨true, rfl, h1 _ (Ahead.alloc _ _)⟩
theorem Ret.numB {w w' : World} {N : Nat} {e : Ending} (h : Ret w 0 N e w') (hb : bl N ≤ 67108864) : Ahead w w' ∧ ∃ s, e = .returned (.tuple #[Slc.v s, .int .i64 0]) ∧ NumB w' s N := by
  obtain ⟨h1, s, rfl, o⟩ := h
  rw [if_pos rfl] at o
  exact ⟨h1, s, rfl, own_numB' o hb⟩
theorem numB_nil (w : World) {ad : Addr} : NumB w ⟨some ad, 0, 0⟩ 0 := ⟨[], ⟨rfl, Nat.le_refl _, fun i hi => absurd hi (by simp)⟩, by simp, ok_nil, rfl⟩

theorem one_lit {w : World} {x : Nat} (hx : x < B64) {K : Addr → World → Prop} (h : ∀ ad w', Ahead w w' → NumB w' ⟨some ad, 1, 1⟩ x → K ad w') : newC w #[.int .u64 (x : Int)] tU64 K :=
  h _ _ (Ahead.alloc _ _) ⟨[x], Nat.one_rd w x, by simp, fun y hy => by rw [List.mem_singleton.1 hy]; exact hx, by simp [val]⟩
theorem nil_lit {w : World} {t : TypeId} {K : Addr → World → Prop} (h : ∀ ad w', Ahead w w' → NumB w' ⟨some ad, 0, 0⟩ 0 → K ad w') : newC w #[] t K :=
  h _ _ (Ahead.alloc _ _) (numB_nil _)
theorem small_bl {N k : Nat} (h : N ≤ 2 ^ k) (hk : k < 67108864) : bl N ≤ 67108864 := by
  have : bl N ≤ k + 1 := bl_le (Nat.lt_of_le_of_lt h (Nat.pow_lt_pow_right (by omega) (by omega)))
  omega
theorem rs_small {n i : Nat} (hi : i ≤ 2 ^ 9) : Cb.rs n i ≤ 2 ^ (9 + n) := by
  rw [Nat.pow_add]
  exact Nat.le_trans (Cb.rs_le n i) (Nat.mul_le_mul_right _ hi)
theorem len_small {N k : Nat} (h : N ≤ 2 ^ k) (hk : k < 67108864) : (digs B64 N).length * 8 ≤ 140737488351232 := by
  have := digs_len_bl (N := N) (m := 2 ^ 20) (by have := small_bl h hk; omega)
  omega
theorem ch_pred {n i : Nat} (hn : 1 ≤ n) : (if i = 0 then 0 else Cb.ch (n - 1) (i - 1)) + Cb.ch (n - 1) i = Cb.ch n i := by
  obtain ⟨m, rfl⟩ : ∃ m, n = m + 1 := ⟨n - 1, by omega⟩
  rw [Nat.add_sub_cancel]
  cases i with
  | zero => rw [if_pos rfl, Cb.ch_zero, Cb.ch_zero]
  | succ k => rw [if_neg (by omega), Nat.add_sub_cancel, Cb.ch_succ]

theorem MulRecurs_ok {w : World} {x0 x1 : Int} (hx0 : -9223372036854775808 ≤ x0 ∧ x0 ≤ 9223372036854775807) (hx1 : -9223372036854775808 ≤ x1 ∧ x1 ≤ 9223372036854775807) :
    Calls pr surdlaw02_MulRecurs_id #[.int .i64 x0, .int .i64 x1] w (Yes w) := by
  have hB := B64v
  have yes : ∀ w1, Ahead w w1 → Calls pr surdlaw02_awake_id #[] w1 fun e w2 => ∃ b : Bool, e = .returned (.bool b) ∧ Yes w (.returned (.bool b)) w2 := fun w1 h => end_awake h
  refine surdlaw02_MulRecurs_vc x0 x1 w _ (fun t0 t1 row i w' => t0 = x0 ∧ t1 = x1 ∧ ∃ n j : Nat, x0 = (n : Int) ∧ 1 ≤ n ∧ n ≤ 300 ∧ i = (j : Int) ∧ j ≤ n + 1 ∧ Ahead w w' ∧ NumB w' row (Cb.rs n j)) (fun t0 _ _ i _ => (t0 + 1 - i).toNat)
    (fun a0 a1 a2 a3 a4 t0 t1 row i c d b w' => a0 = t0 ∧ a1 = t1 ∧ a2 = row ∧ a3 = i ∧ t0 = x0 ∧ t1 = x1 ∧ ∃ n j : Nat, x0 = (n : Int) ∧ 1 ≤ n ∧ n ≤ 300 ∧ i = (j : Int) ∧ j ≤ n ∧ Ahead w w' ∧ NumB w' row (Cb.rs n j) ∧ NumB w' c (Cb.ch n j) ∧ NumB w' d (Cb.ch (n - 1) j) ∧ NumB w' b (if j = 0 then 0 else Cb.ch (n - 1) (j - 1))) ?_ ?_ ?_
  · refine br_intro (fun h => yes w (Ahead.refl _)) (fun h => br_intro (fun h2 => yes w (Ahead.refl _)) (fun h2 => ?_))
    have q1 := of_decide_eq_false h
    have q2 := of_decide_eq_false h2
    obtain ⟨n, rfl⟩ := Int.eq_ofNat_of_zero_le (show 0 ≤ x0 by omega)
    have hn1 : 1 ≤ n := by omega
    have hn2 : n ≤ 300 := by omega
    have fb : ∀ m, m ≤ 300 → bl (Cb.run 1 m) ≤ 67108864 := fun m hm => small_bl (Cb.run_le (k := 15) m (by omega)) (by omega)
    have efac : Cb.run 1 (n - 1) * n = Cb.run 1 n := by
      obtain ⟨m, rfl⟩ : ∃ m, n = m + 1 := ⟨n - 1, by omega⟩
      rw [Nat.add_sub_cancel, Cb.run_succ, Nat.add_comm 1 m]
    refine Calls.mono (Factorial_spec (by omega)) ?_
    intro e w1 hr
    obtain ⟨h1, f, rfl, nf⟩ := Ret.numB hr (fb n hn2)
    refine ⟨_, _, rfl, ?_⟩
    rw [wrap_i64 (by omega) (by omega), show (n : Int) - 1 = ((n - 1 : Nat) : Int) by omega]
    refine Calls.mono (Factorial_spec (by omega)) ?_
    intro e w2 hr
    obtain ⟨h2, g, rfl, ng⟩ := Ret.numB hr (fb (n - 1) (by omega))
    refine ⟨_, _, rfl, ?_⟩
    rw [wrap_u64' (by omega) (by omega)]
    refine one_lit (by omega) fun ad1 w3 h3 nn1 => ?_
    have lg := (ng.ahead h3).len
    have l1 := nn1.len
    refine Calls.mono (Mul_spec (ng.ahead h3).num nn1.num (by omega) (by omega)) ?_
    rw [efac, bigC_ok (fb n hn2)]
    intro e w4 hr
    obtain ⟨h4, p, rfl, np⟩ := Ret.numB hr (fb n hn2)
    refine ⟨_, _, rfl, all_nought [0, 0, 0] (by simp) (by simp) rfl rfl fun w5 h5 => br_false rfl ?_⟩
    have h05 := (((h1.trans h2).trans h3).trans h4).trans h5
    refine Calls.mono (same2_spec ((((nf.ahead h2).ahead h3).ahead h4).ahead h5) (np.ahead h5)) ?_
    rintro e w6 ⟨h6, rfl⟩
    refine ⟨_, rfl, br_false (by simp) (nil_lit fun ad2 w7 h7 nz => ?_)⟩
    exact ⟨rfl, rfl, n, 0, rfl, hn1, hn2, rfl, by omega, (h05.trans h6).trans h7, nz⟩
  · rintro t0 t1 row i w1 ⟨rfl, rfl, n, j, rfl, hn1, hn2, rfl, hj, h01, nr⟩
    have cb : ∀ m k, m ≤ 300 → bl (Cb.ch m k) ≤ 67108864 := fun m k hm => by have := ch_bl m k; omega
    refine br_intro (fun hle => ?_) (fun hgt => ?_)
    · have hj' : j ≤ n := by have := of_decide_eq_true hle; omega
      refine Calls.mono (Binomial_spec (by omega) (by omega)) ?_
      intro e w2 hr
      obtain ⟨h2, c, rfl, nc⟩ := Ret.numB hr (cb n j hn2)
      refine ⟨_, _, rfl, ?_⟩
      rw [wrap_i64 (x := (n : Int) - 1) (by omega) (by omega), show (n : Int) - 1 = ((n - 1 : Nat) : Int) by omega]
      refine Calls.mono (Binomial_spec (by omega) (by omega)) ?_
      intro e w3 hr
      obtain ⟨h3, d, rfl, nd⟩ := Ret.numB hr (cb (n - 1) j (by omega))
      refine ⟨_, _, rfl, all_nought [0, 0] (by simp) (by simp) rfl rfl fun w4 h4 => br_false rfl (nil_lit fun ad2 w5 h5 nz => ?_)⟩
      have h15 := ((h2.trans h3).trans h4).trans h5
      have nr5 := nr.ahead h15
      have nc5 := ((nc.ahead h3).ahead h4).ahead h5
      have nd5 := (nd.ahead h4).ahead h5
      refine br_intro (fun hp => ?_) (fun hp => ?_)
      · have hp' : 0 < j := by have := of_decide_eq_true hp; omega
        rw [wrap_i64 (x := (j : Int) - 1) (by omega) (by omega), show (j : Int) - 1 = ((j - 1 : Nat) : Int) by omega]
        refine Calls.mono (Binomial_spec (by omega) (by omega)) ?_
        intro e w6 hr
        obtain ⟨h6, b, rfl, nb⟩ := Ret.numB hr (cb (n - 1) (j - 1) (by omega))
        refine ⟨_, _, rfl, all_nought [0] (by simp) (by simp) rfl rfl fun w7 h7 => br_false rfl ?_⟩
        have h57 := h6.trans h7
        exact ⟨rfl, rfl, rfl, rfl, rfl, rfl, n, j, rfl, hn1, hn2, rfl, hj', (h01.trans h15).trans h57, nr5.ahead h57, nc5.ahead h57, nd5.ahead h57, by rw [if_neg (by omega)]; exact nb.ahead h7⟩
      · have hp' : j = 0 := by have := of_decide_eq_false hp; omega
        exact ⟨rfl, rfl, rfl, rfl, rfl, rfl, n, j, rfl, hn1, hn2, rfl, hj', h01.trans h15, nr5, nc5, nd5, by rw [if_pos hp']; exact nz⟩
    · have hj' : j = n + 1 := by have := of_decide_eq_false hgt; omega
      subst hj'
      rw [Cb.rs_all] at nr
      obtain ⟨k, hk⟩ : ∃ k : Nat, Int.tmod (IntKind.i64.wrap (Int.tmod t1 100 + 100)) 100 = (k : Int) ∧ k < 100 := by
        have tt : -100 < Int.tmod t1 100 ∧ Int.tmod t1 100 < 100 := by
          have := Int.tmod_lt_of_pos t1 (show (0 : Int) < 100 by omega)
          have := Int.lt_tmod_of_pos t1 (show (0 : Int) < 100 by omega)
          omega
        rw [wrap_i64 (by omega) (by omega), Int.tmod_eq_emod_of_nonneg (by omega)]
        exact ⟨((Int.tmod t1 100 + 100) % 100).toNat, by omega, by omega⟩
      obtain ⟨hk, hk100⟩ := hk
      rw [hk]
      have hn2' : n ≤ 301 := by omega
      rw [wrap_i64 (x := (n : Int) + (k : Int)) (by omega) (by omega), wrap_i64 (x := (n : Int) + (k : Int) + 1) (by omega) (by omega), wrap_i64 (x := (n : Int) + 1) (by omega) (by omega), wrap_i64 (x := (k : Int) + 1) (by omega) (by omega),
        show (n : Int) + (k : Int) + 1 = ((n + k + 1 : Nat) : Int) by omega, show (n : Int) + 1 = ((n + 1 : Nat) : Int) by omega, show (k : Int) + 1 = ((k + 1 : Nat) : Int) by omega, show (2 : Int) = ((2 : Nat) : Int) from rfl]
      have b2 : bl 2 = 2 := by kernel_rfl
      have fbl : ∀ m, m ≤ 500 → bl (Cb.fib m) ≤ 67108864 := fun m hm => by have := fib_bl m; omega
      have p2 : bl (2 ^ n) ≤ 67108864 := small_bl (Nat.le_refl _) (by omega)
      refine one_lit (by omega) fun ad1 w2 h2 n2 => ?_
      refine Calls.mono (Pow_spec n2.num (by rw [b2]; omega) hn1 (by rw [b2]; omega)) ?_
      intro e w3 hr
      obtain ⟨h3, two, rfl, n3⟩ := Ret.numB hr p2
      refine ⟨_, _, rfl, all_nought [0] (by simp) (by simp) rfl rfl fun w4 h4 => br_false rfl ?_⟩
      have h14 := (h2.trans h3).trans h4
      refine Calls.mono (same2_spec (nr.ahead h14) (n3.ahead h4)) ?_
      rintro e w5 ⟨h5, rfl⟩
      have h05 := h01.trans (h14.trans h5)
      refine ⟨_, rfl, br_false (by simp) (Calls.mono (Fibonacci_spec (by omega)) ?_)⟩
      intro e w6 hr
      obtain ⟨h6, x, rfl, nx⟩ := Ret.numB hr (fbl _ (by omega))
      refine ⟨_, _, rfl, Calls.mono (Fibonacci_spec (by omega)) ?_⟩
      intro e w7 hr
      obtain ⟨h7, a, rfl, na⟩ := Ret.numB hr (fbl _ (by omega))
      refine ⟨_, _, rfl, Calls.mono (Fibonacci_spec (by omega)) ?_⟩
      intro e w8 hr
      obtain ⟨h8, b, rfl, nb⟩ := Ret.numB hr (fbl _ (by omega))
      refine ⟨_, _, rfl, Calls.mono (Fibonacci_spec (by omega)) ?_⟩
      intro e w9 hr
      obtain ⟨h9, c, rfl, nc⟩ := Ret.numB hr (fbl _ (by omega))
      refine ⟨_, _, rfl, Calls.mono (Fibonacci_spec (by omega)) ?_⟩
      intro e w10 hr
      obtain ⟨h10, d, rfl, nd⟩ := Ret.numB hr (fbl _ (by omega))
      refine ⟨_, _, rfl, all_nought [0, 0, 0, 0, 0] (by simp) (by simp) rfl rfl fun w11 h11 => br_false rfl ?_⟩
      have nx11 := ((((nx.ahead h7).ahead h8).ahead h9).ahead h10).ahead h11
      have na11 := (((na.ahead h8).ahead h9).ahead h10).ahead h11
      have nb11 := ((nb.ahead h9).ahead h10).ahead h11
      have nc11 := (nc.ahead h10).ahead h11
      have nd11 := nd.ahead h11
      have h011 := h05.trans (((((h6.trans h7).trans h8).trans h9).trans h10).trans h11)
      have la := na11.len
      have lb := nb11.len
      have lc := nc11.len
      have ld := nd11.len
      have pb : ∀ p q, p ≤ 500 → q ≤ 500 → bl (Cb.fib p * Cb.fib q) ≤ 67108864 := fun p q hp hq => by
        have := bl_le_mul (Cb.fib p) (Cb.fib q)
        have := fib_bl p
        have := fib_bl q
        omega
      have m1 := pb n k (by omega) (by omega)
      have m2 := pb (n + 1) (k + 1) (by omega) (by omega)
      refine Calls.mono (Mul_spec na11.num nc11.num (by omega) (by omega)) ?_
      rw [bigC_ok m1]
      intro e w12 hr
      obtain ⟨h12, y, rfl, ny⟩ := Ret.numB hr m1
      refine ⟨_, _, rfl, Calls.mono (Mul_spec (nb11.ahead h12).num (nd11.ahead h12).num (by omega) (by omega)) ?_⟩
      rw [bigC_ok m2]
      intro e w13 hr
      obtain ⟨h13, z, rfl, nz⟩ := Ret.numB hr m2
      refine ⟨_, _, rfl, all_nought [0, 0] (by simp) (by simp) rfl rfl fun w14 h14' => br_true rfl ?_⟩
      have efib := Cb.fib_add n k
      refine Calls.mono (sum2_spec ((ny.ahead h13).ahead h14') (nz.ahead h14') (by rw [← efib]; have := digs_len_bl (N := Cb.fib (n + k + 1)) (m := 2 ^ 20) (by have := fbl (n + k + 1) (by omega); omega); omega)) ?_
      rintro e w15 ⟨h15, u, rfl, nu⟩
      have h1115 := ((h12.trans h13).trans h14').trans h15
      refine ⟨_, rfl, Calls.mono (same2_spec (nx11.ahead h1115) nu) ?_⟩
      rintro e w16 ⟨h16, rfl⟩
      exact ⟨_, rfl, br_true (by simp [efib]) (yes w16 (h011.trans (h1115.trans h16)))⟩
  · rintro _ _ row i w1 - _ _ _ _ c d b w2 ⟨rfl, rfl, rfl, rfl, rfl, rfl, n, j, rfl, hn1, hn2, rfl, hj, h02, nr, nc, nd, nb⟩
    have hsum := ch_pred (i := j) hn1
    have lc := len_small (Cb.ch_le n j) (by omega)
    refine Calls.mono (sum2_spec nb nd (by rw [hsum]; exact lc)) ?_
    rw [hsum]
    rintro e w3 ⟨h3, s, rfl, ns⟩
    refine ⟨_, rfl, Calls.mono (same2_spec (nc.ahead h3) ns) ?_⟩
    rintro e w4 ⟨h4, rfl⟩
    have h24 := h3.trans h4
    refine ⟨_, rfl, br_false (by simp) (Calls.mono (sum2_spec (nr.ahead h24) (nc.ahead h24) (by rw [← Cb.rs_succ]; exact len_small (rs_small (n := n) (i := j + 1) (by omega)) (by omega))) ?_)⟩
    rintro e w5 ⟨h5, r, rfl, nr5⟩
    rw [wrap_i64 (by omega) (by omega)]
    exact ⟨_, rfl, ⟨rfl, rfl, n, j + 1, rfl, hn1, hn2, rfl, by omega, h02.trans (h24.trans h5), nr5⟩, by omega⟩

end Mul
end Go.Proofs.Ytfdajpjiengihaa
