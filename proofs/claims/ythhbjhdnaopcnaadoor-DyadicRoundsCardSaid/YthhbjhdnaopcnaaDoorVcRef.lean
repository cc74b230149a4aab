/- Verification conditions of some of the program's functions, printed by a program of this session. No condition. -/
import Derived.Test.YthhbjhdnaopcnaaDoorProg
import Derived.Test.YthhbjhdnaopcnaaDoorEng
namespace Go.Proofs.YthhbjhdnaopcnaaDoor
open Go Go.RowKit Eng
set_option linter.unusedVariables false

def surdref01_norm_cut (J0 : Slc → Int → World → Prop) (m0 : Slc → Int → World → Nat) : Nat → Option ((Act → World → Prop) × (Act → World → Nat))
  | 0 => some (fun a_ w_ => atSz a_ 22 (atS a_ 0 fun t0_a => atI .i64 a_ 3 fun t3_n => J0 t0_a t3_n w_), fun a_ w_ => mS a_ 0 fun t0_a => mI a_ 3 fun t3_n => m0 t0_a t3_n w_)
  | _ => none

set_option maxRecDepth 100000 in
/-- surd/surdref01.norm: function 94. -/
theorem surdref01_norm_vc (a0_a : Slc) (w : World) (R : Ending → World → Prop)
    (J0 : Slc → Int → World → Prop) (m0 : Slc → Int → World → Nat)
    (h : J0 a0_a (a0_a.n : Int) w)
    (h0 : ∀ (t0_a : Slc) (t3_n : Int) (w_ : World), J0 t0_a t3_n w_ → 
    br (decide (t3_n > 0))
    (semA Tryd.prog (Instr.indexAt 42 t0_a.v (Value.int .i64 (IntKind.i64.wrap (t3_n - 1)))) w_ fun ad1 w1 =>
      ldI .u64 ad1 w1 fun x1 =>
      br (x1 == 0)
      (J0 t0_a (IntKind.i64.wrap (t3_n - 1)) w1 ∧
        m0 t0_a (IntKind.i64.wrap (t3_n - 1)) w1 < m0 t0_a t3_n w_)
      (semS Tryd.prog (Instr.sliceAt 42 t0_a.v none (some (Value.int .i64 t3_n)) (some (Value.int .i64 t3_n))) w1 fun s1 w2 =>
        R (.returned s1.v) w2))
    (semS Tryd.prog (Instr.sliceAt 42 t0_a.v none (some (Value.int .i64 t3_n)) (some (Value.int .i64 t3_n))) w_ fun s2 w3 =>
      R (.returned s2.v) w3)) :
    Calls Tryd.prog 94 #[a0_a.v] w R := by
  refine calls_of_vc (surdref01_norm_cut J0 m0) (by kernel_rfl) Tryd.func94 rfl ?_ ?_
  · refine kcast h ?_; kernel_rfl
  · exact (obl_seq rfl (obl_reg (obl_seq rfl (obl_reg (obl_seq rfl (obl_loop _ rfl (fun a_ w_ hL_ => (by
    obtain ⟨hz_, hd_, hL_⟩ := atSz_out hL_
    obtain ⟨t0_a, h0_, hL_⟩ := atS_out hL_
    obtain ⟨t3_n, h3_, hL_⟩ := atI_out hL_
    obtain ⟨g0, rfl⟩ : ∃ g, a_ = Fr 22 [(0, t0_a.v), (3, Value.int .i64 t3_n)] g := ⟨_, fr_of hz_ hd_ [(0, t0_a.v), (3, Value.int .i64 t3_n)] (sel_cons h0_ (sel_cons h3_ sel_nil))⟩
    clear hz_ hd_ h0_ h3_
    have hJ0_ := hL_
    refine ⟨(fun _ => none), kcast (h0 t0_a t3_n w_ hJ0_) ?_, ?_⟩
    · kernel_rfl
    · exact (obl_seq rfl (obl_seq rfl (obl_reg (obl_cond (obl_skip (obl_exit (obl_blk rfl (obl_reg trivial)))))))))) (obl_seq rfl (obl_reg (obl_ret trivial)))))))))

def surdref01_Of_cut (J0 : Slc → Slc → Int → Int → World → Prop) (m0 : Slc → Slc → Int → Int → World → Nat) : Nat → Option ((Act → World → Prop) × (Act → World → Nat))
  | 0 => some (fun a_ w_ => atSz a_ 26 (atS a_ 3 fun t3_out => atS a_ 10 fun t10 => atI .i64 a_ 11 fun t11 => atI .i64 a_ 12 fun t12 => J0 t3_out t10 t11 t12 w_), fun a_ w_ => mS a_ 3 fun t3_out => mS a_ 10 fun t10 => mI a_ 11 fun t11 => mI a_ 12 fun t12 => m0 t3_out t10 t11 t12 w_)
  | _ => none

set_option maxRecDepth 100000 in
/-- surd/surdref01.Of: function 67. -/
theorem surdref01_Of_vc (a0_limbs : Slc) (w : World) (R : Ending → World → Prop)
    (J0 : Slc → Slc → Int → Int → World → Prop) (m0 : Slc → Slc → Int → Int → World → Nat)
    (h : semS Tryd.prog (Instr.makeSlice 42 (Value.int .i64 0) (Value.int .i64 (IntKind.i64.wrap (2 * (a0_limbs.n : Int))))) w fun s1 w1 =>
    J0 s1 a0_limbs (a0_limbs.n : Int) 0 w1)
    (h0 : ∀ (t3_out : Slc) (t10 : Slc) (t11 : Int) (t12 : Int) (w_ : World), J0 t3_out t10 t11 t12 w_ → 
    br (decide (t12 < t11))
    (semA Tryd.prog (Instr.indexAt 25 t10.v (Value.int .i64 t12)) w_ fun ad1 w2 =>
      ldI .u64 ad1 w2 fun x1 =>
      newC w2 #[Value.int .u64 (Int.tmod x1 4294967296), Value.int .u64 (IntKind.u64.wrap (Int.tdiv x1 4294967296))] 94 fun ad2 w3 =>
      semS Tryd.prog (Builtin.append_ #[42, 42] 42 #[t3_out.v, (⟨some ad2, 2, 2⟩ : Slc).v]) w3 fun s2 w4 =>
      J0 s2 t10 t11 (IntKind.i64.wrap (t12 + 1)) w4 ∧
      m0 s2 t10 t11 (IntKind.i64.wrap (t12 + 1)) w4 < m0 t3_out t10 t11 t12 w_)
    (Calls Tryd.prog 94 #[t3_out.v] w_ fun e1 w5 =>
      ∃ s3 : Slc, e1 = .returned s3.v ∧
      (R (.returned s3.v) w5))) :
    Calls Tryd.prog 67 #[a0_limbs.v] w R := by
  refine calls_of_vc (surdref01_Of_cut J0 m0) (by kernel_rfl) Tryd.func67 rfl ?_ ?_
  · refine kcast h ?_; kernel_rfl
  · exact (obl_seq rfl (obl_reg (obl_seq rfl (obl_reg (obl_seq rfl (obl_seq rfl (obl_reg (obl_loop _ rfl (fun a_ w_ hL_ => (by
    obtain ⟨hz_, hd_, hL_⟩ := atSz_out hL_
    obtain ⟨t3_out, h3_, hL_⟩ := atS_out hL_
    obtain ⟨t10, h10_, hL_⟩ := atS_out hL_
    obtain ⟨t11, h11_, hL_⟩ := atI_out hL_
    obtain ⟨t12, h12_, hL_⟩ := atI_out hL_
    obtain ⟨g0, rfl⟩ : ∃ g, a_ = Fr 26 [(3, t3_out.v), (10, t10.v), (11, Value.int .i64 t11), (12, Value.int .i64 t12)] g := ⟨_, fr_of hz_ hd_ [(3, t3_out.v), (10, t10.v), (11, Value.int .i64 t11), (12, Value.int .i64 t12)] (sel_cons h3_ (sel_cons h10_ (sel_cons h11_ (sel_cons h12_ sel_nil))))⟩
    clear hz_ hd_ h3_ h10_ h11_ h12_
    have hJ0_ := hL_
    refine ⟨(fun _ => none), kcast (h0 t3_out t10 t11 t12 w_ hJ0_) ?_, ?_⟩
    · kernel_rfl
    · exact (obl_seq rfl (obl_reg (obl_seq rfl (obl_cond (obl_skip (obl_exit (obl_seq rfl (obl_blk rfl (obl_seq rfl (obl_reg (obl_reg (obl_reg trivial)))))))))))))) (obl_seq rfl (obl_reg (obl_ret trivial)))))))))))

set_option maxRecDepth 100000 in
/-- surd/surdref01.Int: function 52. -/
theorem surdref01_Int_vc (a0_v : Int) (w : World) (R : Ending → World → Prop)
    
    (h : newC w #[Value.int .u64 (IntKind.u64.wrap a0_v)] 94 fun ad1 w1 =>
    Calls Tryd.prog 67 #[(⟨some ad1, 1, 1⟩ : Slc).v] w1 fun e1 w2 =>
    ∃ s1 : Slc, e1 = .returned s1.v ∧
    (R (.returned s1.v) w2)) :
    Calls Tryd.prog 52 #[Value.int .i64 a0_v] w R := by
  refine calls_of_vc (fun _ => none) (by kernel_rfl) Tryd.func52 rfl ?_ ?_
  · refine kcast h ?_; kernel_rfl
  · exact (obl_seq rfl (obl_reg (obl_seq rfl (obl_reg (obl_ret trivial)))))

def surdref01_Num_Limbs_cut (J0 : Slc → Slc → Int → World → Prop) (m0 : Slc → Slc → Int → World → Nat) : Nat → Option ((Act → World → Prop) × (Act → World → Nat))
  | 0 => some (fun a_ w_ => atSz a_ 34 (atS a_ 0 fun t0_a => atS a_ 3 fun t3_out => atI .i64 a_ 4 fun t4_i => J0 t0_a t3_out t4_i w_), fun a_ w_ => mS a_ 0 fun t0_a => mS a_ 3 fun t3_out => mI a_ 4 fun t4_i => m0 t0_a t3_out t4_i w_)
  | _ => none

set_option maxRecDepth 100000 in
/-- (surd/surdref01.Num).Limbs: function 95. -/
theorem surdref01_Num_Limbs_vc (a0_a : Slc) (w : World) (R : Ending → World → Prop)
    (J0 : Slc → Slc → Int → World → Prop) (m0 : Slc → Slc → Int → World → Nat)
    (h : J0 a0_a (⟨none, 0, 0⟩ : Slc) 0 w)
    (h0 : ∀ (t0_a : Slc) (t3_out : Slc) (t4_i : Int) (w_ : World), J0 t0_a t3_out t4_i w_ → 
    br (decide (t4_i < (t0_a.n : Int)))
    (semA Tryd.prog (Instr.indexAt 42 t0_a.v (Value.int .i64 t4_i)) w_ fun ad1 w1 =>
      ldI .u64 ad1 w1 fun x1 =>
      br (decide ((IntKind.i64.wrap (t4_i + 1)) < (t0_a.n : Int)))
      (semA Tryd.prog (Instr.indexAt 42 t0_a.v (Value.int .i64 (IntKind.i64.wrap (t4_i + 1)))) w1 fun ad2 w2 =>
        ldI .u64 ad2 w2 fun x2 =>
        newC w2 #[Value.int .u64 (IntKind.u64.wrap (x1 + (IntKind.u64.wrap (x2 * 4294967296))))] 94 fun ad3 w3 =>
        semS Tryd.prog (Builtin.append_ #[25, 25] 25 #[t3_out.v, (⟨some ad3, 1, 1⟩ : Slc).v]) w3 fun s1 w4 =>
        J0 t0_a s1 (IntKind.i64.wrap (t4_i + 2)) w4 ∧
        m0 t0_a s1 (IntKind.i64.wrap (t4_i + 2)) w4 < m0 t0_a t3_out t4_i w_)
      (newC w1 #[Value.int .u64 x1] 94 fun ad4 w5 =>
        semS Tryd.prog (Builtin.append_ #[25, 25] 25 #[t3_out.v, (⟨some ad4, 1, 1⟩ : Slc).v]) w5 fun s2 w6 =>
        J0 t0_a s2 (IntKind.i64.wrap (t4_i + 2)) w6 ∧
        m0 t0_a s2 (IntKind.i64.wrap (t4_i + 2)) w6 < m0 t0_a t3_out t4_i w_))
    (R (.returned t3_out.v) w_)) :
    Calls Tryd.prog 95 #[a0_a.v] w R := by
  refine calls_of_vc (surdref01_Num_Limbs_cut J0 m0) (by kernel_rfl) Tryd.func95 rfl ?_ ?_
  · refine kcast h ?_; kernel_rfl
  · exact (obl_seq rfl (obl_reg (obl_seq rfl (obl_reg (obl_seq rfl (obl_seq rfl (obl_reg (obl_loop _ rfl (fun a_ w_ hL_ => (by
    obtain ⟨hz_, hd_, hL_⟩ := atSz_out hL_
    obtain ⟨t0_a, h0_, hL_⟩ := atS_out hL_
    obtain ⟨t3_out, h3_, hL_⟩ := atS_out hL_
    obtain ⟨t4_i, h4_, hL_⟩ := atI_out hL_
    obtain ⟨g0, rfl⟩ : ∃ g, a_ = Fr 34 [(0, t0_a.v), (3, t3_out.v), (4, Value.int .i64 t4_i)] g := ⟨_, fr_of hz_ hd_ [(0, t0_a.v), (3, t3_out.v), (4, Value.int .i64 t4_i)] (sel_cons h0_ (sel_cons h3_ (sel_cons h4_ sel_nil)))⟩
    clear hz_ hd_ h0_ h3_ h4_
    have hJ0_ := hL_
    refine ⟨(fun _ => none), kcast (h0 t0_a t3_out t4_i w_ hJ0_) ?_, ?_⟩
    · kernel_rfl
    · exact (obl_seq rfl (obl_seq rfl (obl_reg (obl_cond (obl_skip (obl_exit (obl_seq rfl (obl_blk rfl (obl_seq rfl (obl_reg (obl_seq rfl (obl_seq rfl (obl_reg (obl_cond (obl_reg (obl_skip (obl_reg (obl_reg trivial)))))))))))))))))))) (obl_seq rfl (obl_reg (obl_ret trivial)))))))))))

def surdref01_Num_Is_cut (J0 : Slc → Slc → Int → Int → World → Prop) (m0 : Slc → Slc → Int → Int → World → Nat) : Nat → Option ((Act → World → Prop) × (Act → World → Nat))
  | 0 => some (fun a_ w_ => atSz a_ 29 (atS a_ 1 fun t1_limbs => atS a_ 5 fun t5_want => atI .i64 a_ 15 fun t15 => atI .i64 a_ 16 fun t16 => J0 t1_limbs t5_want t15 t16 w_), fun a_ w_ => mS a_ 1 fun t1_limbs => mS a_ 5 fun t5_want => mI a_ 15 fun t15 => mI a_ 16 fun t16 => m0 t1_limbs t5_want t15 t16 w_)
  | _ => none

set_option maxRecDepth 100000 in
/-- (surd/surdref01.Num).Is: function 55. -/
theorem surdref01_Num_Is_vc (a0_a : Slc) (a1_limbs : Slc) (w : World) (R : Ending → World → Prop)
    (J0 : Slc → Slc → Int → Int → World → Prop) (m0 : Slc → Slc → Int → Int → World → Nat)
    (h : Calls Tryd.prog 95 #[a0_a.v] w fun e1 w1 =>
    ∃ s1 : Slc, e1 = .returned s1.v ∧
    (br ((s1.n : Int) != (a1_limbs.n : Int))
      (R (.returned (Value.bool false)) w1)
      (J0 a1_limbs s1 (s1.n : Int) 0 w1)))
    (h0 : ∀ (t1_limbs : Slc) (t5_want : Slc) (t15 : Int) (t16 : Int) (w_ : World), J0 t1_limbs t5_want t15 t16 w_ → 
    br (decide (t16 < t15))
    (fixA Tryd.prog (Instr.indexAt 25 t5_want.v (Value.int .i64 t16)) w_ fun ad1 =>
      ldI .u64 ad1 w_ fun x1 =>
      fixA Tryd.prog (Instr.indexAt 25 t1_limbs.v (Value.int .i64 t16)) w_ fun ad2 =>
      ldI .u64 ad2 w_ fun x2 =>
      ∀ w2, Ahead w_ w2 →
      (br (x1 != x2)
        (R (.returned (Value.bool false)) w2)
        (J0 t1_limbs t5_want t15 (IntKind.i64.wrap (t16 + 1)) w2 ∧
          m0 t1_limbs t5_want t15 (IntKind.i64.wrap (t16 + 1)) w2 < m0 t1_limbs t5_want t15 t16 w_)))
    (R (.returned (Value.bool true)) w_)) :
    Calls Tryd.prog 55 #[a0_a.v, a1_limbs.v] w R := by
  refine calls_of_vc (surdref01_Num_Is_cut J0 m0) (by kernel_rfl) Tryd.func55 rfl ?_ ?_
  · refine kcast h ?_; kernel_rfl
  · exact (obl_seq rfl (obl_reg (obl_seq rfl (obl_reg (obl_seq rfl (obl_seq rfl (obl_reg (obl_cond (obl_seq rfl (obl_reg (obl_ret (obl_skip (obl_seq rfl (obl_seq rfl (obl_reg (obl_loop _ rfl (fun a_ w_ hL_ => (by
    obtain ⟨hz_, hd_, hL_⟩ := atSz_out hL_
    obtain ⟨t1_limbs, h1_, hL_⟩ := atS_out hL_
    obtain ⟨t5_want, h5_, hL_⟩ := atS_out hL_
    obtain ⟨t15, h15_, hL_⟩ := atI_out hL_
    obtain ⟨t16, h16_, hL_⟩ := atI_out hL_
    obtain ⟨g0, rfl⟩ : ∃ g, a_ = Fr 29 [(1, t1_limbs.v), (5, t5_want.v), (15, Value.int .i64 t15), (16, Value.int .i64 t16)] g := ⟨_, fr_of hz_ hd_ [(1, t1_limbs.v), (5, t5_want.v), (15, Value.int .i64 t15), (16, Value.int .i64 t16)] (sel_cons h1_ (sel_cons h5_ (sel_cons h15_ (sel_cons h16_ sel_nil))))⟩
    clear hz_ hd_ h1_ h5_ h15_ h16_
    have hJ0_ := hL_
    refine ⟨(fun _ => none), kcast (h0 t1_limbs t5_want t15 t16 w_ hJ0_) ?_, ?_⟩
    · kernel_rfl
    · exact (obl_seq rfl (obl_reg (obl_seq rfl (obl_cond (obl_skip (obl_exit (obl_seq rfl (obl_blk rfl (obl_seq rfl (obl_reg (obl_seq rfl (obl_quiet (by kernel_rfl) (by kernel_rfl) (by kernel_rfl) (by kernel_rfl) (obl_cond (obl_seq rfl (obl_reg (obl_ret (obl_skip (obl_reg trivial)))))))))))))))))))) (obl_seq rfl (obl_reg (obl_ret trivial)))))))))))))))))))

set_option maxRecDepth 100000 in
/-- (surd/surdref01.Num).Zero: function 76. -/
theorem surdref01_Num_Zero_vc (a0_a : Slc) (w : World) (R : Ending → World → Prop)
    
    (h : R (.returned (Value.bool ((a0_a.n : Int) == 0))) w) :
    Calls Tryd.prog 76 #[a0_a.v] w R := by
  refine calls_of_vc (fun _ => none) (by kernel_rfl) Tryd.func76 rfl ?_ ?_
  · refine kcast h ?_; kernel_rfl
  · exact (obl_seq rfl (obl_reg (obl_seq rfl (obl_reg (obl_ret trivial)))))

def surdref01_Num_Len_cut (J0 : Int → Int → World → Prop) (m0 : Int → Int → World → Nat) : Nat → Option ((Act → World → Prop) × (Act → World → Nat))
  | 0 => some (fun a_ w_ => atSz a_ 25 (atI .i64 a_ 3 fun t3_n => atI .u64 a_ 4 fun t4_v => J0 t3_n t4_v w_), fun a_ w_ => mI a_ 3 fun t3_n => mI a_ 4 fun t4_v => m0 t3_n t4_v w_)
  | _ => none

set_option maxRecDepth 100000 in
/-- (surd/surdref01.Num).Len: function 34. -/
theorem surdref01_Num_Len_vc (a0_a : Slc) (w : World) (R : Ending → World → Prop)
    (J0 : Int → Int → World → Prop) (m0 : Int → Int → World → Nat)
    (h : br ((a0_a.n : Int) == 0)
    (R (.returned (Value.int .i64 0)) w)
    (semA Tryd.prog (Instr.indexAt 42 a0_a.v (Value.int .i64 (IntKind.i64.wrap ((a0_a.n : Int) - 1)))) w fun ad1 w1 =>
      ldI .u64 ad1 w1 fun x1 =>
      J0 (IntKind.i64.wrap (32 * (IntKind.i64.wrap ((a0_a.n : Int) - 1)))) x1 w1))
    (h0 : ∀ (t3_n : Int) (t4_v : Int) (w_ : World), J0 t3_n t4_v w_ → 
    br (decide (t4_v > 0))
    (J0 (IntKind.i64.wrap (t3_n + 1)) (IntKind.u64.wrap (Int.tdiv t4_v 2)) w_ ∧
      m0 (IntKind.i64.wrap (t3_n + 1)) (IntKind.u64.wrap (Int.tdiv t4_v 2)) w_ < m0 t3_n t4_v w_)
    (R (.returned (Value.int .i64 t3_n)) w_)) :
    Calls Tryd.prog 34 #[a0_a.v] w R := by
  refine calls_of_vc (surdref01_Num_Len_cut J0 m0) (by kernel_rfl) Tryd.func34 rfl ?_ ?_
  · refine kcast h ?_; kernel_rfl
  · exact (obl_seq rfl (obl_reg (obl_seq rfl (obl_seq rfl (obl_reg (obl_cond (obl_seq rfl (obl_reg (obl_ret (obl_skip (obl_seq rfl (obl_reg (obl_seq rfl (obl_seq rfl (obl_reg (obl_loop _ rfl (fun a_ w_ hL_ => (by
    obtain ⟨hz_, hd_, hL_⟩ := atSz_out hL_
    obtain ⟨t3_n, h3_, hL_⟩ := atI_out hL_
    obtain ⟨t4_v, h4_, hL_⟩ := atI_out hL_
    obtain ⟨g0, rfl⟩ : ∃ g, a_ = Fr 25 [(3, Value.int .i64 t3_n), (4, Value.int .u64 t4_v)] g := ⟨_, fr_of hz_ hd_ [(3, Value.int .i64 t3_n), (4, Value.int .u64 t4_v)] (sel_cons h3_ (sel_cons h4_ sel_nil))⟩
    clear hz_ hd_ h3_ h4_
    have hJ0_ := hL_
    refine ⟨(fun _ => none), kcast (h0 t3_n t4_v w_ hJ0_) ?_, ?_⟩
    · kernel_rfl
    · exact (obl_seq rfl (obl_seq rfl (obl_reg (obl_cond (obl_skip (obl_exit (obl_seq rfl (obl_blk rfl (obl_reg (obl_reg trivial)))))))))))) (obl_seq rfl (obl_reg (obl_ret trivial)))))))))))))))))))

set_option maxRecDepth 100000 in
/-- (surd/surdref01.Num).Bit: function 99. -/
theorem surdref01_Num_Bit_vc (a0_a : Slc) (a1_i : Int) (w : World) (R : Ending → World → Prop)
    
    (h : br (decide (a1_i < 0))
    (R (.returned (Value.int .i64 0)) w)
    (br (decide ((IntKind.i64.wrap (Int.tdiv a1_i 32)) ≥ (a0_a.n : Int)))
      (R (.returned (Value.int .i64 0)) w)
      (semA Tryd.prog (Instr.indexAt 42 a0_a.v (Value.int .i64 (IntKind.i64.wrap (Int.tdiv a1_i 32)))) w fun ad1 w1 =>
        ldI .u64 ad1 w1 fun x1 =>
        semI Tryd.prog .u64 (binOp .shr 94 (Value.int .u64 x1) (Value.int .i64 (Int.tmod a1_i 32))) w1 fun x2 w2 =>
        R (.returned (Value.int .i64 (IntKind.i64.wrap (andI .u64 x2 1)))) w2))) :
    Calls Tryd.prog 99 #[a0_a.v, Value.int .i64 a1_i] w R := by
  refine calls_of_vc (fun _ => none) (by kernel_rfl) Tryd.func99 rfl ?_ ?_
  · refine kcast h ?_; kernel_rfl
  · exact (obl_seq rfl (obl_reg (obl_seq rfl (obl_seq rfl (obl_reg (obl_cond (obl_seq rfl (obl_reg (obl_ret (obl_skip (obl_seq rfl (obl_reg (obl_ret trivial)))))))))))))

def surdref01_Cmp_cut (J0 : Slc → Slc → Int → World → Prop) (m0 : Slc → Slc → Int → World → Nat) : Nat → Option ((Act → World → Prop) × (Act → World → Nat))
  | 0 => some (fun a_ w_ => atSz a_ 41 (atS a_ 0 fun t0_a => atS a_ 1 fun t1_b => atI .i64 a_ 5 fun t5_i => J0 t0_a t1_b t5_i w_), fun a_ w_ => mS a_ 0 fun t0_a => mS a_ 1 fun t1_b => mI a_ 5 fun t5_i => m0 t0_a t1_b t5_i w_)
  | _ => none

set_option maxRecDepth 100000 in
/-- surd/surdref01.Cmp: function 106. -/
theorem surdref01_Cmp_vc (a0_a : Slc) (a1_b : Slc) (w : World) (R : Ending → World → Prop)
    (J0 : Slc → Slc → Int → World → Prop) (m0 : Slc → Slc → Int → World → Nat)
    (h : br ((a0_a.n : Int) != (a1_b.n : Int))
    (br (decide ((a0_a.n : Int) < (a1_b.n : Int)))
      (R (.returned (Value.int .i64 (-1))) w)
      (R (.returned (Value.int .i64 1)) w))
    (J0 a0_a a1_b (IntKind.i64.wrap ((a0_a.n : Int) - 1)) w))
    (h0 : ∀ (t0_a : Slc) (t1_b : Slc) (t5_i : Int) (w_ : World), J0 t0_a t1_b t5_i w_ → 
    br (decide (t5_i ≥ 0))
    (fixA Tryd.prog (Instr.indexAt 42 t0_a.v (Value.int .i64 t5_i)) w_ fun ad1 =>
      ldI .u64 ad1 w_ fun x1 =>
      fixA Tryd.prog (Instr.indexAt 42 t1_b.v (Value.int .i64 t5_i)) w_ fun ad2 =>
      ldI .u64 ad2 w_ fun x2 =>
      ∀ w1, Ahead w_ w1 →
      (br (decide (x1 < x2))
        (R (.returned (Value.int .i64 (-1))) w1)
        (fixA Tryd.prog (Instr.indexAt 42 t0_a.v (Value.int .i64 t5_i)) w1 fun ad3 =>
          ldI .u64 ad3 w1 fun x3 =>
          fixA Tryd.prog (Instr.indexAt 42 t1_b.v (Value.int .i64 t5_i)) w1 fun ad4 =>
          ldI .u64 ad4 w1 fun x4 =>
          ∀ w2, Ahead w1 w2 →
          (br (decide (x3 > x4))
            (R (.returned (Value.int .i64 1)) w2)
            (J0 t0_a t1_b (IntKind.i64.wrap (t5_i - 1)) w2 ∧
              m0 t0_a t1_b (IntKind.i64.wrap (t5_i - 1)) w2 < m0 t0_a t1_b t5_i w_)))))
    (R (.returned (Value.int .i64 0)) w_)) :
    Calls Tryd.prog 106 #[a0_a.v, a1_b.v] w R := by
  refine calls_of_vc (surdref01_Cmp_cut J0 m0) (by kernel_rfl) Tryd.func106 rfl ?_ ?_
  · refine kcast h ?_; kernel_rfl
  · exact (obl_seq rfl (obl_reg (obl_seq rfl (obl_seq rfl (obl_reg (obl_cond (obl_seq rfl (obl_seq rfl (obl_reg (obl_cond (obl_seq rfl (obl_reg (obl_ret (obl_skip (obl_seq rfl (obl_reg (obl_ret (obl_skip (obl_seq rfl (obl_seq rfl (obl_reg (obl_loop _ rfl (fun a_ w_ hL_ => (by
    obtain ⟨hz_, hd_, hL_⟩ := atSz_out hL_
    obtain ⟨t0_a, h0_, hL_⟩ := atS_out hL_
    obtain ⟨t1_b, h1_, hL_⟩ := atS_out hL_
    obtain ⟨t5_i, h5_, hL_⟩ := atI_out hL_
    obtain ⟨g0, rfl⟩ : ∃ g, a_ = Fr 41 [(0, t0_a.v), (1, t1_b.v), (5, Value.int .i64 t5_i)] g := ⟨_, fr_of hz_ hd_ [(0, t0_a.v), (1, t1_b.v), (5, Value.int .i64 t5_i)] (sel_cons h0_ (sel_cons h1_ (sel_cons h5_ sel_nil)))⟩
    clear hz_ hd_ h0_ h1_ h5_
    have hJ0_ := hL_
    refine ⟨(fun _ => none), kcast (h0 t0_a t1_b t5_i w_ hJ0_) ?_, ?_⟩
    · kernel_rfl
    · exact (obl_seq rfl (obl_seq rfl (obl_reg (obl_cond (obl_skip (obl_exit (obl_seq rfl (obl_blk rfl (obl_seq rfl (obl_seq rfl (obl_quiet (by kernel_rfl) (by kernel_rfl) (by kernel_rfl) (by kernel_rfl) (obl_cond (obl_seq rfl (obl_reg (obl_ret (obl_skip (obl_seq rfl (obl_quiet (by kernel_rfl) (by kernel_rfl) (by kernel_rfl) (by kernel_rfl) (obl_cond (obl_seq rfl (obl_reg (obl_ret (obl_skip (obl_reg trivial)))))))))))))))))))))))))) (obl_seq rfl (obl_reg (obl_ret trivial)))))))))))))))))))))))))

set_option maxRecDepth 100000 in
/-- (surd/surdref01.Num).at: function 100. -/
theorem surdref01_Num_at_vc (a0_a : Slc) (a1_i : Int) (w : World) (R : Ending → World → Prop)
    
    (h : br (decide (a1_i < (a0_a.n : Int)))
    (semA Tryd.prog (Instr.indexAt 42 a0_a.v (Value.int .i64 a1_i)) w fun ad1 w1 =>
      ldI .u64 ad1 w1 fun x1 =>
      R (.returned (Value.int .u64 x1)) w1)
    (R (.returned (Value.int .u64 0)) w)) :
    Calls Tryd.prog 100 #[a0_a.v, Value.int .i64 a1_i] w R := by
  refine calls_of_vc (fun _ => none) (by kernel_rfl) Tryd.func100 rfl ?_ ?_
  · refine kcast h ?_; kernel_rfl
  · exact (obl_seq rfl (obl_reg (obl_seq rfl (obl_seq rfl (obl_reg (obl_cond (obl_seq rfl (obl_reg (obl_ret (obl_skip (obl_seq rfl (obl_reg (obl_ret trivial)))))))))))))

def surdref01_Add_cut (J0 : Slc → Slc → Int → Slc → Int → Int → World → Prop) (m0 : Slc → Slc → Int → Slc → Int → Int → World → Nat) : Nat → Option ((Act → World → Prop) × (Act → World → Nat))
  | 0 => some (fun a_ w_ => atSz a_ 44 (atS a_ 0 fun t0_a => atS a_ 1 fun t1_b => atI .i64 a_ 5 fun t5_n => atS a_ 6 fun t6_out => atI .u64 a_ 7 fun t7_carry => atI .i64 a_ 8 fun t8_i => J0 t0_a t1_b t5_n t6_out t7_carry t8_i w_), fun a_ w_ => mS a_ 0 fun t0_a => mS a_ 1 fun t1_b => mI a_ 5 fun t5_n => mS a_ 6 fun t6_out => mI a_ 7 fun t7_carry => mI a_ 8 fun t8_i => m0 t0_a t1_b t5_n t6_out t7_carry t8_i w_)
  | _ => none

set_option maxRecDepth 100000 in
/-- surd/surdref01.Add: function 116. -/
theorem surdref01_Add_vc (a0_a : Slc) (a1_b : Slc) (w : World) (R : Ending → World → Prop)
    (J0 : Slc → Slc → Int → Slc → Int → Int → World → Prop) (m0 : Slc → Slc → Int → Slc → Int → Int → World → Nat)
    (h : br (decide ((a1_b.n : Int) > (a0_a.n : Int)))
    (semS Tryd.prog (Instr.makeSlice 42 (Value.int .i64 (IntKind.i64.wrap ((a1_b.n : Int) + 1))) (Value.int .i64 (IntKind.i64.wrap ((a1_b.n : Int) + 1)))) w fun s1 w1 =>
      J0 a0_a a1_b (a1_b.n : Int) s1 0 0 w1)
    (semS Tryd.prog (Instr.makeSlice 42 (Value.int .i64 (IntKind.i64.wrap ((a0_a.n : Int) + 1))) (Value.int .i64 (IntKind.i64.wrap ((a0_a.n : Int) + 1)))) w fun s3 w7 =>
      J0 a0_a a1_b (a0_a.n : Int) s3 0 0 w7))
    (h0 : ∀ (t0_a : Slc) (t1_b : Slc) (t5_n : Int) (t6_out : Slc) (t7_carry : Int) (t8_i : Int) (w_ : World), J0 t0_a t1_b t5_n t6_out t7_carry t8_i w_ → 
    br (decide (t8_i ≤ t5_n))
    (Calls Tryd.prog 100 #[t0_a.v, Value.int .i64 t8_i] w_ fun e1 w2 =>
      ∃ x1 : Int, e1 = .returned (Value.int .u64 x1) ∧
      (Calls Tryd.prog 100 #[t1_b.v, Value.int .i64 t8_i] w2 fun e2 w3 =>
        ∃ x2 : Int, e2 = .returned (Value.int .u64 x2) ∧
        (semA Tryd.prog (Instr.indexAt 42 t6_out.v (Value.int .i64 t8_i)) w3 fun ad1 w4 =>
          stC ad1 (Value.int .u64 (Int.tmod (IntKind.u64.wrap ((IntKind.u64.wrap (x1 + x2)) + t7_carry)) 4294967296)) w4 fun w5 =>
          J0 t0_a t1_b t5_n t6_out (IntKind.u64.wrap (Int.tdiv (IntKind.u64.wrap ((IntKind.u64.wrap (x1 + x2)) + t7_carry)) 4294967296)) (IntKind.i64.wrap (t8_i + 1)) w5 ∧
          m0 t0_a t1_b t5_n t6_out (IntKind.u64.wrap (Int.tdiv (IntKind.u64.wrap ((IntKind.u64.wrap (x1 + x2)) + t7_carry)) 4294967296)) (IntKind.i64.wrap (t8_i + 1)) w5 < m0 t0_a t1_b t5_n t6_out t7_carry t8_i w_)))
    (Calls Tryd.prog 94 #[t6_out.v] w_ fun e3 w6 =>
      ∃ s2 : Slc, e3 = .returned s2.v ∧
      (R (.returned s2.v) w6))) :
    Calls Tryd.prog 116 #[a0_a.v, a1_b.v] w R := by
  refine calls_of_vc (surdref01_Add_cut J0 m0) (by kernel_rfl) Tryd.func116 rfl ?_ ?_
  · refine kcast h ?_; kernel_rfl
  · exact (obl_seq rfl (obl_reg (obl_seq rfl (obl_reg (obl_seq rfl (obl_seq rfl (obl_reg (obl_cond (obl_reg (obl_skip (obl_seq rfl (obl_reg (obl_seq rfl (obl_reg (obl_seq rfl (obl_seq rfl (obl_reg (obl_loop _ rfl (fun a_ w_ hL_ => (by
    obtain ⟨hz_, hd_, hL_⟩ := atSz_out hL_
    obtain ⟨t0_a, h0_, hL_⟩ := atS_out hL_
    obtain ⟨t1_b, h1_, hL_⟩ := atS_out hL_
    obtain ⟨t5_n, h5_, hL_⟩ := atI_out hL_
    obtain ⟨t6_out, h6_, hL_⟩ := atS_out hL_
    obtain ⟨t7_carry, h7_, hL_⟩ := atI_out hL_
    obtain ⟨t8_i, h8_, hL_⟩ := atI_out hL_
    obtain ⟨g0, rfl⟩ : ∃ g, a_ = Fr 44 [(0, t0_a.v), (1, t1_b.v), (5, Value.int .i64 t5_n), (6, t6_out.v), (7, Value.int .u64 t7_carry), (8, Value.int .i64 t8_i)] g := ⟨_, fr_of hz_ hd_ [(0, t0_a.v), (1, t1_b.v), (5, Value.int .i64 t5_n), (6, t6_out.v), (7, Value.int .u64 t7_carry), (8, Value.int .i64 t8_i)] (sel_cons h0_ (sel_cons h1_ (sel_cons h5_ (sel_cons h6_ (sel_cons h7_ (sel_cons h8_ sel_nil))))))⟩
    clear hz_ hd_ h0_ h1_ h5_ h6_ h7_ h8_
    have hJ0_ := hL_
    refine ⟨(fun _ => none), kcast (h0 t0_a t1_b t5_n t6_out t7_carry t8_i w_ hJ0_) ?_, ?_⟩
    · kernel_rfl
    · exact (obl_seq rfl (obl_seq rfl (obl_reg (obl_cond (obl_skip (obl_exit (obl_seq rfl (obl_blk rfl (obl_seq rfl (obl_reg (obl_seq rfl (obl_reg (obl_reg (obl_reg trivial)))))))))))))))) (obl_seq rfl (obl_reg (obl_ret trivial)))))))))))))))))))))

def surdref01_Sub_cut (J0 : Slc → Slc → Slc → Int → Int → Int → World → Prop) (m0 : Slc → Slc → Slc → Int → Int → Int → World → Nat) : Nat → Option ((Act → World → Prop) × (Act → World → Nat))
  | 0 => some (fun a_ w_ => atSz a_ 39 (atS a_ 0 fun t0_a => atS a_ 1 fun t1_b => atS a_ 5 fun t5_out => atI .u64 a_ 6 fun t6_borrow => atI .i64 a_ 13 fun t13 => atI .i64 a_ 14 fun t14 => J0 t0_a t1_b t5_out t6_borrow t13 t14 w_), fun a_ w_ => mS a_ 0 fun t0_a => mS a_ 1 fun t1_b => mS a_ 5 fun t5_out => mI a_ 6 fun t6_borrow => mI a_ 13 fun t13 => mI a_ 14 fun t14 => m0 t0_a t1_b t5_out t6_borrow t13 t14 w_)
  | _ => none

set_option maxRecDepth 100000 in
/-- surd/surdref01.Sub: function 117. -/
theorem surdref01_Sub_vc (a0_a : Slc) (a1_b : Slc) (w : World) (R : Ending → World → Prop)
    (J0 : Slc → Slc → Slc → Int → Int → Int → World → Prop) (m0 : Slc → Slc → Slc → Int → Int → Int → World → Nat)
    (h : semS Tryd.prog (Instr.makeSlice 42 (Value.int .i64 (a0_a.n : Int)) (Value.int .i64 (a0_a.n : Int))) w fun s1 w1 =>
    J0 a0_a a1_b s1 0 (a0_a.n : Int) 0 w1)
    (h0 : ∀ (t0_a : Slc) (t1_b : Slc) (t5_out : Slc) (t6_borrow : Int) (t13 : Int) (t14 : Int) (w_ : World), J0 t0_a t1_b t5_out t6_borrow t13 t14 w_ → 
    br (decide (t14 < t13))
    (fixA Tryd.prog (Instr.indexAt 42 t0_a.v (Value.int .i64 t14)) w_.drew fun ad1 =>
      ldI .u64 ad1 w_.drew fun x1 =>
      Calls Tryd.prog 100 #[t1_b.v, Value.int .i64 t14] w_.drew fun e1 w2 =>
      ∃ x2 : Int, e1 = .returned (Value.int .u64 x2) ∧
      (Ahead w_.drew w2 ∧
        (semA Tryd.prog (Instr.indexAt 42 t5_out.v (Value.int .i64 t14)) w2 fun ad2 w3 =>
          stC ad2 (Value.int .u64 (Int.tmod (IntKind.u64.wrap ((IntKind.u64.wrap ((IntKind.u64.wrap (x1 + 4294967296)) - x2)) - t6_borrow)) 4294967296)) w3 fun w4 =>
          J0 t0_a t1_b t5_out (IntKind.u64.wrap (1 - (IntKind.u64.wrap (Int.tdiv (IntKind.u64.wrap ((IntKind.u64.wrap ((IntKind.u64.wrap (x1 + 4294967296)) - x2)) - t6_borrow)) 4294967296)))) t13 (IntKind.i64.wrap (t14 + 1)) w4 ∧
          m0 t0_a t1_b t5_out (IntKind.u64.wrap (1 - (IntKind.u64.wrap (Int.tdiv (IntKind.u64.wrap ((IntKind.u64.wrap ((IntKind.u64.wrap (x1 + 4294967296)) - x2)) - t6_borrow)) 4294967296)))) t13 (IntKind.i64.wrap (t14 + 1)) w4 < m0 t0_a t1_b t5_out t6_borrow t13 t14 w_)))
    (Calls Tryd.prog 94 #[t5_out.v] w_ fun e2 w5 =>
      ∃ s2 : Slc, e2 = .returned s2.v ∧
      (R (.returned s2.v) w5))) :
    Calls Tryd.prog 117 #[a0_a.v, a1_b.v] w R := by
  refine calls_of_vc (surdref01_Sub_cut J0 m0) (by kernel_rfl) Tryd.func117 rfl ?_ ?_
  · refine kcast h ?_; kernel_rfl
  · exact (obl_seq rfl (obl_reg (obl_seq rfl (obl_reg (obl_seq rfl (obl_reg (obl_seq rfl (obl_seq rfl (obl_reg (obl_loop _ rfl (fun a_ w_ hL_ => (by
    obtain ⟨hz_, hd_, hL_⟩ := atSz_out hL_
    obtain ⟨t0_a, h0_, hL_⟩ := atS_out hL_
    obtain ⟨t1_b, h1_, hL_⟩ := atS_out hL_
    obtain ⟨t5_out, h5_, hL_⟩ := atS_out hL_
    obtain ⟨t6_borrow, h6_, hL_⟩ := atI_out hL_
    obtain ⟨t13, h13_, hL_⟩ := atI_out hL_
    obtain ⟨t14, h14_, hL_⟩ := atI_out hL_
    obtain ⟨g0, rfl⟩ : ∃ g, a_ = Fr 39 [(0, t0_a.v), (1, t1_b.v), (5, t5_out.v), (6, Value.int .u64 t6_borrow), (13, Value.int .i64 t13), (14, Value.int .i64 t14)] g := ⟨_, fr_of hz_ hd_ [(0, t0_a.v), (1, t1_b.v), (5, t5_out.v), (6, Value.int .u64 t6_borrow), (13, Value.int .i64 t13), (14, Value.int .i64 t14)] (sel_cons h0_ (sel_cons h1_ (sel_cons h5_ (sel_cons h6_ (sel_cons h13_ (sel_cons h14_ sel_nil))))))⟩
    clear hz_ hd_ h0_ h1_ h5_ h6_ h13_ h14_
    have hJ0_ := hL_
    refine ⟨(fun _ => none), kcast (h0 t0_a t1_b t5_out t6_borrow t13 t14 w_ hJ0_) ?_, ?_⟩
    · kernel_rfl
    · exact (obl_seq rfl (obl_reg (obl_seq rfl (obl_cond (obl_skip (obl_exit (obl_seq rfl (obl_blk rfl (obl_seq rfl (obl_reg (obl_seq rfl (obl_held (by kernel_rfl) (by kernel_rfl) (by kernel_rfl) (obl_seq rfl (obl_reg (obl_reg (obl_reg trivial)))))))))))))))))) (obl_seq rfl (obl_reg (obl_ret trivial)))))))))))))

def surdref01_Mul_cut (J0 : Slc → Slc → Slc → Int → Int → World → Prop) (m0 : Slc → Slc → Slc → Int → Int → World → Nat) (J2 : Slc → Slc → Slc → Int → Int → World → Slc → Slc → Int → Int → Int → Slc → Int → Int → Slc → Int → Int → World → Prop) (m2 : Slc → Slc → Slc → Int → Int → World → Slc → Slc → Int → Int → Int → Slc → Int → Int → Slc → Int → Int → World → Nat) : Nat → Option ((Act → World → Prop) × (Act → World → Nat))
  | 0 => some (fun a_ w_ => atSz a_ 65 (atS a_ 1 fun t1 => atS a_ 5 fun t5 => atS a_ 19 fun t19 => atI .i64 a_ 20 fun t20 => atI .i64 a_ 21 fun t21 => J0 t1 t5 t19 t20 t21 w_), fun a_ w_ => mS a_ 1 fun t1 => mS a_ 5 fun t5 => mS a_ 19 fun t19 => mI a_ 20 fun t20 => mI a_ 21 fun t21 => m0 t1 t5 t19 t20 t21 w_)
  | _ => none

def surdref01_Mul_cut_0 (J0 : Slc → Slc → Slc → Int → Int → World → Prop) (m0 : Slc → Slc → Slc → Int → Int → World → Nat) (J2 : Slc → Slc → Slc → Int → Int → World → Slc → Slc → Int → Int → Int → Slc → Int → Int → Slc → Int → Int → World → Prop) (m2 : Slc → Slc → Slc → Int → Int → World → Slc → Slc → Int → Int → Int → Slc → Int → Int → Slc → Int → Int → World → Nat) (o_t1 : Slc) (o_t5 : Slc) (o_t19 : Slc) (o_t20 : Int) (o_t21 : Int) (o_w_ : World) : Nat → Option ((Act → World → Prop) × (Act → World → Nat))
  | 2 => some (fun a_ w_ => atSz a_ 65 (atS a_ 1 fun t1 => atS a_ 5 fun t5 => atI .i64 a_ 6 fun t6 => atI .u64 a_ 7 fun t7 => atI .u64 a_ 8 fun t8 => atS a_ 19 fun t19 => atI .i64 a_ 20 fun t20 => atI .i64 a_ 21 fun t21 => atS a_ 26 fun t26 => atI .i64 a_ 27 fun t27 => atI .i64 a_ 28 fun t28 => J2 o_t1 o_t5 o_t19 o_t20 o_t21 o_w_ t1 t5 t6 t7 t8 t19 t20 t21 t26 t27 t28 w_), fun a_ w_ => mS a_ 1 fun t1 => mS a_ 5 fun t5 => mI a_ 6 fun t6 => mI a_ 7 fun t7 => mI a_ 8 fun t8 => mS a_ 19 fun t19 => mI a_ 20 fun t20 => mI a_ 21 fun t21 => mS a_ 26 fun t26 => mI a_ 27 fun t27 => mI a_ 28 fun t28 => m2 o_t1 o_t5 o_t19 o_t20 o_t21 o_w_ t1 t5 t6 t7 t8 t19 t20 t21 t26 t27 t28 w_)
  | _ => none

set_option maxRecDepth 100000 in
/-- surd/surdref01.Mul: function 129. -/
theorem surdref01_Mul_vc (a0 : Slc) (a1 : Slc) (w : World) (R : Ending → World → Prop)
    (J0 : Slc → Slc → Slc → Int → Int → World → Prop) (m0 : Slc → Slc → Slc → Int → Int → World → Nat) (J2 : Slc → Slc → Slc → Int → Int → World → Slc → Slc → Int → Int → Int → Slc → Int → Int → Slc → Int → Int → World → Prop) (m2 : Slc → Slc → Slc → Int → Int → World → Slc → Slc → Int → Int → Int → Slc → Int → Int → Slc → Int → Int → World → Nat)
    (h : semS Tryd.prog (Instr.makeSlice 42 (Value.int .i64 (IntKind.i64.wrap ((IntKind.i64.wrap ((a0.n : Int) + (a1.n : Int))) + 1))) (Value.int .i64 (IntKind.i64.wrap ((IntKind.i64.wrap ((a0.n : Int) + (a1.n : Int))) + 1)))) w fun s1 w1 =>
    J0 a1 s1 a0 (a0.n : Int) 0 w1)
    (h0 : ∀ (t1 : Slc) (t5 : Slc) (t19 : Slc) (t20 : Int) (t21 : Int) (w_ : World), J0 t1 t5 t19 t20 t21 w_ → 
    br (decide (t21 < t20))
    (semA Tryd.prog (Instr.indexAt 42 t19.v (Value.int .i64 t21)) w_ fun ad1 w2 =>
      ldI .u64 ad1 w2 fun x1 =>
      J2 t1 t5 t19 t20 t21 w_ t1 t5 t21 x1 0 t19 t20 t21 t1 (t1.n : Int) 0 w2)
    (Calls Tryd.prog 94 #[t5.v] w_ fun e1 w9 =>
      ∃ s2 : Slc, e1 = .returned s2.v ∧
      (R (.returned s2.v) w9)))
    (h2 : ∀ (t1 : Slc) (t5 : Slc) (t19 : Slc) (t20 : Int) (t21 : Int) (w_ : World), J0 t1 t5 t19 t20 t21 w_ → ∀ (t1' : Slc) (t5' : Slc) (t6' : Int) (t7' : Int) (t8' : Int) (t19' : Slc) (t20' : Int) (t21' : Int) (t26' : Slc) (t27' : Int) (t28' : Int) (w__ : World), J2 t1 t5 t19 t20 t21 w_ t1' t5' t6' t7' t8' t19' t20' t21' t26' t27' t28' w__ → 
    br (decide (t28' < t27'))
    (semA Tryd.prog (Instr.indexAt 42 t26'.v (Value.int .i64 t28')) w__ fun ad2 w3 =>
      ldI .u64 ad2 w3 fun x2 =>
      semA Tryd.prog (Instr.indexAt 42 t5'.v (Value.int .i64 (IntKind.i64.wrap (t6' + t28')))) w3 fun ad3 w4 =>
      ldI .u64 ad3 w4 fun x3 =>
      semA Tryd.prog (Instr.indexAt 42 t5'.v (Value.int .i64 (IntKind.i64.wrap (t6' + t28')))) w4 fun ad4 w5 =>
      stC ad4 (Value.int .u64 (Int.tmod (IntKind.u64.wrap ((IntKind.u64.wrap ((IntKind.u64.wrap (t7' * x2)) + x3)) + t8')) 4294967296)) w5 fun w6 =>
      J2 t1 t5 t19 t20 t21 w_ t1' t5' t6' t7' (IntKind.u64.wrap (Int.tdiv (IntKind.u64.wrap ((IntKind.u64.wrap ((IntKind.u64.wrap (t7' * x2)) + x3)) + t8')) 4294967296)) t19' t20' t21' t26' t27' (IntKind.i64.wrap (t28' + 1)) w6 ∧
      m2 t1 t5 t19 t20 t21 w_ t1' t5' t6' t7' (IntKind.u64.wrap (Int.tdiv (IntKind.u64.wrap ((IntKind.u64.wrap ((IntKind.u64.wrap (t7' * x2)) + x3)) + t8')) 4294967296)) t19' t20' t21' t26' t27' (IntKind.i64.wrap (t28' + 1)) w6 < m2 t1 t5 t19 t20 t21 w_ t1' t5' t6' t7' t8' t19' t20' t21' t26' t27' t28' w__)
    (semA Tryd.prog (Instr.indexAt 42 t5'.v (Value.int .i64 (IntKind.i64.wrap (t6' + (t1'.n : Int))))) w__ fun ad5 w7 =>
      stC ad5 (Value.int .u64 t8') w7 fun w8 =>
      J0 t1' t5' t19' t20' (IntKind.i64.wrap (t21' + 1)) w8 ∧
      m0 t1' t5' t19' t20' (IntKind.i64.wrap (t21' + 1)) w8 < m0 t1 t5 t19 t20 t21 w_)) :
    Calls Tryd.prog 129 #[a0.v, a1.v] w R := by
  refine calls_of_vc (surdref01_Mul_cut J0 m0 J2 m2) (by kernel_rfl) Tryd.func129 rfl ?_ ?_
  · refine kcast h ?_; kernel_rfl
  · exact (obl_seq rfl (obl_reg (obl_seq rfl (obl_reg (obl_seq rfl (obl_seq rfl (obl_reg (obl_loop _ rfl (fun a_ w_ hL_ => (by
    obtain ⟨hz_, hd_, hL_⟩ := atSz_out hL_
    obtain ⟨t1, h1_, hL_⟩ := atS_out hL_
    obtain ⟨t5, h5_, hL_⟩ := atS_out hL_
    obtain ⟨t19, h19_, hL_⟩ := atS_out hL_
    obtain ⟨t20, h20_, hL_⟩ := atI_out hL_
    obtain ⟨t21, h21_, hL_⟩ := atI_out hL_
    obtain ⟨g0, rfl⟩ : ∃ g, a_ = Fr 65 [(1, t1.v), (5, t5.v), (19, t19.v), (20, Value.int .i64 t20), (21, Value.int .i64 t21)] g := ⟨_, fr_of hz_ hd_ [(1, t1.v), (5, t5.v), (19, t19.v), (20, Value.int .i64 t20), (21, Value.int .i64 t21)] (sel_cons h1_ (sel_cons h5_ (sel_cons h19_ (sel_cons h20_ (sel_cons h21_ sel_nil)))))⟩
    clear hz_ hd_ h1_ h5_ h19_ h20_ h21_
    have hJ0_ := hL_
    refine ⟨(surdref01_Mul_cut_0 J0 m0 J2 m2 t1 t5 t19 t20 t21 w_), kcast (h0 t1 t5 t19 t20 t21 w_ hJ0_) ?_, ?_⟩
    · kernel_rfl
    · exact (obl_seq rfl (obl_reg (obl_seq rfl (obl_cond (obl_skip (obl_exit (obl_seq rfl (obl_blk rfl (obl_seq rfl (obl_reg (obl_seq rfl (obl_reg (obl_seq rfl (obl_seq rfl (obl_reg (obl_loop _ rfl (fun a_ w__ hL_ => (by
      obtain ⟨hz_, hd_, hL_⟩ := atSz_out hL_
      obtain ⟨t1', h1_, hL_⟩ := atS_out hL_
      obtain ⟨t5', h5_, hL_⟩ := atS_out hL_
      obtain ⟨t6', h6_, hL_⟩ := atI_out hL_
      obtain ⟨t7', h7_, hL_⟩ := atI_out hL_
      obtain ⟨t8', h8_, hL_⟩ := atI_out hL_
      obtain ⟨t19', h19_, hL_⟩ := atS_out hL_
      obtain ⟨t20', h20_, hL_⟩ := atI_out hL_
      obtain ⟨t21', h21_, hL_⟩ := atI_out hL_
      obtain ⟨t26', h26_, hL_⟩ := atS_out hL_
      obtain ⟨t27', h27_, hL_⟩ := atI_out hL_
      obtain ⟨t28', h28_, hL_⟩ := atI_out hL_
      obtain ⟨g2, rfl⟩ : ∃ g, a_ = Fr 65 [(1, t1'.v), (5, t5'.v), (6, Value.int .i64 t6'), (7, Value.int .u64 t7'), (8, Value.int .u64 t8'), (19, t19'.v), (20, Value.int .i64 t20'), (21, Value.int .i64 t21'), (26, t26'.v), (27, Value.int .i64 t27'), (28, Value.int .i64 t28')] g := ⟨_, fr_of hz_ hd_ [(1, t1'.v), (5, t5'.v), (6, Value.int .i64 t6'), (7, Value.int .u64 t7'), (8, Value.int .u64 t8'), (19, t19'.v), (20, Value.int .i64 t20'), (21, Value.int .i64 t21'), (26, t26'.v), (27, Value.int .i64 t27'), (28, Value.int .i64 t28')] (sel_cons h1_ (sel_cons h5_ (sel_cons h6_ (sel_cons h7_ (sel_cons h8_ (sel_cons h19_ (sel_cons h20_ (sel_cons h21_ (sel_cons h26_ (sel_cons h27_ (sel_cons h28_ sel_nil)))))))))))⟩
      clear hz_ hd_ h1_ h5_ h6_ h7_ h8_ h19_ h20_ h21_ h26_ h27_ h28_
      have hJ2_ := hL_
      refine ⟨(fun _ => none), kcast (h2 t1 t5 t19 t20 t21 w_ hJ0_ t1' t5' t6' t7' t8' t19' t20' t21' t26' t27' t28' w__ hJ2_) ?_, ?_⟩
      · kernel_rfl
      · exact (obl_seq rfl (obl_reg (obl_seq rfl (obl_cond (obl_skip (obl_exit (obl_seq rfl (obl_blk rfl (obl_seq rfl (obl_reg (obl_seq rfl (obl_reg (obl_seq rfl (obl_reg (obl_reg (obl_reg trivial)))))))))))))))))) (obl_reg (obl_reg trivial)))))))))))))))))))) (obl_seq rfl (obl_reg (obl_ret trivial)))))))))))

def surdref01_Shl_cut (J0 : Int → Slc → Int → Slc → Int → Int → World → Prop) (m0 : Int → Slc → Int → Slc → Int → Int → World → Nat) : Nat → Option ((Act → World → Prop) × (Act → World → Nat))
  | 0 => some (fun a_ w_ => atSz a_ 55 (atI .i64 a_ 1 fun t1_n => atS a_ 5 fun t5_out => atI .i64 a_ 6 fun t6_s => atS a_ 21 fun t21 => atI .i64 a_ 22 fun t22 => atI .i64 a_ 23 fun t23 => J0 t1_n t5_out t6_s t21 t22 t23 w_), fun a_ w_ => mI a_ 1 fun t1_n => mS a_ 5 fun t5_out => mI a_ 6 fun t6_s => mS a_ 21 fun t21 => mI a_ 22 fun t22 => mI a_ 23 fun t23 => m0 t1_n t5_out t6_s t21 t22 t23 w_)
  | _ => none

set_option maxRecDepth 100000 in
/-- surd/surdref01.Shl: function 54. -/
theorem surdref01_Shl_vc (a0_a : Slc) (a1_n : Int) (w : World) (R : Ending → World → Prop)
    (J0 : Int → Slc → Int → Slc → Int → Int → World → Prop) (m0 : Int → Slc → Int → Slc → Int → Int → World → Nat)
    (h : br ((a0_a.n : Int) == 0)
    (R (.returned ((⟨none, 0, 0⟩ : Slc).v)) w)
    (semS Tryd.prog (Instr.makeSlice 42 (Value.int .i64 (IntKind.i64.wrap ((IntKind.i64.wrap ((a0_a.n : Int) + (IntKind.i64.wrap (Int.tdiv a1_n 32)))) + 1))) (Value.int .i64 (IntKind.i64.wrap ((IntKind.i64.wrap ((a0_a.n : Int) + (IntKind.i64.wrap (Int.tdiv a1_n 32)))) + 1)))) w fun s1 w1 =>
      J0 a1_n s1 (Int.tmod a1_n 32) a0_a (a0_a.n : Int) 0 w1))
    (h0 : ∀ (t1_n : Int) (t5_out : Slc) (t6_s : Int) (t21 : Slc) (t22 : Int) (t23 : Int) (w_ : World), J0 t1_n t5_out t6_s t21 t22 t23 w_ → 
    br (decide (t23 < t22))
    (semA Tryd.prog (Instr.indexAt 42 t21.v (Value.int .i64 t23)) w_ fun ad1 w2 =>
      ldI .u64 ad1 w2 fun x1 =>
      fixA Tryd.prog (Instr.indexAt 42 t5_out.v (Value.int .i64 (IntKind.i64.wrap (t23 + (IntKind.i64.wrap (Int.tdiv t1_n 32)))))) w2 fun ad2 =>
      ldI .u64 ad2 w2 fun x2 =>
      fixI Tryd.prog .u64 (binOp .shl 94 (Value.int .u64 x1) (Value.int .i64 t6_s)) w2 fun x3 =>
      fixA Tryd.prog (Instr.indexAt 42 t5_out.v (Value.int .i64 (IntKind.i64.wrap (t23 + (IntKind.i64.wrap (Int.tdiv t1_n 32)))))) w2 fun ad3 =>
      stC ad3 (Value.int .u64 (IntKind.u64.wrap (x2 + (Int.tmod x3 4294967296)))) w2.drew fun w3 =>
      semI Tryd.prog .u64 (binOp .shl 94 (Value.int .u64 x1) (Value.int .i64 t6_s)) w3 fun x4 w4 =>
      semA Tryd.prog (Instr.indexAt 42 t5_out.v (Value.int .i64 (IntKind.i64.wrap ((IntKind.i64.wrap (t23 + (IntKind.i64.wrap (Int.tdiv t1_n 32)))) + 1)))) w4 fun ad4 w5 =>
      stC ad4 (Value.int .u64 (IntKind.u64.wrap (Int.tdiv x4 4294967296))) w5 fun w6 =>
      J0 t1_n t5_out t6_s t21 t22 (IntKind.i64.wrap (t23 + 1)) w6 ∧
      m0 t1_n t5_out t6_s t21 t22 (IntKind.i64.wrap (t23 + 1)) w6 < m0 t1_n t5_out t6_s t21 t22 t23 w_)
    (Calls Tryd.prog 94 #[t5_out.v] w_ fun e1 w7 =>
      ∃ s2 : Slc, e1 = .returned s2.v ∧
      (R (.returned s2.v) w7))) :
    Calls Tryd.prog 54 #[a0_a.v, Value.int .i64 a1_n] w R := by
  refine calls_of_vc (surdref01_Shl_cut J0 m0) (by kernel_rfl) Tryd.func54 rfl ?_ ?_
  · refine kcast h ?_; kernel_rfl
  · exact (obl_seq rfl (obl_reg (obl_seq rfl (obl_seq rfl (obl_reg (obl_cond (obl_seq rfl (obl_reg (obl_ret (obl_skip (obl_seq rfl (obl_reg (obl_seq rfl (obl_reg (obl_seq rfl (obl_seq rfl (obl_reg (obl_loop _ rfl (fun a_ w_ hL_ => (by
    obtain ⟨hz_, hd_, hL_⟩ := atSz_out hL_
    obtain ⟨t1_n, h1_, hL_⟩ := atI_out hL_
    obtain ⟨t5_out, h5_, hL_⟩ := atS_out hL_
    obtain ⟨t6_s, h6_, hL_⟩ := atI_out hL_
    obtain ⟨t21, h21_, hL_⟩ := atS_out hL_
    obtain ⟨t22, h22_, hL_⟩ := atI_out hL_
    obtain ⟨t23, h23_, hL_⟩ := atI_out hL_
    obtain ⟨g0, rfl⟩ : ∃ g, a_ = Fr 55 [(1, Value.int .i64 t1_n), (5, t5_out.v), (6, Value.int .i64 t6_s), (21, t21.v), (22, Value.int .i64 t22), (23, Value.int .i64 t23)] g := ⟨_, fr_of hz_ hd_ [(1, Value.int .i64 t1_n), (5, t5_out.v), (6, Value.int .i64 t6_s), (21, t21.v), (22, Value.int .i64 t22), (23, Value.int .i64 t23)] (sel_cons h1_ (sel_cons h5_ (sel_cons h6_ (sel_cons h21_ (sel_cons h22_ (sel_cons h23_ sel_nil))))))⟩
    clear hz_ hd_ h1_ h5_ h6_ h21_ h22_ h23_
    have hJ0_ := hL_
    refine ⟨(fun _ => none), kcast (h0 t1_n t5_out t6_s t21 t22 t23 w_ hJ0_) ?_, ?_⟩
    · kernel_rfl
    · exact (obl_seq rfl (obl_reg (obl_seq rfl (obl_cond (obl_skip (obl_exit (obl_seq rfl (obl_blk rfl (obl_seq rfl (obl_reg (obl_seq rfl (obl_tail 13 (by kernel_rfl) (by kernel_rfl) (by kernel_rfl) (by kernel_rfl) (by kernel_rfl) (obl_reg (obl_reg trivial)))))))))))))))) (obl_seq rfl (obl_reg (obl_ret trivial)))))))))))))))))))))

def surdref01_Shr_cut (J0 : Slc → Int → Slc → Int → Int → Int → World → Prop) (m0 : Slc → Int → Slc → Int → Int → Int → World → Nat) : Nat → Option ((Act → World → Prop) × (Act → World → Nat))
  | 0 => some (fun a_ w_ => atSz a_ 53 (atS a_ 0 fun t0_a => atI .i64 a_ 1 fun t1_n => atS a_ 5 fun t5_out => atI .i64 a_ 6 fun t6_s => atI .i64 a_ 23 fun t23 => atI .i64 a_ 24 fun t24 => J0 t0_a t1_n t5_out t6_s t23 t24 w_), fun a_ w_ => mS a_ 0 fun t0_a => mI a_ 1 fun t1_n => mS a_ 5 fun t5_out => mI a_ 6 fun t6_s => mI a_ 23 fun t23 => mI a_ 24 fun t24 => m0 t0_a t1_n t5_out t6_s t23 t24 w_)
  | _ => none

set_option maxRecDepth 100000 in
/-- surd/surdref01.Shr: function 69. -/
theorem surdref01_Shr_vc (a0_a : Slc) (a1_n : Int) (w : World) (R : Ending → World → Prop)
    (J0 : Slc → Int → Slc → Int → Int → Int → World → Prop) (m0 : Slc → Int → Slc → Int → Int → Int → World → Nat)
    (h : br (decide ((IntKind.i64.wrap (Int.tdiv a1_n 32)) ≥ (a0_a.n : Int)))
    (R (.returned ((⟨none, 0, 0⟩ : Slc).v)) w)
    (semS Tryd.prog (Instr.makeSlice 42 (Value.int .i64 (IntKind.i64.wrap ((a0_a.n : Int) - (IntKind.i64.wrap (Int.tdiv a1_n 32))))) (Value.int .i64 (IntKind.i64.wrap ((a0_a.n : Int) - (IntKind.i64.wrap (Int.tdiv a1_n 32)))))) w fun s1 w1 =>
      J0 a0_a a1_n s1 (Int.tmod a1_n 32) (s1.n : Int) 0 w1))
    (h0 : ∀ (t0_a : Slc) (t1_n : Int) (t5_out : Slc) (t6_s : Int) (t23 : Int) (t24 : Int) (w_ : World), J0 t0_a t1_n t5_out t6_s t23 t24 w_ → 
    br (decide (t24 < t23))
    (fixA Tryd.prog (Instr.indexAt 42 t0_a.v (Value.int .i64 (IntKind.i64.wrap (t24 + (IntKind.i64.wrap (Int.tdiv t1_n 32)))))) w_.drew fun ad1 =>
      ldI .u64 ad1 w_.drew fun x1 =>
      Calls Tryd.prog 100 #[t0_a.v, Value.int .i64 (IntKind.i64.wrap ((IntKind.i64.wrap (t24 + (IntKind.i64.wrap (Int.tdiv t1_n 32)))) + 1))] w_.drew fun e1 w2 =>
      ∃ x2 : Int, e1 = .returned (Value.int .u64 x2) ∧
      (Ahead w_.drew w2 ∧
        (semI Tryd.prog .u64 (binOp .shr 94 (Value.int .u64 (IntKind.u64.wrap (x1 + (IntKind.u64.wrap (x2 * 4294967296))))) (Value.int .i64 t6_s)) w2 fun x3 w3 =>
          semA Tryd.prog (Instr.indexAt 42 t5_out.v (Value.int .i64 t24)) w3 fun ad2 w4 =>
          stC ad2 (Value.int .u64 (Int.tmod x3 4294967296)) w4 fun w5 =>
          J0 t0_a t1_n t5_out t6_s t23 (IntKind.i64.wrap (t24 + 1)) w5 ∧
          m0 t0_a t1_n t5_out t6_s t23 (IntKind.i64.wrap (t24 + 1)) w5 < m0 t0_a t1_n t5_out t6_s t23 t24 w_)))
    (Calls Tryd.prog 94 #[t5_out.v] w_ fun e2 w6 =>
      ∃ s2 : Slc, e2 = .returned s2.v ∧
      (R (.returned s2.v) w6))) :
    Calls Tryd.prog 69 #[a0_a.v, Value.int .i64 a1_n] w R := by
  refine calls_of_vc (surdref01_Shr_cut J0 m0) (by kernel_rfl) Tryd.func69 rfl ?_ ?_
  · refine kcast h ?_; kernel_rfl
  · exact (obl_seq rfl (obl_reg (obl_seq rfl (obl_seq rfl (obl_reg (obl_cond (obl_seq rfl (obl_reg (obl_ret (obl_skip (obl_seq rfl (obl_reg (obl_seq rfl (obl_reg (obl_seq rfl (obl_seq rfl (obl_reg (obl_loop _ rfl (fun a_ w_ hL_ => (by
    obtain ⟨hz_, hd_, hL_⟩ := atSz_out hL_
    obtain ⟨t0_a, h0_, hL_⟩ := atS_out hL_
    obtain ⟨t1_n, h1_, hL_⟩ := atI_out hL_
    obtain ⟨t5_out, h5_, hL_⟩ := atS_out hL_
    obtain ⟨t6_s, h6_, hL_⟩ := atI_out hL_
    obtain ⟨t23, h23_, hL_⟩ := atI_out hL_
    obtain ⟨t24, h24_, hL_⟩ := atI_out hL_
    obtain ⟨g0, rfl⟩ : ∃ g, a_ = Fr 53 [(0, t0_a.v), (1, Value.int .i64 t1_n), (5, t5_out.v), (6, Value.int .i64 t6_s), (23, Value.int .i64 t23), (24, Value.int .i64 t24)] g := ⟨_, fr_of hz_ hd_ [(0, t0_a.v), (1, Value.int .i64 t1_n), (5, t5_out.v), (6, Value.int .i64 t6_s), (23, Value.int .i64 t23), (24, Value.int .i64 t24)] (sel_cons h0_ (sel_cons h1_ (sel_cons h5_ (sel_cons h6_ (sel_cons h23_ (sel_cons h24_ sel_nil))))))⟩
    clear hz_ hd_ h0_ h1_ h5_ h6_ h23_ h24_
    have hJ0_ := hL_
    refine ⟨(fun _ => none), kcast (h0 t0_a t1_n t5_out t6_s t23 t24 w_ hJ0_) ?_, ?_⟩
    · kernel_rfl
    · exact (obl_seq rfl (obl_reg (obl_seq rfl (obl_cond (obl_skip (obl_exit (obl_seq rfl (obl_blk rfl (obl_seq rfl (obl_reg (obl_seq rfl (obl_held (by kernel_rfl) (by kernel_rfl) (by kernel_rfl) (obl_reg (obl_reg trivial)))))))))))))))) (obl_seq rfl (obl_reg (obl_ret trivial)))))))))))))))))))))

def surdref01_Lend_cut (J0 : Slc → Slc → Int → Int → World → Prop) (m0 : Slc → Slc → Int → Int → World → Nat) (J2 : Slc → Slc → Slc → Int → Int → World → Prop) (m2 : Slc → Slc → Slc → Int → Int → World → Nat) : Nat → Option ((Act → World → Prop) × (Act → World → Nat))
  | 0 => some (fun a_ w_ => atSz a_ 40 (atS a_ 0 fun t0_a => atS a_ 4 fun t4_whole => atI .i64 a_ 13 fun t13 => atI .i64 a_ 14 fun t14 => J0 t0_a t4_whole t13 t14 w_), fun a_ w_ => mS a_ 0 fun t0_a => mS a_ 4 fun t4_whole => mI a_ 13 fun t13 => mI a_ 14 fun t14 => m0 t0_a t4_whole t13 t14 w_)
  | 2 => some (fun a_ w_ => atSz a_ 40 (atS a_ 0 fun t0_a => atS a_ 4 fun t4_whole => atS a_ 21 fun t21 => atI .i64 a_ 22 fun t22 => atI .i64 a_ 23 fun t23 => J2 t0_a t4_whole t21 t22 t23 w_), fun a_ w_ => mS a_ 0 fun t0_a => mS a_ 4 fun t4_whole => mS a_ 21 fun t21 => mI a_ 22 fun t22 => mI a_ 23 fun t23 => m2 t0_a t4_whole t21 t22 t23 w_)
  | _ => none

set_option maxRecDepth 100000 in
/-- surd/surdref01.Lend: function 65. -/
theorem surdref01_Lend_vc (a0_a : Slc) (w : World) (R : Ending → World → Prop)
    (J0 : Slc → Slc → Int → Int → World → Prop) (m0 : Slc → Slc → Int → Int → World → Nat) (J2 : Slc → Slc → Slc → Int → Int → World → Prop) (m2 : Slc → Slc → Slc → Int → Int → World → Nat)
    (h : semS Tryd.prog (Instr.makeSlice 25 (Value.int .i64 (IntKind.i64.wrap ((a0_a.n : Int) + 4))) (Value.int .i64 (IntKind.i64.wrap ((a0_a.n : Int) + 4)))) w fun s1 w1 =>
    J0 a0_a s1 (s1.n : Int) 0 w1)
    (h0 : ∀ (t0_a : Slc) (t4_whole : Slc) (t13 : Int) (t14 : Int) (w_ : World), J0 t0_a t4_whole t13 t14 w_ → 
    br (decide (t14 < t13))
    (semA Tryd.prog (Instr.indexAt 25 t4_whole.v (Value.int .i64 t14)) w_ fun ad1 w2 =>
      stC ad1 (Value.int .u64 10855845) w2 fun w3 =>
      J0 t0_a t4_whole t13 (IntKind.i64.wrap (t14 + 1)) w3 ∧
      m0 t0_a t4_whole t13 (IntKind.i64.wrap (t14 + 1)) w3 < m0 t0_a t4_whole t13 t14 w_)
    (J2 t0_a t4_whole t0_a (t0_a.n : Int) 0 w_))
    (h2 : ∀ (t0_a : Slc) (t4_whole : Slc) (t21 : Slc) (t22 : Int) (t23 : Int) (w_ : World), J2 t0_a t4_whole t21 t22 t23 w_ → 
    br (decide (t23 < t22))
    (semA Tryd.prog (Instr.indexAt 25 t21.v (Value.int .i64 t23)) w_ fun ad2 w4 =>
      ldI .u64 ad2 w4 fun x1 =>
      semA Tryd.prog (Instr.indexAt 25 t4_whole.v (Value.int .i64 (IntKind.i64.wrap (t23 + 2)))) w4 fun ad3 w5 =>
      stC ad3 (Value.int .u64 x1) w5 fun w6 =>
      J2 t0_a t4_whole t21 t22 (IntKind.i64.wrap (t23 + 1)) w6 ∧
      m2 t0_a t4_whole t21 t22 (IntKind.i64.wrap (t23 + 1)) w6 < m2 t0_a t4_whole t21 t22 t23 w_)
    (fixS Tryd.prog (Instr.sliceAt 25 t4_whole.v (some (Value.int .i64 2)) (some (Value.int .i64 (IntKind.i64.wrap ((t0_a.n : Int) + 2)))) none) w_ fun s2 =>
      ∀ w7, Ahead w_ w7 →
      (R (.returned (Value.tuple #[t4_whole.v, s2.v])) w7))) :
    Calls Tryd.prog 65 #[a0_a.v] w R := by
  refine calls_of_vc (surdref01_Lend_cut J0 m0 J2 m2) (by kernel_rfl) Tryd.func65 rfl ?_ ?_
  · refine kcast h ?_; kernel_rfl
  · exact (obl_seq rfl (obl_reg (obl_seq rfl (obl_reg (obl_seq rfl (obl_seq rfl (obl_reg (obl_loop _ rfl (fun a_ w_ hL_ => (by
    obtain ⟨hz_, hd_, hL_⟩ := atSz_out hL_
    obtain ⟨t0_a, h0_, hL_⟩ := atS_out hL_
    obtain ⟨t4_whole, h4_, hL_⟩ := atS_out hL_
    obtain ⟨t13, h13_, hL_⟩ := atI_out hL_
    obtain ⟨t14, h14_, hL_⟩ := atI_out hL_
    obtain ⟨g0, rfl⟩ : ∃ g, a_ = Fr 40 [(0, t0_a.v), (4, t4_whole.v), (13, Value.int .i64 t13), (14, Value.int .i64 t14)] g := ⟨_, fr_of hz_ hd_ [(0, t0_a.v), (4, t4_whole.v), (13, Value.int .i64 t13), (14, Value.int .i64 t14)] (sel_cons h0_ (sel_cons h4_ (sel_cons h13_ (sel_cons h14_ sel_nil))))⟩
    clear hz_ hd_ h0_ h4_ h13_ h14_
    have hJ0_ := hL_
    refine ⟨(fun _ => none), kcast (h0 t0_a t4_whole t13 t14 w_ hJ0_) ?_, ?_⟩
    · kernel_rfl
    · exact (obl_seq rfl (obl_reg (obl_seq rfl (obl_cond (obl_skip (obl_exit (obl_seq rfl (obl_blk rfl (obl_seq rfl (obl_reg (obl_reg (obl_reg trivial)))))))))))))) (obl_seq rfl (obl_seq rfl (obl_reg (obl_loop _ rfl (fun a_ w_ hL_ => (by
    obtain ⟨hz_, hd_, hL_⟩ := atSz_out hL_
    obtain ⟨t0_a, h0_, hL_⟩ := atS_out hL_
    obtain ⟨t4_whole, h4_, hL_⟩ := atS_out hL_
    obtain ⟨t21, h21_, hL_⟩ := atS_out hL_
    obtain ⟨t22, h22_, hL_⟩ := atI_out hL_
    obtain ⟨t23, h23_, hL_⟩ := atI_out hL_
    obtain ⟨g2, rfl⟩ : ∃ g, a_ = Fr 40 [(0, t0_a.v), (4, t4_whole.v), (21, t21.v), (22, Value.int .i64 t22), (23, Value.int .i64 t23)] g := ⟨_, fr_of hz_ hd_ [(0, t0_a.v), (4, t4_whole.v), (21, t21.v), (22, Value.int .i64 t22), (23, Value.int .i64 t23)] (sel_cons h0_ (sel_cons h4_ (sel_cons h21_ (sel_cons h22_ (sel_cons h23_ sel_nil)))))⟩
    clear hz_ hd_ h0_ h4_ h21_ h22_ h23_
    have hJ2_ := hL_
    refine ⟨(fun _ => none), kcast (h2 t0_a t4_whole t21 t22 t23 w_ hJ2_) ?_, ?_⟩
    · kernel_rfl
    · exact (obl_seq rfl (obl_reg (obl_seq rfl (obl_cond (obl_skip (obl_exit (obl_seq rfl (obl_blk rfl (obl_seq rfl (obl_reg (obl_reg (obl_reg trivial)))))))))))))) (obl_seq rfl (obl_quiet (by kernel_rfl) (by kernel_rfl) (by kernel_rfl) (by kernel_rfl) (obl_ret trivial)))))))))))))))

def surdref01_Kept_cut (J0 : Slc → Slc → Int → Int → World → Prop) (m0 : Slc → Slc → Int → Int → World → Nat) : Nat → Option ((Act → World → Prop) × (Act → World → Nat))
  | 0 => some (fun a_ w_ => atSz a_ 39 (atS a_ 1 fun t1_a => atS a_ 13 fun t13 => atI .i64 a_ 14 fun t14 => atI .i64 a_ 15 fun t15 => J0 t1_a t13 t14 t15 w_), fun a_ w_ => mS a_ 1 fun t1_a => mS a_ 13 fun t13 => mI a_ 14 fun t14 => mI a_ 15 fun t15 => m0 t1_a t13 t14 t15 w_)
  | _ => none

set_option maxRecDepth 100000 in
/-- surd/surdref01.Kept: function 32. -/
theorem surdref01_Kept_vc (a0_whole : Slc) (a1_a : Slc) (w : World) (R : Ending → World → Prop)
    (J0 : Slc → Slc → Int → Int → World → Prop) (m0 : Slc → Slc → Int → Int → World → Nat)
    (h : br ((a0_whole.n : Int) != (IntKind.i64.wrap ((a1_a.n : Int) + 4)))
    (R (.returned (Value.bool false)) w)
    (J0 a1_a a0_whole (a0_whole.n : Int) 0 w))
    (h0 : ∀ (t1_a : Slc) (t13 : Slc) (t14 : Int) (t15 : Int) (w_ : World), J0 t1_a t13 t14 t15 w_ → 
    br (decide (t15 < t14))
    (semA Tryd.prog (Instr.indexAt 25 t13.v (Value.int .i64 t15)) w_ fun ad1 w1 =>
      ldI .u64 ad1 w1 fun x1 =>
      br (decide (t15 < 2))
      (br (x1 != 10855845)
        (R (.returned (Value.bool false)) w1)
        (J0 t1_a t13 t14 (IntKind.i64.wrap (t15 + 1)) w1 ∧
          m0 t1_a t13 t14 (IntKind.i64.wrap (t15 + 1)) w1 < m0 t1_a t13 t14 t15 w_))
      (br (decide (t15 ≥ (IntKind.i64.wrap ((t1_a.n : Int) + 2))))
        (br (x1 != 10855845)
          (R (.returned (Value.bool false)) w1)
          (J0 t1_a t13 t14 (IntKind.i64.wrap (t15 + 1)) w1 ∧
            m0 t1_a t13 t14 (IntKind.i64.wrap (t15 + 1)) w1 < m0 t1_a t13 t14 t15 w_))
        (semA Tryd.prog (Instr.indexAt 25 t1_a.v (Value.int .i64 (IntKind.i64.wrap (t15 - 2)))) w1 fun ad2 w2 =>
          ldI .u64 ad2 w2 fun x2 =>
          br (x1 != x2)
          (R (.returned (Value.bool false)) w2)
          (J0 t1_a t13 t14 (IntKind.i64.wrap (t15 + 1)) w2 ∧
            m0 t1_a t13 t14 (IntKind.i64.wrap (t15 + 1)) w2 < m0 t1_a t13 t14 t15 w_))))
    (R (.returned (Value.bool true)) w_)) :
    Calls Tryd.prog 32 #[a0_whole.v, a1_a.v] w R := by
  refine calls_of_vc (surdref01_Kept_cut J0 m0) (by kernel_rfl) Tryd.func32 rfl ?_ ?_
  · refine kcast h ?_; kernel_rfl
  · exact (obl_seq rfl (obl_reg (obl_seq rfl (obl_seq rfl (obl_reg (obl_cond (obl_seq rfl (obl_reg (obl_ret (obl_skip (obl_seq rfl (obl_seq rfl (obl_reg (obl_loop _ rfl (fun a_ w_ hL_ => (by
    obtain ⟨hz_, hd_, hL_⟩ := atSz_out hL_
    obtain ⟨t1_a, h1_, hL_⟩ := atS_out hL_
    obtain ⟨t13, h13_, hL_⟩ := atS_out hL_
    obtain ⟨t14, h14_, hL_⟩ := atI_out hL_
    obtain ⟨t15, h15_, hL_⟩ := atI_out hL_
    obtain ⟨g0, rfl⟩ : ∃ g, a_ = Fr 39 [(1, t1_a.v), (13, t13.v), (14, Value.int .i64 t14), (15, Value.int .i64 t15)] g := ⟨_, fr_of hz_ hd_ [(1, t1_a.v), (13, t13.v), (14, Value.int .i64 t14), (15, Value.int .i64 t15)] (sel_cons h1_ (sel_cons h13_ (sel_cons h14_ (sel_cons h15_ sel_nil))))⟩
    clear hz_ hd_ h1_ h13_ h14_ h15_
    have hJ0_ := hL_
    refine ⟨(fun _ => none), kcast (h0 t1_a t13 t14 t15 w_ hJ0_) ?_, ?_⟩
    · kernel_rfl
    · exact (obl_seq rfl (obl_reg (obl_seq rfl (obl_cond (obl_skip (obl_exit (obl_seq rfl (obl_blk rfl (obl_seq rfl (obl_reg (obl_seq rfl (obl_reg (obl_cond (obl_seq rfl (obl_reg (obl_cond (obl_seq rfl (obl_reg (obl_ret (obl_skip (obl_seq rfl (obl_reg (obl_cond (obl_seq rfl (obl_reg (obl_ret (obl_skip (obl_reg trivial)))))))))))))))))))))))))))))) (obl_seq rfl (obl_reg (obl_ret trivial)))))))))))))))))

def surdref01_Own_cut (J0 : Slc → Slc → Int → Int → World → Prop) (m0 : Slc → Slc → Int → Int → World → Nat) (J2 : Slc → Slc → Int → Int → World → Slc → Int → Slc → Slc → Int → Int → Int → Int → World → Prop) (m2 : Slc → Slc → Int → Int → World → Slc → Int → Slc → Slc → Int → Int → Int → Int → World → Nat) (J4 : Slc → Slc → Int → Int → World → Prop) (m4 : Slc → Slc → Int → Int → World → Nat) (J6 : Slc → Int → Int → World → Prop) (m6 : Slc → Int → Int → World → Nat) (J8 : Slc → Int → Int → World → Int → Slc → Slc → Int → Int → Slc → Int → Int → World → Prop) (m8 : Slc → Int → Int → World → Int → Slc → Slc → Int → Int → Slc → Int → Int → World → Nat) : Nat → Option ((Act → World → Prop) × (Act → World → Nat))
  | 0 => some (fun a_ w_ => atSz a_ 112 (atS a_ 0 fun t0 => atS a_ 13 fun t13 => atI .i64 a_ 14 fun t14 => atI .i64 a_ 15 fun t15 => J0 t0 t13 t14 t15 w_), fun a_ w_ => mS a_ 0 fun t0 => mS a_ 13 fun t13 => mI a_ 14 fun t14 => mI a_ 15 fun t15 => m0 t0 t13 t14 t15 w_)
  | 4 => some (fun a_ w_ => atSz a_ 112 (atS a_ 0 fun t0 => atS a_ 34 fun t34 => atI .i64 a_ 35 fun t35 => atI .i64 a_ 36 fun t36 => J4 t0 t34 t35 t36 w_), fun a_ w_ => mS a_ 0 fun t0 => mS a_ 34 fun t34 => mI a_ 35 fun t35 => mI a_ 36 fun t36 => m4 t0 t34 t35 t36 w_)
  | 6 => some (fun a_ w_ => atSz a_ 112 (atS a_ 62 fun t62 => atI .i64 a_ 63 fun t63 => atI .i64 a_ 64 fun t64 => J6 t62 t63 t64 w_), fun a_ w_ => mS a_ 62 fun t62 => mI a_ 63 fun t63 => mI a_ 64 fun t64 => m6 t62 t63 t64 w_)
  | _ => none

def surdref01_Own_cut_0 (J0 : Slc → Slc → Int → Int → World → Prop) (m0 : Slc → Slc → Int → Int → World → Nat) (J2 : Slc → Slc → Int → Int → World → Slc → Int → Slc → Slc → Int → Int → Int → Int → World → Prop) (m2 : Slc → Slc → Int → Int → World → Slc → Int → Slc → Slc → Int → Int → Int → Int → World → Nat) (J4 : Slc → Slc → Int → Int → World → Prop) (m4 : Slc → Slc → Int → Int → World → Nat) (J6 : Slc → Int → Int → World → Prop) (m6 : Slc → Int → Int → World → Nat) (J8 : Slc → Int → Int → World → Int → Slc → Slc → Int → Int → Slc → Int → Int → World → Prop) (m8 : Slc → Int → Int → World → Int → Slc → Slc → Int → Int → Slc → Int → Int → World → Nat) (o_t0 : Slc) (o_t13 : Slc) (o_t14 : Int) (o_t15 : Int) (o_w_ : World) : Nat → Option ((Act → World → Prop) × (Act → World → Nat))
  | 2 => some (fun a_ w_ => atSz a_ 112 (atS a_ 0 fun t0 => atI .i64 a_ 3 fun t3 => atS a_ 4 fun t4 => atS a_ 13 fun t13 => atI .i64 a_ 14 fun t14 => atI .i64 a_ 15 fun t15 => atI .i64 a_ 21 fun t21 => atI .i64 a_ 22 fun t22 => J2 o_t0 o_t13 o_t14 o_t15 o_w_ t0 t3 t4 t13 t14 t15 t21 t22 w_), fun a_ w_ => mS a_ 0 fun t0 => mI a_ 3 fun t3 => mS a_ 4 fun t4 => mS a_ 13 fun t13 => mI a_ 14 fun t14 => mI a_ 15 fun t15 => mI a_ 21 fun t21 => mI a_ 22 fun t22 => m2 o_t0 o_t13 o_t14 o_t15 o_w_ t0 t3 t4 t13 t14 t15 t21 t22 w_)
  | _ => none

def surdref01_Own_cut_6 (J0 : Slc → Slc → Int → Int → World → Prop) (m0 : Slc → Slc → Int → Int → World → Nat) (J2 : Slc → Slc → Int → Int → World → Slc → Int → Slc → Slc → Int → Int → Int → Int → World → Prop) (m2 : Slc → Slc → Int → Int → World → Slc → Int → Slc → Slc → Int → Int → Int → Int → World → Nat) (J4 : Slc → Slc → Int → Int → World → Prop) (m4 : Slc → Slc → Int → Int → World → Nat) (J6 : Slc → Int → Int → World → Prop) (m6 : Slc → Int → Int → World → Nat) (J8 : Slc → Int → Int → World → Int → Slc → Slc → Int → Int → Slc → Int → Int → World → Prop) (m8 : Slc → Int → Int → World → Int → Slc → Slc → Int → Int → Slc → Int → Int → World → Nat) (o_t62 : Slc) (o_t63 : Int) (o_t64 : Int) (o_w_ : World) : Nat → Option ((Act → World → Prop) × (Act → World → Nat))
  | 8 => some (fun a_ w_ => atSz a_ 112 (atI .i64 a_ 9 fun t9 => atS a_ 10 fun t10 => atS a_ 62 fun t62 => atI .i64 a_ 63 fun t63 => atI .i64 a_ 64 fun t64 => atS a_ 69 fun t69 => atI .i64 a_ 70 fun t70 => atI .i64 a_ 71 fun t71 => J8 o_t62 o_t63 o_t64 o_w_ t9 t10 t62 t63 t64 t69 t70 t71 w_), fun a_ w_ => mI a_ 9 fun t9 => mS a_ 10 fun t10 => mS a_ 62 fun t62 => mI a_ 63 fun t63 => mI a_ 64 fun t64 => mS a_ 69 fun t69 => mI a_ 70 fun t70 => mI a_ 71 fun t71 => m8 o_t62 o_t63 o_t64 o_w_ t9 t10 t62 t63 t64 t69 t70 t71 w_)
  | _ => none

set_option maxRecDepth 100000 in
/-- surd/surdref01.Own: function 31. -/
theorem surdref01_Own_vc (a0 : Slc) (w : World) (R : Ending → World → Prop)
    (J0 : Slc → Slc → Int → Int → World → Prop) (m0 : Slc → Slc → Int → Int → World → Nat) (J2 : Slc → Slc → Int → Int → World → Slc → Int → Slc → Slc → Int → Int → Int → Int → World → Prop) (m2 : Slc → Slc → Int → Int → World → Slc → Int → Slc → Slc → Int → Int → Int → Int → World → Nat) (J4 : Slc → Slc → Int → Int → World → Prop) (m4 : Slc → Slc → Int → Int → World → Nat) (J6 : Slc → Int → Int → World → Prop) (m6 : Slc → Int → Int → World → Nat) (J8 : Slc → Int → Int → World → Int → Slc → Slc → Int → Int → Slc → Int → Int → World → Prop) (m8 : Slc → Int → Int → World → Int → Slc → Slc → Int → Int → Slc → Int → Int → World → Nat)
    (h : J0 a0 a0 (a0.n : Int) 0 w)
    (h0 : ∀ (t0 : Slc) (t13 : Slc) (t14 : Int) (t15 : Int) (w_ : World), J0 t0 t13 t14 t15 w_ → 
    br (decide (t15 < t14))
    (semA Tryd.prog (Instr.indexAt 110 t13.v (Value.int .i64 t15)) w_ fun ad1 w1 =>
      ldS ad1 w1 fun s1 =>
      J2 t0 t13 t14 t15 w_ t0 t15 s1 t13 t14 t15 (s1.n : Int) 0 w1)
    (J4 t0 t0 (t0.n : Int) 0 w_))
    (h2 : ∀ (t0 : Slc) (t13 : Slc) (t14 : Int) (t15 : Int) (w_ : World), J0 t0 t13 t14 t15 w_ → ∀ (t0' : Slc) (t3' : Int) (t4' : Slc) (t13' : Slc) (t14' : Int) (t15' : Int) (t21' : Int) (t22' : Int) (w__ : World), J2 t0 t13 t14 t15 w_ t0' t3' t4' t13' t14' t15' t21' t22' w__ → 
    br (decide (t22' < t21'))
    (semA Tryd.prog (Instr.indexAt 25 t4'.v (Value.int .i64 t22')) w__ fun ad2 w2 =>
      stC ad2 (Value.int .u64 (IntKind.u64.wrap (IntKind.i64.wrap ((Int.tmod t3' 251) + 1)))) w2 fun w3 =>
      J2 t0 t13 t14 t15 w_ t0' t3' t4' t13' t14' t15' t21' (IntKind.i64.wrap (t22' + 1)) w3 ∧
      m2 t0 t13 t14 t15 w_ t0' t3' t4' t13' t14' t15' t21' (IntKind.i64.wrap (t22' + 1)) w3 < m2 t0 t13 t14 t15 w_ t0' t3' t4' t13' t14' t15' t21' t22' w__)
    (J0 t0' t13' t14' (IntKind.i64.wrap (t15' + 1)) w__ ∧
      m0 t0' t13' t14' (IntKind.i64.wrap (t15' + 1)) w__ < m0 t0 t13 t14 t15 w_))
    (h4 : ∀ (t0 : Slc) (t34 : Slc) (t35 : Int) (t36 : Int) (w_ : World), J4 t0 t34 t35 t36 w_ → 
    br (decide (t36 < t35))
    (semA Tryd.prog (Instr.indexAt 110 t34.v (Value.int .i64 t36)) w_ fun ad3 w4 =>
      ldS ad3 w4 fun s2 =>
      newC w4 #[Value.int .u64 (IntKind.u64.wrap (IntKind.i64.wrap (300 + (IntKind.i64.wrap (5 * t36))))), Value.int .u64 (IntKind.u64.wrap ((IntKind.u64.wrap (IntKind.i64.wrap (300 + (IntKind.i64.wrap (5 * t36))))) + 1)), Value.int .u64 (IntKind.u64.wrap ((IntKind.u64.wrap (IntKind.i64.wrap (300 + (IntKind.i64.wrap (5 * t36))))) + 2)), Value.int .u64 (IntKind.u64.wrap ((IntKind.u64.wrap (IntKind.i64.wrap (300 + (IntKind.i64.wrap (5 * t36))))) + 3)), Value.int .u64 (IntKind.u64.wrap ((IntKind.u64.wrap (IntKind.i64.wrap (300 + (IntKind.i64.wrap (5 * t36))))) + 4))] 94 fun ad4 w5 =>
      semS Tryd.prog (Builtin.append_ #[25, 25] 25 #[s2.v, (⟨some ad4, 5, 5⟩ : Slc).v]) w5 fun s3 w6 =>
      semA Tryd.prog (Instr.indexAt 110 t0.v (Value.int .i64 t36)) w6 fun ad5 w7 =>
      stC ad5 s3.v w7 fun w8 =>
      J4 t0 t34 t35 (IntKind.i64.wrap (t36 + 1)) w8 ∧
      m4 t0 t34 t35 (IntKind.i64.wrap (t36 + 1)) w8 < m4 t0 t34 t35 t36 w_)
    (J6 t0 (t0.n : Int) 0 w_))
    (h6 : ∀ (t62 : Slc) (t63 : Int) (t64 : Int) (w_ : World), J6 t62 t63 t64 w_ → 
    br (decide (t64 < t63))
    (semA Tryd.prog (Instr.indexAt 110 t62.v (Value.int .i64 t64)) w_ fun ad6 w9 =>
      ldS ad6 w9 fun s4 =>
      J8 t62 t63 t64 w_ t64 s4 t62 t63 t64 s4 (s4.n : Int) 0 w9)
    (R (.returned (Value.bool true)) w_))
    (h8 : ∀ (t62 : Slc) (t63 : Int) (t64 : Int) (w_ : World), J6 t62 t63 t64 w_ → ∀ (t9' : Int) (t10' : Slc) (t62' : Slc) (t63' : Int) (t64' : Int) (t69' : Slc) (t70' : Int) (t71' : Int) (w__ : World), J8 t62 t63 t64 w_ t9' t10' t62' t63' t64' t69' t70' t71' w__ → 
    br (decide (t71' < t70'))
    (semA Tryd.prog (Instr.indexAt 25 t69'.v (Value.int .i64 t71')) w__ fun ad7 w10 =>
      ldI .u64 ad7 w10 fun x1 =>
      br (decide (t71' < (IntKind.i64.wrap ((t10'.n : Int) - 5))))
      (br (x1 != (IntKind.u64.wrap (IntKind.i64.wrap ((Int.tmod t9' 251) + 1))))
        (R (.returned (Value.bool false)) w10)
        (br (decide (t71' ≥ (IntKind.i64.wrap ((t10'.n : Int) - 5))))
          (br (x1 != (IntKind.u64.wrap (IntKind.i64.wrap ((IntKind.i64.wrap ((IntKind.i64.wrap ((IntKind.i64.wrap (300 + (IntKind.i64.wrap (5 * t9')))) + t71')) - (t10'.n : Int))) + 5))))
            (R (.returned (Value.bool false)) w10)
            (J8 t62 t63 t64 w_ t9' t10' t62' t63' t64' t69' t70' (IntKind.i64.wrap (t71' + 1)) w10 ∧
              m8 t62 t63 t64 w_ t9' t10' t62' t63' t64' t69' t70' (IntKind.i64.wrap (t71' + 1)) w10 < m8 t62 t63 t64 w_ t9' t10' t62' t63' t64' t69' t70' t71' w__))
          (J8 t62 t63 t64 w_ t9' t10' t62' t63' t64' t69' t70' (IntKind.i64.wrap (t71' + 1)) w10 ∧
            m8 t62 t63 t64 w_ t9' t10' t62' t63' t64' t69' t70' (IntKind.i64.wrap (t71' + 1)) w10 < m8 t62 t63 t64 w_ t9' t10' t62' t63' t64' t69' t70' t71' w__)))
      (br (decide (t71' ≥ (IntKind.i64.wrap ((t10'.n : Int) - 5))))
        (br (x1 != (IntKind.u64.wrap (IntKind.i64.wrap ((IntKind.i64.wrap ((IntKind.i64.wrap ((IntKind.i64.wrap (300 + (IntKind.i64.wrap (5 * t9')))) + t71')) - (t10'.n : Int))) + 5))))
          (R (.returned (Value.bool false)) w10)
          (J8 t62 t63 t64 w_ t9' t10' t62' t63' t64' t69' t70' (IntKind.i64.wrap (t71' + 1)) w10 ∧
            m8 t62 t63 t64 w_ t9' t10' t62' t63' t64' t69' t70' (IntKind.i64.wrap (t71' + 1)) w10 < m8 t62 t63 t64 w_ t9' t10' t62' t63' t64' t69' t70' t71' w__))
        (J8 t62 t63 t64 w_ t9' t10' t62' t63' t64' t69' t70' (IntKind.i64.wrap (t71' + 1)) w10 ∧
          m8 t62 t63 t64 w_ t9' t10' t62' t63' t64' t69' t70' (IntKind.i64.wrap (t71' + 1)) w10 < m8 t62 t63 t64 w_ t9' t10' t62' t63' t64' t69' t70' t71' w__)))
    (J6 t62' t63' (IntKind.i64.wrap (t64' + 1)) w__ ∧
      m6 t62' t63' (IntKind.i64.wrap (t64' + 1)) w__ < m6 t62 t63 t64 w_)) :
    Calls Tryd.prog 31 #[a0.v] w R := by
  refine calls_of_vc (surdref01_Own_cut J0 m0 J2 m2 J4 m4 J6 m6 J8 m8) (by kernel_rfl) Tryd.func31 rfl ?_ ?_
  · refine kcast h ?_; kernel_rfl
  · exact (obl_seq rfl (obl_reg (obl_seq rfl (obl_seq rfl (obl_reg (obl_loop _ rfl (fun a_ w_ hL_ => (by
    obtain ⟨hz_, hd_, hL_⟩ := atSz_out hL_
    obtain ⟨t0, h0_, hL_⟩ := atS_out hL_
    obtain ⟨t13, h13_, hL_⟩ := atS_out hL_
    obtain ⟨t14, h14_, hL_⟩ := atI_out hL_
    obtain ⟨t15, h15_, hL_⟩ := atI_out hL_
    obtain ⟨g0, rfl⟩ : ∃ g, a_ = Fr 112 [(0, t0.v), (13, t13.v), (14, Value.int .i64 t14), (15, Value.int .i64 t15)] g := ⟨_, fr_of hz_ hd_ [(0, t0.v), (13, t13.v), (14, Value.int .i64 t14), (15, Value.int .i64 t15)] (sel_cons h0_ (sel_cons h13_ (sel_cons h14_ (sel_cons h15_ sel_nil))))⟩
    clear hz_ hd_ h0_ h13_ h14_ h15_
    have hJ0_ := hL_
    refine ⟨(surdref01_Own_cut_0 J0 m0 J2 m2 J4 m4 J6 m6 J8 m8 t0 t13 t14 t15 w_), kcast (h0 t0 t13 t14 t15 w_ hJ0_) ?_, ?_⟩
    · kernel_rfl
    · exact (obl_seq rfl (obl_reg (obl_seq rfl (obl_cond (obl_skip (obl_exit (obl_seq rfl (obl_blk rfl (obl_seq rfl (obl_reg (obl_seq rfl (obl_reg (obl_loop _ rfl (fun a_ w__ hL_ => (by
      obtain ⟨hz_, hd_, hL_⟩ := atSz_out hL_
      obtain ⟨t0', h0_, hL_⟩ := atS_out hL_
      obtain ⟨t3', h3_, hL_⟩ := atI_out hL_
      obtain ⟨t4', h4_, hL_⟩ := atS_out hL_
      obtain ⟨t13', h13_, hL_⟩ := atS_out hL_
      obtain ⟨t14', h14_, hL_⟩ := atI_out hL_
      obtain ⟨t15', h15_, hL_⟩ := atI_out hL_
      obtain ⟨t21', h21_, hL_⟩ := atI_out hL_
      obtain ⟨t22', h22_, hL_⟩ := atI_out hL_
      obtain ⟨g2, rfl⟩ : ∃ g, a_ = Fr 112 [(0, t0'.v), (3, Value.int .i64 t3'), (4, t4'.v), (13, t13'.v), (14, Value.int .i64 t14'), (15, Value.int .i64 t15'), (21, Value.int .i64 t21'), (22, Value.int .i64 t22')] g := ⟨_, fr_of hz_ hd_ [(0, t0'.v), (3, Value.int .i64 t3'), (4, t4'.v), (13, t13'.v), (14, Value.int .i64 t14'), (15, Value.int .i64 t15'), (21, Value.int .i64 t21'), (22, Value.int .i64 t22')] (sel_cons h0_ (sel_cons h3_ (sel_cons h4_ (sel_cons h13_ (sel_cons h14_ (sel_cons h15_ (sel_cons h21_ (sel_cons h22_ sel_nil))))))))⟩
      clear hz_ hd_ h0_ h3_ h4_ h13_ h14_ h15_ h21_ h22_
      have hJ2_ := hL_
      refine ⟨(fun _ => none), kcast (h2 t0 t13 t14 t15 w_ hJ0_ t0' t3' t4' t13' t14' t15' t21' t22' w__ hJ2_) ?_, ?_⟩
      · kernel_rfl
      · exact (obl_seq rfl (obl_reg (obl_seq rfl (obl_cond (obl_skip (obl_exit (obl_seq rfl (obl_blk rfl (obl_seq rfl (obl_reg (obl_reg (obl_reg trivial)))))))))))))) (obl_reg trivial)))))))))))))))) (obl_seq rfl (obl_seq rfl (obl_reg (obl_loop _ rfl (fun a_ w_ hL_ => (by
    obtain ⟨hz_, hd_, hL_⟩ := atSz_out hL_
    obtain ⟨t0, h0_, hL_⟩ := atS_out hL_
    obtain ⟨t34, h34_, hL_⟩ := atS_out hL_
    obtain ⟨t35, h35_, hL_⟩ := atI_out hL_
    obtain ⟨t36, h36_, hL_⟩ := atI_out hL_
    obtain ⟨g4, rfl⟩ : ∃ g, a_ = Fr 112 [(0, t0.v), (34, t34.v), (35, Value.int .i64 t35), (36, Value.int .i64 t36)] g := ⟨_, fr_of hz_ hd_ [(0, t0.v), (34, t34.v), (35, Value.int .i64 t35), (36, Value.int .i64 t36)] (sel_cons h0_ (sel_cons h34_ (sel_cons h35_ (sel_cons h36_ sel_nil))))⟩
    clear hz_ hd_ h0_ h34_ h35_ h36_
    have hJ4_ := hL_
    refine ⟨(fun _ => none), kcast (h4 t0 t34 t35 t36 w_ hJ4_) ?_, ?_⟩
    · kernel_rfl
    · exact (obl_seq rfl (obl_reg (obl_seq rfl (obl_cond (obl_skip (obl_exit (obl_seq rfl (obl_blk rfl (obl_seq rfl (obl_reg (obl_seq rfl (obl_reg (obl_seq rfl (obl_reg (obl_reg (obl_reg trivial)))))))))))))))))) (obl_seq rfl (obl_seq rfl (obl_reg (obl_loop _ rfl (fun a_ w_ hL_ => (by
    obtain ⟨hz_, hd_, hL_⟩ := atSz_out hL_
    obtain ⟨t62, h62_, hL_⟩ := atS_out hL_
    obtain ⟨t63, h63_, hL_⟩ := atI_out hL_
    obtain ⟨t64, h64_, hL_⟩ := atI_out hL_
    obtain ⟨g6, rfl⟩ : ∃ g, a_ = Fr 112 [(62, t62.v), (63, Value.int .i64 t63), (64, Value.int .i64 t64)] g := ⟨_, fr_of hz_ hd_ [(62, t62.v), (63, Value.int .i64 t63), (64, Value.int .i64 t64)] (sel_cons h62_ (sel_cons h63_ (sel_cons h64_ sel_nil)))⟩
    clear hz_ hd_ h62_ h63_ h64_
    have hJ6_ := hL_
    refine ⟨(surdref01_Own_cut_6 J0 m0 J2 m2 J4 m4 J6 m6 J8 m8 t62 t63 t64 w_), kcast (h6 t62 t63 t64 w_ hJ6_) ?_, ?_⟩
    · kernel_rfl
    · exact (obl_seq rfl (obl_reg (obl_seq rfl (obl_cond (obl_skip (obl_exit (obl_seq rfl (obl_blk rfl (obl_seq rfl (obl_reg (obl_seq rfl (obl_reg (obl_loop _ rfl (fun a_ w__ hL_ => (by
      obtain ⟨hz_, hd_, hL_⟩ := atSz_out hL_
      obtain ⟨t9', h9_, hL_⟩ := atI_out hL_
      obtain ⟨t10', h10_, hL_⟩ := atS_out hL_
      obtain ⟨t62', h62_, hL_⟩ := atS_out hL_
      obtain ⟨t63', h63_, hL_⟩ := atI_out hL_
      obtain ⟨t64', h64_, hL_⟩ := atI_out hL_
      obtain ⟨t69', h69_, hL_⟩ := atS_out hL_
      obtain ⟨t70', h70_, hL_⟩ := atI_out hL_
      obtain ⟨t71', h71_, hL_⟩ := atI_out hL_
      obtain ⟨g8, rfl⟩ : ∃ g, a_ = Fr 112 [(9, Value.int .i64 t9'), (10, t10'.v), (62, t62'.v), (63, Value.int .i64 t63'), (64, Value.int .i64 t64'), (69, t69'.v), (70, Value.int .i64 t70'), (71, Value.int .i64 t71')] g := ⟨_, fr_of hz_ hd_ [(9, Value.int .i64 t9'), (10, t10'.v), (62, t62'.v), (63, Value.int .i64 t63'), (64, Value.int .i64 t64'), (69, t69'.v), (70, Value.int .i64 t70'), (71, Value.int .i64 t71')] (sel_cons h9_ (sel_cons h10_ (sel_cons h62_ (sel_cons h63_ (sel_cons h64_ (sel_cons h69_ (sel_cons h70_ (sel_cons h71_ sel_nil))))))))⟩
      clear hz_ hd_ h9_ h10_ h62_ h63_ h64_ h69_ h70_ h71_
      have hJ8_ := hL_
      refine ⟨(fun _ => none), kcast (h8 t62 t63 t64 w_ hJ6_ t9' t10' t62' t63' t64' t69' t70' t71' w__ hJ8_) ?_, ?_⟩
      · kernel_rfl
      · exact (obl_seq rfl (obl_reg (obl_seq rfl (obl_cond (obl_skip (obl_exit (obl_seq rfl (obl_blk rfl (obl_seq rfl (obl_reg (obl_seq rfl (obl_reg (obl_cond (obl_seq rfl (obl_reg (obl_ret (obl_skip (obl_reg trivial)))))))))))))))))))) (obl_reg trivial)))))))))))))))) (obl_seq rfl (obl_reg (obl_ret trivial)))))))))))))))))

end Go.Proofs.YthhbjhdnaopcnaaDoor
