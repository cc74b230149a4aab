/- What the law leans on, part 2. No condition. -/
import Derived.Test.YtflipimlpgbnmaaZFuelAttempts1
namespace Go.Proofs.Ytflipimlpgbnmaa
open Go Go.RowKit Eng
set_option linter.unusedVariables false

def surdref01_norm_cut (J0 : Slc → Int → World → Prop) (m0 : Slc → Int → World → Nat) : Nat → Option ((Act → World → Prop) × (Act → World → Nat))
  | 0 => some (fun a_ w_ => atSz a_ 22 (atS a_ 0 fun t0_a => atI .i64 a_ 3 fun t3_n => J0 t0_a t3_n w_), fun a_ w_ => mS a_ 0 fun t0_a => mI a_ 3 fun t3_n => m0 t0_a t3_n w_)
  | _ => none

set_option maxRecDepth 100000 in
/-- surd/surdref01.norm: function 48. -/
theorem surdref01_norm_vc (a0_a : Slc) (w : World) (R : Ending → World → Prop)
    (J0 : Slc → Int → World → Prop) (m0 : Slc → Int → World → Nat)
    (h : J0 a0_a (a0_a.n : Int) w)
    (h0 : ∀ (t0_a : Slc) (t3_n : Int) (w_ : World), J0 t0_a t3_n w_ → 
    br (decide (t3_n > 0))
    (semA Try.prog (Instr.indexAt 29 t0_a.v (Value.int .i64 (IntKind.i64.wrap (t3_n - 1)))) w_ fun ad1 w1 =>
     ldI .u64 ad1 w1 fun x1 =>
     br (x1 == 0)
     (J0 t0_a (IntKind.i64.wrap (t3_n - 1)) w1 ∧
      m0 t0_a (IntKind.i64.wrap (t3_n - 1)) w1 < m0 t0_a t3_n w_)
     (semS Try.prog (Instr.sliceAt 29 t0_a.v none (some (Value.int .i64 t3_n)) (some (Value.int .i64 t3_n))) w1 fun s1 w2 =>
      R (.returned s1.v) w2))
    (semS Try.prog (Instr.sliceAt 29 t0_a.v none (some (Value.int .i64 t3_n)) (some (Value.int .i64 t3_n))) w_ fun s2 w3 =>
     R (.returned s2.v) w3)) :
    Calls Try.prog 48 #[a0_a.v] w R := by
  refine calls_of_vc (surdref01_norm_cut J0 m0) (by kernel_rfl) Try.func48 rfl ?_ ?_
  · refine kcast h ?_; kernel_rfl
  · exact (obl_seq rfl (obl_reg (obl_seq rfl (obl_reg (obl_seq rfl (obl_loop _ rfl (fun a_ w_ hL_ => (by
    obtain ⟨hz_, hd_, hL_⟩ := atSz_out hL_
    obtain ⟨t0_a, h0_, hL_⟩ := atS_out hL_
    obtain ⟨t3_n, h3_, hL_⟩ := atI_out hL_
    obtain ⟨g0, rfl⟩ : ∃ g, a_ = Fr 22 [(0, t0_a.v), (3, Value.int .i64 t3_n)] g := ⟨_, fr_of hz_ hd_ [(0, t0_a.v), (3, Value.int .i64 t3_n)] (sel_cons h0_ (sel_cons h3_ sel_nil))⟩
    clear hz_ hd_ h0_ h3_
    have hJ0_ := hL_
    refine ⟨(fun _ => none), kcast (h0 t0_a t3_n w_ hJ0_) ?_, ?_⟩
    · kernel_rfl
    · exact (obl_seq rfl (obl_seq rfl (obl_reg (obl_cond (obl_skip (obl_exit (obl_blk rfl (obl_reg trivial)))))))))) (obl_seq rfl (obl_reg (obl_ret trivial)))))))))

def surdref01_Of_cut (J0 : Slc → Slc → Int → Int → World → Prop) (m0 : Slc → Slc → Int → Int → World → Nat) : Nat → Option ((Act → World → Prop) × (Act → World → Nat))
  | 0 => some (fun a_ w_ => atSz a_ 26 (atS a_ 3 fun t3_out => atS a_ 10 fun t10 => atI .i64 a_ 11 fun t11 => atI .i64 a_ 12 fun t12 => J0 t3_out t10 t11 t12 w_), fun a_ w_ => mS a_ 3 fun t3_out => mS a_ 10 fun t10 => mI a_ 11 fun t11 => mI a_ 12 fun t12 => m0 t3_out t10 t11 t12 w_)
  | _ => none

set_option maxRecDepth 100000 in
/-- surd/surdref01.Of: function 18. -/
theorem surdref01_Of_vc (a0_limbs : Slc) (w : World) (R : Ending → World → Prop)
    (J0 : Slc → Slc → Int → Int → World → Prop) (m0 : Slc → Slc → Int → Int → World → Nat)
    (h : semS Try.prog (Instr.makeSlice 29 (Value.int .i64 0) (Value.int .i64 (IntKind.i64.wrap (2 * (a0_limbs.n : Int))))) w fun s1 w1 =>
    J0 s1 a0_limbs (a0_limbs.n : Int) 0 w1)
    (h0 : ∀ (t3_out : Slc) (t10 : Slc) (t11 : Int) (t12 : Int) (w_ : World), J0 t3_out t10 t11 t12 w_ → 
    br (decide (t12 < t11))
    (semA Try.prog (Instr.indexAt 25 t10.v (Value.int .i64 t12)) w_ fun ad1 w2 =>
     ldI .u64 ad1 w2 fun x1 =>
     newC w2 #[Value.int .u64 (Int.tmod x1 4294967296), Value.int .u64 (IntKind.u64.wrap (Int.tdiv x1 4294967296))] 49 fun ad2 w3 =>
     semS Try.prog (Builtin.append_ #[29, 29] 29 #[t3_out.v, (⟨some ad2, 2, 2⟩ : Slc).v]) w3 fun s2 w4 =>
     J0 s2 t10 t11 (IntKind.i64.wrap (t12 + 1)) w4 ∧
     m0 s2 t10 t11 (IntKind.i64.wrap (t12 + 1)) w4 < m0 t3_out t10 t11 t12 w_)
    (Calls Try.prog 48 #[t3_out.v] w_ fun e1 w5 =>
     ∃ s3 : Slc, e1 = .returned s3.v ∧
     (R (.returned s3.v) w5))) :
    Calls Try.prog 18 #[a0_limbs.v] w R := by
  refine calls_of_vc (surdref01_Of_cut J0 m0) (by kernel_rfl) Try.func18 rfl ?_ ?_
  · refine kcast h ?_; kernel_rfl
  · exact (obl_seq rfl (obl_reg (obl_seq rfl (obl_reg (obl_seq rfl (obl_seq rfl (obl_reg (obl_loop _ rfl (fun a_ w_ hL_ => (by
    obtain ⟨hz_, hd_, hL_⟩ := atSz_out hL_
    obtain ⟨t3_out, h3_, hL_⟩ := atS_out hL_
    obtain ⟨t10, h10_, hL_⟩ := atS_out hL_
    obtain ⟨t11, h11_, hL_⟩ := atI_out hL_
    obtain ⟨t12, h12_, hL_⟩ := atI_out hL_
    obtain ⟨g0, rfl⟩ : ∃ g, a_ = Fr 26 [(3, t3_out.v), (10, t10.v), (11, Value.int .i64 t11), (12, Value.int .i64 t12)] g := ⟨_, fr_of hz_ hd_ [(3, t3_out.v), (10, t10.v), (11, Value.int .i64 t11), (12, Value.int .i64 t12)] (sel_cons h3_ (sel_cons h10_ (sel_cons h11_ (sel_cons h12_ sel_nil))))⟩
    clear hz_ hd_ h3_ h10_ h11_ h12_
    have hJ0_ := hL_
    refine ⟨(fun _ => none), kcast (h0 t3_out t10 t11 t12 w_ hJ0_) ?_, ?_⟩
    · kernel_rfl
    · exact (obl_seq rfl (obl_reg (obl_seq rfl (obl_cond (obl_skip (obl_exit (obl_seq rfl (obl_blk rfl (obl_seq rfl (obl_reg (obl_reg (obl_reg trivial)))))))))))))) (obl_seq rfl (obl_reg (obl_ret trivial)))))))))))

set_option maxRecDepth 100000 in
/-- surd/surdref01.Int: function 31. -/
theorem surdref01_Int_vc (a0_v : Int) (w : World) (R : Ending → World → Prop)
    
    (h : newC w #[Value.int .u64 (IntKind.u64.wrap a0_v)] 49 fun ad1 w1 =>
    Calls Try.prog 18 #[(⟨some ad1, 1, 1⟩ : Slc).v] w1 fun e1 w2 =>
    ∃ s1 : Slc, e1 = .returned s1.v ∧
    (R (.returned s1.v) w2)) :
    Calls Try.prog 31 #[Value.int .i64 a0_v] w R := by
  refine calls_of_vc (fun _ => none) (by kernel_rfl) Try.func31 rfl ?_ ?_
  · refine kcast h ?_; kernel_rfl
  · exact (obl_seq rfl (obl_reg (obl_seq rfl (obl_reg (obl_ret trivial)))))

def surdref01_Cmp_cut (J0 : Slc → Slc → Int → World → Prop) (m0 : Slc → Slc → Int → World → Nat) : Nat → Option ((Act → World → Prop) × (Act → World → Nat))
  | 0 => some (fun a_ w_ => atSz a_ 41 (atS a_ 0 fun t0_a => atS a_ 1 fun t1_b => atI .i64 a_ 5 fun t5_i => J0 t0_a t1_b t5_i w_), fun a_ w_ => mS a_ 0 fun t0_a => mS a_ 1 fun t1_b => mI a_ 5 fun t5_i => m0 t0_a t1_b t5_i w_)
  | _ => none

set_option maxRecDepth 100000 in
/-- surd/surdref01.Cmp: function 28. -/
theorem surdref01_Cmp_vc (a0_a : Slc) (a1_b : Slc) (w : World) (R : Ending → World → Prop)
    (J0 : Slc → Slc → Int → World → Prop) (m0 : Slc → Slc → Int → World → Nat)
    (h : br ((a0_a.n : Int) != (a1_b.n : Int))
    (br (decide ((a0_a.n : Int) < (a1_b.n : Int)))
     (R (.returned (Value.int .i64 (-1))) w)
     (R (.returned (Value.int .i64 1)) w))
    (J0 a0_a a1_b (IntKind.i64.wrap ((a0_a.n : Int) - 1)) w))
    (h0 : ∀ (t0_a : Slc) (t1_b : Slc) (t5_i : Int) (w_ : World), J0 t0_a t1_b t5_i w_ → 
    br (decide (t5_i ≥ 0))
    (fixA Try.prog (Instr.indexAt 29 t0_a.v (Value.int .i64 t5_i)) w_ fun ad1 =>
     ldI .u64 ad1 w_ fun x1 =>
     fixA Try.prog (Instr.indexAt 29 t1_b.v (Value.int .i64 t5_i)) w_ fun ad2 =>
     ldI .u64 ad2 w_ fun x2 =>
     ∀ w1, Ahead w_ w1 →
     (br (decide (x1 < x2))
      (R (.returned (Value.int .i64 (-1))) w1)
      (fixA Try.prog (Instr.indexAt 29 t0_a.v (Value.int .i64 t5_i)) w1 fun ad3 =>
       ldI .u64 ad3 w1 fun x3 =>
       fixA Try.prog (Instr.indexAt 29 t1_b.v (Value.int .i64 t5_i)) w1 fun ad4 =>
       ldI .u64 ad4 w1 fun x4 =>
       ∀ w2, Ahead w1 w2 →
       (br (decide (x3 > x4))
        (R (.returned (Value.int .i64 1)) w2)
        (J0 t0_a t1_b (IntKind.i64.wrap (t5_i - 1)) w2 ∧
         m0 t0_a t1_b (IntKind.i64.wrap (t5_i - 1)) w2 < m0 t0_a t1_b t5_i w_)))))
    (R (.returned (Value.int .i64 0)) w_)) :
    Calls Try.prog 28 #[a0_a.v, a1_b.v] w R := by
  refine calls_of_vc (surdref01_Cmp_cut J0 m0) (by kernel_rfl) Try.func28 rfl ?_ ?_
  · refine kcast h ?_; kernel_rfl
  · exact (obl_seq rfl (obl_reg (obl_seq rfl (obl_seq rfl (obl_reg (obl_cond (obl_seq rfl (obl_seq rfl (obl_reg (obl_cond (obl_seq rfl (obl_reg (obl_ret (obl_skip (obl_seq rfl (obl_reg (obl_ret (obl_skip (obl_seq rfl (obl_seq rfl (obl_reg (obl_loop _ rfl (fun a_ w_ hL_ => (by
    obtain ⟨hz_, hd_, hL_⟩ := atSz_out hL_
    obtain ⟨t0_a, h0_, hL_⟩ := atS_out hL_
    obtain ⟨t1_b, h1_, hL_⟩ := atS_out hL_
    obtain ⟨t5_i, h5_, hL_⟩ := atI_out hL_
    obtain ⟨g0, rfl⟩ : ∃ g, a_ = Fr 41 [(0, t0_a.v), (1, t1_b.v), (5, Value.int .i64 t5_i)] g := ⟨_, fr_of hz_ hd_ [(0, t0_a.v), (1, t1_b.v), (5, Value.int .i64 t5_i)] (sel_cons h0_ (sel_cons h1_ (sel_cons h5_ sel_nil)))⟩
    clear hz_ hd_ h0_ h1_ h5_
    have hJ0_ := hL_
    refine ⟨(fun _ => none), kcast (h0 t0_a t1_b t5_i w_ hJ0_) ?_, ?_⟩
    · kernel_rfl
    · exact (obl_seq rfl (obl_seq rfl (obl_reg (obl_cond (obl_skip (obl_exit (obl_seq rfl (obl_blk rfl (obl_seq rfl (obl_seq rfl (obl_quiet (by kernel_rfl) (by kernel_rfl) (by kernel_rfl) (by kernel_rfl) (obl_cond (obl_seq rfl (obl_reg (obl_ret (obl_skip (obl_seq rfl (obl_quiet (by kernel_rfl) (by kernel_rfl) (by kernel_rfl) (by kernel_rfl) (obl_cond (obl_seq rfl (obl_reg (obl_ret (obl_skip (obl_reg trivial)))))))))))))))))))))))))) (obl_seq rfl (obl_reg (obl_ret trivial)))))))))))))))))))))))))

def surdref01_Lend_cut (J0 : Slc → Slc → Int → Int → World → Prop) (m0 : Slc → Slc → Int → Int → World → Nat) (J2 : Slc → Slc → Slc → Int → Int → World → Prop) (m2 : Slc → Slc → Slc → Int → Int → World → Nat) : Nat → Option ((Act → World → Prop) × (Act → World → Nat))
  | 0 => some (fun a_ w_ => atSz a_ 40 (atS a_ 0 fun t0_a => atS a_ 4 fun t4_whole => atI .i64 a_ 13 fun t13 => atI .i64 a_ 14 fun t14 => J0 t0_a t4_whole t13 t14 w_), fun a_ w_ => mS a_ 0 fun t0_a => mS a_ 4 fun t4_whole => mI a_ 13 fun t13 => mI a_ 14 fun t14 => m0 t0_a t4_whole t13 t14 w_)
  | 2 => some (fun a_ w_ => atSz a_ 40 (atS a_ 0 fun t0_a => atS a_ 4 fun t4_whole => atS a_ 21 fun t21 => atI .i64 a_ 22 fun t22 => atI .i64 a_ 23 fun t23 => J2 t0_a t4_whole t21 t22 t23 w_), fun a_ w_ => mS a_ 0 fun t0_a => mS a_ 4 fun t4_whole => mS a_ 21 fun t21 => mI a_ 22 fun t22 => mI a_ 23 fun t23 => m2 t0_a t4_whole t21 t22 t23 w_)
  | _ => none

set_option maxRecDepth 100000 in
/-- surd/surdref01.Lend: function 17. -/
theorem surdref01_Lend_vc (a0_a : Slc) (w : World) (R : Ending → World → Prop)
    (J0 : Slc → Slc → Int → Int → World → Prop) (m0 : Slc → Slc → Int → Int → World → Nat) (J2 : Slc → Slc → Slc → Int → Int → World → Prop) (m2 : Slc → Slc → Slc → Int → Int → World → Nat)
    (h : semS Try.prog (Instr.makeSlice 25 (Value.int .i64 (IntKind.i64.wrap ((a0_a.n : Int) + 4))) (Value.int .i64 (IntKind.i64.wrap ((a0_a.n : Int) + 4)))) w fun s1 w1 =>
    J0 a0_a s1 (s1.n : Int) 0 w1)
    (h0 : ∀ (t0_a : Slc) (t4_whole : Slc) (t13 : Int) (t14 : Int) (w_ : World), J0 t0_a t4_whole t13 t14 w_ → 
    br (decide (t14 < t13))
    (semA Try.prog (Instr.indexAt 25 t4_whole.v (Value.int .i64 t14)) w_ fun ad1 w2 =>
     stC ad1 (Value.int .u64 10855845) w2 fun w3 =>
     J0 t0_a t4_whole t13 (IntKind.i64.wrap (t14 + 1)) w3 ∧
     m0 t0_a t4_whole t13 (IntKind.i64.wrap (t14 + 1)) w3 < m0 t0_a t4_whole t13 t14 w_)
    (J2 t0_a t4_whole t0_a (t0_a.n : Int) 0 w_))
    (h2 : ∀ (t0_a : Slc) (t4_whole : Slc) (t21 : Slc) (t22 : Int) (t23 : Int) (w_ : World), J2 t0_a t4_whole t21 t22 t23 w_ → 
    br (decide (t23 < t22))
    (semA Try.prog (Instr.indexAt 25 t21.v (Value.int .i64 t23)) w_ fun ad2 w4 =>
     ldI .u64 ad2 w4 fun x1 =>
     semA Try.prog (Instr.indexAt 25 t4_whole.v (Value.int .i64 (IntKind.i64.wrap (t23 + 2)))) w4 fun ad3 w5 =>
     stC ad3 (Value.int .u64 x1) w5 fun w6 =>
     J2 t0_a t4_whole t21 t22 (IntKind.i64.wrap (t23 + 1)) w6 ∧
     m2 t0_a t4_whole t21 t22 (IntKind.i64.wrap (t23 + 1)) w6 < m2 t0_a t4_whole t21 t22 t23 w_)
    (fixS Try.prog (Instr.sliceAt 25 t4_whole.v (some (Value.int .i64 2)) (some (Value.int .i64 (IntKind.i64.wrap ((t0_a.n : Int) + 2)))) none) w_ fun s2 =>
     ∀ w7, Ahead w_ w7 →
     (R (.returned (Value.tuple #[t4_whole.v, s2.v])) w7))) :
    Calls Try.prog 17 #[a0_a.v] w R := by
  refine calls_of_vc (surdref01_Lend_cut J0 m0 J2 m2) (by kernel_rfl) Try.func17 rfl ?_ ?_
  · refine kcast h ?_; kernel_rfl
  · exact (obl_seq rfl (obl_reg (obl_seq rfl (obl_reg (obl_seq rfl (obl_seq rfl (obl_reg (obl_loop _ rfl (fun a_ w_ hL_ => (by
    obtain ⟨hz_, hd_, hL_⟩ := atSz_out hL_
    obtain ⟨t0_a, h0_, hL_⟩ := atS_out hL_
    obtain ⟨t4_whole, h4_, hL_⟩ := atS_out hL_
    obtain ⟨t13, h13_, hL_⟩ := atI_out hL_
    obtain ⟨t14, h14_, hL_⟩ := atI_out hL_
    obtain ⟨g0, rfl⟩ : ∃ g, a_ = Fr 40 [(0, t0_a.v), (4, t4_whole.v), (13, Value.int .i64 t13), (14, Value.int .i64 t14)] g := ⟨_, fr_of hz_ hd_ [(0, t0_a.v), (4, t4_whole.v), (13, Value.int .i64 t13), (14, Value.int .i64 t14)] (sel_cons h0_ (sel_cons h4_ (sel_cons h13_ (sel_cons h14_ sel_nil))))⟩
    clear hz_ hd_ h0_ h4_ h13_ h14_
    have hJ0_ := hL_
    refine ⟨(fun _ => none), kcast (h0 t0_a t4_whole t13 t14 w_ hJ0_) ?_, ?_⟩
    · kernel_rfl
    · exact (obl_seq rfl (obl_reg (obl_seq rfl (obl_cond (obl_skip (obl_exit (obl_seq rfl (obl_blk rfl (obl_seq rfl (obl_reg (obl_reg (obl_reg trivial)))))))))))))) (obl_seq rfl (obl_seq rfl (obl_reg (obl_loop _ rfl (fun a_ w_ hL_ => (by
    obtain ⟨hz_, hd_, hL_⟩ := atSz_out hL_
    obtain ⟨t0_a, h0_, hL_⟩ := atS_out hL_
    obtain ⟨t4_whole, h4_, hL_⟩ := atS_out hL_
    obtain ⟨t21, h21_, hL_⟩ := atS_out hL_
    obtain ⟨t22, h22_, hL_⟩ := atI_out hL_
    obtain ⟨t23, h23_, hL_⟩ := atI_out hL_
    obtain ⟨g2, rfl⟩ : ∃ g, a_ = Fr 40 [(0, t0_a.v), (4, t4_whole.v), (21, t21.v), (22, Value.int .i64 t22), (23, Value.int .i64 t23)] g := ⟨_, fr_of hz_ hd_ [(0, t0_a.v), (4, t4_whole.v), (21, t21.v), (22, Value.int .i64 t22), (23, Value.int .i64 t23)] (sel_cons h0_ (sel_cons h4_ (sel_cons h21_ (sel_cons h22_ (sel_cons h23_ sel_nil)))))⟩
    clear hz_ hd_ h0_ h4_ h21_ h22_ h23_
    have hJ2_ := hL_
    refine ⟨(fun _ => none), kcast (h2 t0_a t4_whole t21 t22 t23 w_ hJ2_) ?_, ?_⟩
    · kernel_rfl
    · exact (obl_seq rfl (obl_reg (obl_seq rfl (obl_cond (obl_skip (obl_exit (obl_seq rfl (obl_blk rfl (obl_seq rfl (obl_reg (obl_reg (obl_reg trivial)))))))))))))) (obl_seq rfl (obl_quiet (by kernel_rfl) (by kernel_rfl) (by kernel_rfl) (by kernel_rfl) (obl_ret trivial)))))))))))))))

def surdref01_Kept_cut (J0 : Slc → Slc → Int → Int → World → Prop) (m0 : Slc → Slc → Int → Int → World → Nat) : Nat → Option ((Act → World → Prop) × (Act → World → Nat))
  | 0 => some (fun a_ w_ => atSz a_ 39 (atS a_ 1 fun t1_a => atS a_ 13 fun t13 => atI .i64 a_ 14 fun t14 => atI .i64 a_ 15 fun t15 => J0 t1_a t13 t14 t15 w_), fun a_ w_ => mS a_ 1 fun t1_a => mS a_ 13 fun t13 => mI a_ 14 fun t14 => mI a_ 15 fun t15 => m0 t1_a t13 t14 t15 w_)
  | _ => none

set_option maxRecDepth 100000 in
/-- surd/surdref01.Kept: function 27. -/
theorem surdref01_Kept_vc (a0_whole : Slc) (a1_a : Slc) (w : World) (R : Ending → World → Prop)
    (J0 : Slc → Slc → Int → Int → World → Prop) (m0 : Slc → Slc → Int → Int → World → Nat)
    (h : br ((a0_whole.n : Int) != (IntKind.i64.wrap ((a1_a.n : Int) + 4)))
    (R (.returned (Value.bool false)) w)
    (J0 a1_a a0_whole (a0_whole.n : Int) 0 w))
    (h0 : ∀ (t1_a : Slc) (t13 : Slc) (t14 : Int) (t15 : Int) (w_ : World), J0 t1_a t13 t14 t15 w_ → 
    br (decide (t15 < t14))
    (semA Try.prog (Instr.indexAt 25 t13.v (Value.int .i64 t15)) w_ fun ad1 w1 =>
     ldI .u64 ad1 w1 fun x1 =>
     br (decide (t15 < 2))
     (br (x1 != 10855845)
      (R (.returned (Value.bool false)) w1)
      (J0 t1_a t13 t14 (IntKind.i64.wrap (t15 + 1)) w1 ∧
       m0 t1_a t13 t14 (IntKind.i64.wrap (t15 + 1)) w1 < m0 t1_a t13 t14 t15 w_))
     (br (decide (t15 ≥ (IntKind.i64.wrap ((t1_a.n : Int) + 2))))
      (br (x1 != 10855845)
       (R (.returned (Value.bool false)) w1)
       (J0 t1_a t13 t14 (IntKind.i64.wrap (t15 + 1)) w1 ∧
        m0 t1_a t13 t14 (IntKind.i64.wrap (t15 + 1)) w1 < m0 t1_a t13 t14 t15 w_))
      (semA Try.prog (Instr.indexAt 25 t1_a.v (Value.int .i64 (IntKind.i64.wrap (t15 - 2)))) w1 fun ad2 w2 =>
       ldI .u64 ad2 w2 fun x2 =>
       br (x1 != x2)
       (R (.returned (Value.bool false)) w2)
       (J0 t1_a t13 t14 (IntKind.i64.wrap (t15 + 1)) w2 ∧
        m0 t1_a t13 t14 (IntKind.i64.wrap (t15 + 1)) w2 < m0 t1_a t13 t14 t15 w_))))
    (R (.returned (Value.bool true)) w_)) :
    Calls Try.prog 27 #[a0_whole.v, a1_a.v] w R := by
  refine calls_of_vc (surdref01_Kept_cut J0 m0) (by kernel_rfl) Try.func27 rfl ?_ ?_
  · refine kcast h ?_; kernel_rfl
  · exact (obl_seq rfl (obl_reg (obl_seq rfl (obl_seq rfl (obl_reg (obl_cond (obl_seq rfl (obl_reg (obl_ret (obl_skip (obl_seq rfl (obl_seq rfl (obl_reg (obl_loop _ rfl (fun a_ w_ hL_ => (by
    obtain ⟨hz_, hd_, hL_⟩ := atSz_out hL_
    obtain ⟨t1_a, h1_, hL_⟩ := atS_out hL_
    obtain ⟨t13, h13_, hL_⟩ := atS_out hL_
    obtain ⟨t14, h14_, hL_⟩ := atI_out hL_
    obtain ⟨t15, h15_, hL_⟩ := atI_out hL_
    obtain ⟨g0, rfl⟩ : ∃ g, a_ = Fr 39 [(1, t1_a.v), (13, t13.v), (14, Value.int .i64 t14), (15, Value.int .i64 t15)] g := ⟨_, fr_of hz_ hd_ [(1, t1_a.v), (13, t13.v), (14, Value.int .i64 t14), (15, Value.int .i64 t15)] (sel_cons h1_ (sel_cons h13_ (sel_cons h14_ (sel_cons h15_ sel_nil))))⟩
    clear hz_ hd_ h1_ h13_ h14_ h15_
    have hJ0_ := hL_
    refine ⟨(fun _ => none), kcast (h0 t1_a t13 t14 t15 w_ hJ0_) ?_, ?_⟩
    · kernel_rfl
    · exact (obl_seq rfl (obl_reg (obl_seq rfl (obl_cond (obl_skip (obl_exit (obl_seq rfl (obl_blk rfl (obl_seq rfl (obl_reg (obl_seq rfl (obl_reg (obl_cond (obl_seq rfl (obl_reg (obl_cond (obl_seq rfl (obl_reg (obl_ret (obl_skip (obl_seq rfl (obl_reg (obl_cond (obl_seq rfl (obl_reg (obl_ret (obl_skip (obl_reg trivial)))))))))))))))))))))))))))))) (obl_seq rfl (obl_reg (obl_ret trivial)))))))))))))))))

end Go.Proofs.Ytflipimlpgbnmaa
namespace Go.Proofs.Ytflipimlpgbnmaa
open Go Go.RowKit Eng Sp Dg
set_option linter.unusedVariables false
set_option linter.unusedSimpArgs false
set_option maxRecDepth 100000
namespace Sp
section
variable {P : Program} {t e : TypeId} {k : IntKind}
/-- append of what reads as ys, onto a row of the call's own that has room for it. -/
theorem appRoom (hT : isSl P t k = some e) {w : World} {s x : Slc} {l ys : List Int} {ty : TypeId} {b : Nat} (hx : Rd k w x ys) (hy : 0 < ys.length)
    (hs : Owr k e w s l b) (hroom : l.length + ys.length ≤ s.c) {K : Slc → World → Prop}
    (hk : ∀ s' w', s'.c = s.c → Owr k e w' s' (l ++ ys) b → (∀ w0, Ahead w0 w → w0.heap.size ≤ b → Ahead w0 w') → K s' w') :
    semS P (Builtin.append_ #[t, t] ty #[s.v, x.v]) w fun s' w' => K s' w' := by
  obtain ⟨hu, he, inf, hi, hs1, hb8, hz⟩ := isSl_out hT
  obtain ⟨ad, hA, _⟩ := hx.get 0 hy
  obtain ⟨sp, hc, hh⟩ := hs.mem
  have hr := run_append_room (P := P) w t ty e inf hu hi b l.length s.c (ints k l ++ sp).toArray hh ad ys.length x.c (ints k ys) (by simp [ints, hs1])
    (fun j u hj => by
      have hj' : j < ys.length := by
        have := (List.getElem?_eq_some_iff.1 hj).1
        simpa [ints] using this
      obtain ⟨ad', e', hcc⟩ := hx.get j hj'
      rw [hA] at e'
      obtain rfl := Option.some.inj e'
      rw [ints_get hj'] at hj
      obtain rfl := Option.some.inj hj
      exact hcc) (by simp [ints, Value.oneCell']) hroom (by simp [ints, hs1]; omega)
  have hxv : x.v = .slice (some ad) ys.length x.c := by rw [Slc.v, hA, hx.n]
  have hsv : s.v = .slice (some ⟨b, 0, none⟩) l.length s.c := by rw [Slc.v, hs.A, hs.n]
  unfold semS
  rw [Sem.wp_iff_run, hxv, hsv, hr]
  refine ⟨⟨some ⟨b, 0, none⟩, l.length + ys.length, s.c⟩, rfl, hk _ _ rfl ⟨by simp, sp.drop ys.length, by simp; omega, ?_⟩ fun w0 ha hb => Below.trans ha ⟨rfl, rfl, rfl, by simp [World.setRow], fun k hk => setRow_other w b k _ (by omega)⟩⟩
  rw [setRow_heap w b _ _ e (0, 0) hh]
  simp [hs1, ints]
  rw [List.drop_append]
  simp
end
end Sp
namespace Ref
open _root_.Go.Proofs.Ytflipimlpgbnmaa.Nat (ldN ldNf stN mkN cutHi cutCap Fill stF Num)

/-- The slice reads as the number's digits of 32 bits. -/
def RN (w : World) (s : Slc) (n : Nat) : Prop := Rd .u64 w s (nn (digs B32 n))
theorem RN.ahead {w w' : World} {s : Slc} {n : Nat} (h : RN w s n) (ha : Ahead w w') : RN w' s n := Rd.ahead h ha
theorem RN.n {w : World} {s : Slc} {n : Nat} (h : RN w s n) : s.n = (digs B32 n).length := by rw [Rd.n h, nn_length]
theorem RN.nil {w : World} {A : Option Addr} {c : Nat} : RN w ⟨A, 0, c⟩ 0 := by unfold RN; rw [digs_zero]; exact Rd.nil

theorem norm_specA {w : World} {s : Slc} {l : List Nat} (h : Rd .u64 w s (nn l)) (hl : l.length ≤ 2 ^ 46) (hok : ok B32 l) :
    Calls pr surdref01_norm_id #[s.v] w fun e w' => w' = w ∧ ∃ s', e = .returned (Slc.v s') ∧ RN w s' (val B32 l) ∧ s'.A = s.A := by
  have hn : s.n = l.length := by rw [h.n, nn_length]
  have hc := h.c
  refine surdref01_norm_vc s w _ (fun t n w' => w' = w ∧ t = s ∧ ∃ m : Nat, n = (m : Int) ∧ m ≤ l.length ∧ ∀ i, m ≤ i → i < l.length → l.getD i 0 = 0) (fun _ n _ => n.toNat)
    ⟨rfl, rfl, s.n, rfl, by omega, fun i h1 h2 => by omega⟩ ?_
  rintro t n w' ⟨rfl, rfl, m, rfl, hm, hz⟩
  have fin : (m = 0 ∨ l.getD (m - 1) 0 ≠ 0) → semS pr (Instr.sliceAt 29 t.v none (some (Value.int .i64 (m : Int))) (some (Value.int .i64 (m : Int)))) w' fun s2 w3 =>
      w3 = w' ∧ ∃ s', Ending.returned s2.v = .returned (Slc.v s') ∧ RN w' s' (val B32 l) ∧ s'.A = t.A := by
    intro hlast
    refine cutCap (by omega) (by omega) ?_
    refine ⟨rfl, _, rfl, ?_, rfl⟩
    unfold RN
    rw [digs_take two32 hok hm hz hlast, ← nn_take]
    simp only [Int.toNat_natCast]
    exact h.take (by simpa using hm) (Nat.le_refl _)
  refine br_intro (fun hp => ?_) (fun hp => ?_)
  · have hp' : 0 < m := by simp at hp; omega
    rw [wrap_i64 (x := (m : Int) - 1) (by omega) (by omega)]
    refine ldN h (by omega) (by omega) ?_
    have e2 : ((m : Int) - 1).toNat = m - 1 := by omega
    rw [e2]
    refine br_intro (fun hx => ?_) (fun hx => ?_)
    · refine ⟨⟨rfl, rfl, m - 1, by omega, by omega, fun i h1 h2 => ?_⟩, by omega⟩
      by_cases hi : i = m - 1
      · subst hi; simpa using hx
      · exact hz i (by omega) h2
    · exact fin (.inr (by simpa using hx))
  · exact fin (.inl (by simp at hp; omega))

/-- A base 2^32: the limbs' list as digits. -/
def split32 : List Nat → List Nat
  | [] => []
  | x :: l => x % B32 :: x / B32 :: split32 l
theorem split32_append (l m : List Nat) : split32 (l ++ m) = split32 l ++ split32 m := by
  induction l with
  | nil => rfl
  | cons x l ih => simp [split32, ih]
theorem split32_length (l : List Nat) : (split32 l).length = 2 * l.length := by
  induction l with
  | nil => rfl
  | cons x l ih => simp [split32, ih]; omega
theorem split32_ok {l : List Nat} (h : ok B64 l) : ok B32 (split32 l) := by
  have hB := B64v
  induction l with
  | nil => exact ok_nil
  | cons x l ih =>
    obtain ⟨h1, h2⟩ := ok_cons.1 h
    exact ok_cons.2 ⟨by simp only [B32v]; omega, ok_cons.2 ⟨by simp only [B32v]; omega, ih h2⟩⟩
theorem split32_val (l : List Nat) : val B32 (split32 l) = val B64 l := by
  have h64 : B64 = B32 * B32 := by decide
  induction l with
  | nil => rfl
  | cons x l ih =>
    show x % B32 + B32 * (x / B32 + B32 * val B32 (split32 l)) = x + B64 * val B64 l
    rw [ih, Nat.mul_add, ← Nat.mul_assoc, ← h64, ← Nat.add_assoc, Nat.mod_add_div]

theorem Of_specT {w : World} {s : Slc} {l : List Nat} (h : Rd .u64 w s (nn l)) (hl : l.length * 8 ≤ 140737488351232) (hok : ok B64 l) :
    Calls pr surdref01_Of_id #[s.v] w fun e w' => Ahead w w' ∧ ∃ s', e = .returned (Slc.v s') ∧ RN w' s' (val B64 l) ∧ ∀ ad, s'.A = some ad → w.heap.size ≤ ad.block ∧ ∃ cs m, w'.heap[ad.block]? = some (.cells cs tU64 m) := by
  have hB := B64v
  have hB32 := B32v
  have hn : s.n = l.length := by rw [h.n, nn_length]
  refine surdref01_Of_vc s w _ (fun out t10 n i w' => t10 = s ∧ n = (l.length : Int) ∧ Ahead w w' ∧ ∃ (j b : Nat), i = (j : Int) ∧ j ≤ l.length ∧ w.heap.size ≤ b ∧ out.c = 2 * l.length ∧
    Owr .u64 tU64 w' out (nn (split32 (l.take j))) b) (fun _ _ n i _ => (n - i).toNat) ?_ ?_
  · rw [hn, wrap_i64 (by omega) (by omega)]
    refine mk (e := tU64) (k := .u64) (by kernel_rfl) (Int.le_refl 0) (by omega) (by omega) ?_
    intro s' w' hc ho ha hs
    exact ⟨rfl, rfl, ha, 0, w.heap.size, rfl, Nat.zero_le _, Nat.le_refl _, by rw [hc]; omega, ho⟩
  · rintro out t10 n i w1 ⟨rfl, rfl, ha, j, b, rfl, hj, hb, hoc, ho⟩
    refine br_intro (fun hlt => ?_) (fun hge => ?_)
    · have hj' : j < l.length := by simpa using hlt
      refine ldN (h.ahead ha) (by omega) (by omega) ?_
      have hx := ok_getD hok (by omega : 0 < B64) j
      simp only [Int.toNat_natCast]
      generalize hxe : l.getD j 0 = x at *
      have e1 : Int.tmod (x : Int) 4294967296 = ((x % B32 : Nat) : Int) := by rw [B32v, Int.tmod_eq_emod_of_nonneg (by omega)]; omega
      have e2 : IntKind.u64.wrap (Int.tdiv (x : Int) 4294967296) = ((x / B32 : Nat) : Int) := by
        have : Int.tdiv (x : Int) 4294967296 = ((x / 4294967296 : Nat) : Int) := by rw [Int.tdiv_eq_ediv_of_nonneg (by omega)]; omega
        rw [B32v, this, wrap_u64' (by omega) (by omega)]
      rw [e1, e2]
      have hal := Ahead.alloc w1 (.cells #[Value.int .u64 ((x % B32 : Nat) : Int), Value.int .u64 ((x / B32 : Nat) : Int)] tU64 (0, 0))
      have hlit : Rd .u64 (w1.alloc (.cells #[Value.int .u64 ((x % B32 : Nat) : Int), Value.int .u64 ((x / B32 : Nat) : Int)] tU64 (0, 0))) ⟨some ⟨w1.heap.size, 0, none⟩, 2, 2⟩ (nn [x % B32, x / B32]) :=
        Owr.rd (t := tU64) (b := w1.heap.size) ⟨rfl, [], rfl, by rw [get_alloc]; rfl⟩
      refine appRoom (t := _) (e := tU64) (k := .u64) (by kernel_rfl) hlit (by simp) (ho.ahead hal) (by rw [hoc, nn_length, split32_length, nn_length]; simp; omega) ?_
      intro s' w4 hc' ho' hah
      have e8 : IntKind.i64.wrap ((j : Int) + 1) = ((j + 1 : Nat) : Int) := by rw [wrap_i64 (by omega) (by omega)]; omega
      refine ⟨⟨by trivial, by trivial, hah w (ha.trans hal) hb, j + 1, b, e8, hj', hb, by rw [hc', hoc], ?_⟩, by rw [e8]; omega⟩
      rw [List.take_succ_eq_append_getElem hj', split32_append, nn_append]
      have : l[j] = x := by rw [← hxe]; exact (getD_lt l 0 hj').symm
      rw [this]
      exact ho'
    · have hj' : j = l.length := by simp at hge; omega
      subst hj'
      rw [List.take_length] at ho
      refine Calls.mono (norm_specA ho.rd (by rw [split32_length]; omega) (split32_ok hok)) ?_
      rintro e w5 ⟨rfl, s', rfl, hr, hA⟩
      rw [split32_val] at hr
      refine ⟨_, rfl, ha, _, rfl, hr, fun ad e => ?_⟩
      rw [hA, ho.A] at e
      have := Option.some.inj e
      subst this
      obtain ⟨sp, _, hh⟩ := ho.mem
      exact ⟨hb, _, _, hh⟩
theorem Of_specN {w : World} {s : Slc} {l : List Nat} (h : Rd .u64 w s (nn l)) (hl : l.length * 8 ≤ 140737488351232) (hok : ok B64 l) :
    Calls pr surdref01_Of_id #[s.v] w fun e w' => Ahead w w' ∧ ∃ s', e = .returned (Slc.v s') ∧ RN w' s' (val B64 l) ∧ ∀ ad, s'.A = some ad → w.heap.size ≤ ad.block :=
  Calls.mono (Of_specT h hl hok) fun e w' ⟨h1, s', h2, h3, h4⟩ => ⟨h1, s', h2, h3, fun ad e => (h4 ad e).1⟩
theorem Of_spec {w : World} {s : Slc} {l : List Nat} (h : Rd .u64 w s (nn l)) (hl : l.length * 8 ≤ 140737488351232) (hok : ok B64 l) :
    Calls pr surdref01_Of_id #[s.v] w fun e w' => Ahead w w' ∧ ∃ s', e = .returned (Slc.v s') ∧ RN w' s' (val B64 l) :=
  Calls.mono (Of_specN h hl hok) fun e w' ⟨h1, s', h2, h3, _⟩ => ⟨h1, s', h2, h3⟩

end Ref
end Go.Proofs.Ytflipimlpgbnmaa
namespace Go.Proofs.Ytflipimlpgbnmaa
open Go Go.RowKit Eng Sp Dg
set_option linter.unusedVariables false
set_option linter.unusedSimpArgs false
set_option maxRecDepth 100000
namespace Ref
open _root_.Go.Proofs.Ytflipimlpgbnmaa.Nat (ldN ldNf stN mkN cutHi cutCap Fill stF Num OwnNil)

theorem Cmp_spec {w : World} {p q : Slc} {x y : Nat} (hp : RN w p x) (hq : RN w q y) (la : (digs B32 x).length ≤ 2 ^ 46) (lb : (digs B32 y).length ≤ 2 ^ 46) :
    Calls pr surdref01_Cmp_id #[p.v, q.v] w fun e w' => Ahead w w' ∧ e = .returned (.int .i64 (cmpI x y)) := by
  have hna := hp.n
  have hnb := hq.n
  refine surdref01_Cmp_vc p q w _ (fun s t i w' => Ahead w w' ∧ s = p ∧ t = q ∧ (digs B32 x).length = (digs B32 y).length ∧ ∃ m : Nat, i = (m : Int) - 1 ∧ m ≤ (digs B32 x).length ∧ (digs B32 x).drop m = (digs B32 y).drop m) (fun _ _ i _ => (i + 1).toNat) ?_ ?_
  · refine br_intro (fun hne => ?_) (fun heq => ?_)
    · refine br_intro (fun hlt => ?_) (fun hlt => ?_)
      · refine ⟨Ahead.refl _, ?_⟩
        have := digs_len_lt two32 (m := x) (n := y) (by simp at hlt; omega)
        rw [cmpI, if_pos this]
      · refine ⟨Ahead.refl _, ?_⟩
        have := digs_len_lt two32 (m := y) (n := x) (by simp at hlt hne; omega)
        rw [cmpI, if_neg (by omega), if_pos this]
    · have heq' : p.n = q.n := by simp at heq; omega
      refine ⟨Ahead.refl _, rfl, rfl, by omega, p.n, wrap_i64 (by omega) (by omega), by omega, ?_⟩
      rw [List.drop_eq_nil_of_le (by omega), List.drop_eq_nil_of_le (by omega)]
  · rintro s t i w' ⟨ha, rfl, rfl, hl, m, rfl, hm, hdr⟩
    have hs := hp.ahead ha
    have ht := hq.ahead ha
    refine br_intro (fun h0 => ?_) (fun h0 => ?_)
    · have hm1 : 1 ≤ m := by simp at h0; omega
      have e2 : ((m : Int) - 1).toNat = m - 1 := by omega
      refine ldNf hs (by omega) (by omega) ?_
      refine ldNf ht (by omega) (by omega) ?_
      intro w3 ha3
      rw [e2]
      have hdr' : (digs B32 x).drop (m - 1 + 1) = (digs B32 y).drop (m - 1 + 1) := by rw [Nat.sub_add_cancel hm1]; exact hdr
      refine br_intro (fun hlt => ?_) (fun hlt => ?_)
      · refine ⟨ha.trans ha3, ?_⟩
        have := val_lt_top (ok_digs two32 x) (by omega) (by omega) hdr' (by simpa using hlt)
        rw [val_digs two32, val_digs two32] at this
        rw [cmpI, if_pos this]
      · refine ldNf (hs.ahead ha3) (by omega) (by omega) ?_
        refine ldNf (ht.ahead ha3) (by omega) (by omega) ?_
        intro w4 ha4
        rw [e2]
        refine br_intro (fun hgt => ?_) (fun hgt => ?_)
        · refine ⟨(ha.trans ha3).trans ha4, ?_⟩
          have := val_lt_top (ok_digs two32 y) (by omega) (by omega) hdr'.symm (by simpa using hgt)
          rw [val_digs two32, val_digs two32] at this
          rw [cmpI, if_neg (by omega), if_pos this]
        · have e3 : IntKind.i64.wrap ((m : Int) - 1 - 1) = ((m - 1 : Nat) : Int) - 1 := by rw [wrap_i64 (by omega) (by omega)]; omega
          refine ⟨⟨(ha.trans ha3).trans ha4, rfl, rfl, hl, m - 1, e3, by omega, ?_⟩, by rw [e3]; omega⟩
          have heq : (digs B32 x).getD (m - 1) 0 = (digs B32 y).getD (m - 1) 0 := by
            simp only [decide_eq_false_iff_not] at hlt hgt; omega
          have l1 : m - 1 < (digs B32 x).length := by omega
          have l2 : m - 1 < (digs B32 y).length := by omega
          rw [List.drop_eq_getElem_cons l1, List.drop_eq_getElem_cons l2, hdr', ← getD_lt _ 0 l1, ← getD_lt _ 0 l2, heq]
    · have hm0 : m = 0 := by simp at h0; omega
      subst hm0
      refine ⟨ha, ?_⟩
      have := digs_inj two32 (m := x) (n := y) (by simpa using hdr)
      rw [this, cmpI, if_neg (by omega), if_neg (by omega)]

theorem b64_sq (j : Nat) : B64 ^ j = B32 ^ (2 * j) := by rw [show B64 = B32 ^ 2 by decide, ← Nat.pow_mul]

theorem Int_spec {w : World} {v : Nat} (hv : v < 9223372036854775808) :
    Calls pr surdref01_Int_id #[.int .i64 (v : Int)] w fun e w' => Ahead w w' ∧ ∃ s', e = .returned (Slc.v s') ∧ RN w' s' v := by
  have hB := B64v
  refine surdref01_Int_vc _ w _ ?_
  rw [wrap_u64' (by omega) (by omega)]
  have hal := Ahead.alloc w (.cells #[Value.int .u64 (v : Int)] tU64 (0, 0))
  have hlit : Rd .u64 (w.alloc (.cells #[Value.int .u64 (v : Int)] tU64 (0, 0))) ⟨some ⟨w.heap.size, 0, none⟩, 1, 1⟩ (nn [v]) := Owr.rd (t := tU64) (b := w.heap.size) ⟨rfl, [], rfl, by rw [get_alloc]; rfl⟩
  refine Calls.mono (Of_spec hlit (by simp) (by intro y hy; simp at hy; omega)) ?_
  rintro e w2 ⟨ha, s', rfl, hr⟩
  exact ⟨_, rfl, hal.trans ha, _, rfl, by simpa [val] using hr⟩

end Ref
end Go.Proofs.Ytflipimlpgbnmaa
namespace Go.Proofs.Ytflipimlpgbnmaa
open Go Go.RowKit Eng Sp Dg
set_option linter.unusedVariables false
set_option linter.unusedSimpArgs false
set_option maxRecDepth 100000
namespace Ref
open _root_.Go.Proofs.Ytflipimlpgbnmaa.Nat (ldN ldNf stN mkN cutHi cutCap Fill stF Num OwnNil)

def A5 : Nat := 10855845
theorem ext_getD {l m : List Nat} (hl : l.length = m.length) (h : ∀ i, i < l.length → l.getD i 0 = m.getD i 0) : l = m := by
  refine List.ext_getElem hl fun i h1 h2 => ?_
  have := h i h1
  rw [getD_lt _ _ h1, getD_lt _ _ h2] at this
  exact this
def lent (l : List Nat) : List Nat := A5 :: A5 :: (l ++ [A5, A5])
theorem lent_length (l : List Nat) : (lent l).length = l.length + 4 := by simp [lent]
theorem lent_getD (l : List Nat) {i : Nat} (h : i < l.length + 4) : (lent l).getD i 0 = if 2 ≤ i ∧ i < l.length + 2 then l.getD (i - 2) 0 else A5 := by
  unfold lent
  rcases i with _ | _ | i
  · simp
  · simp
  · rw [List.getD_cons_succ, List.getD_cons_succ]
    by_cases hi : i < l.length
    · rw [if_pos (by omega)]
      simp [List.getD_eq_getElem?_getD, List.getElem?_append, hi]
    · rw [if_neg (by omega)]
      have : i = l.length ∨ i = l.length + 1 := by omega
      rcases this with rfl | rfl <;> simp [List.getD_eq_getElem?_getD, List.getElem?_append]

/-- What Lend hands out: the whole row, and the part in its middle. -/
def Lent (base : Nat) (w : World) (s t : Slc) (l : List Nat) : Prop :=
  ∃ b, base ≤ b ∧ s.c = l.length + 4 ∧ Owr .u64 tU64 w s (nn (lent l)) b ∧ t = ⟨some ⟨b, 2, none⟩, l.length, l.length + 2⟩
theorem Lent.whole {base : Nat} {w : World} {s t : Slc} {l : List Nat} (h : Lent base w s t l) : Rd .u64 w s (nn (lent l)) := by
  obtain ⟨b, _, _, ho, _⟩ := h; exact ho.rd
theorem Lent.part {base : Nat} {w : World} {s t : Slc} {l : List Nat} (h : Lent base w s t l) : Rd .u64 w t (nn l) := by
  obtain ⟨b, _, hc, ho, rfl⟩ := h
  refine ⟨by simp, by simp, fun i hi => ⟨_, rfl, ?_⟩⟩
  have hi' : i < l.length := by simpa using hi
  have e : (⟨b, 2, none⟩ : Addr).add i = ⟨b, 2 + i, none⟩ := by
    rw [show (⟨b, 2, none⟩ : Addr) = (⟨b, 0, none⟩ : Addr).add 2 from rfl, add_add, add_off]
  rw [e, ho.cell (i := 2 + i) (by rw [nn_length, lent_length]; omega), nn_getD, nn_getD, lent_getD l (by omega), if_pos (by omega), show 2 + i - 2 = i by omega]
theorem Lent.ahead {base : Nat} {w w' : World} {s t : Slc} {l : List Nat} (h : Lent base w s t l) (ha : Ahead w w') : Lent base w' s t l := by
  obtain ⟨b, h1, h2, h3, h4⟩ := h
  exact ⟨b, h1, h2, h3.ahead ha, h4⟩

theorem Lend_spec {w : World} {s : Slc} {l : List Nat} (h : Rd .u64 w s (nn l)) (hl : l.length * 8 ≤ 140737488351232) (hok : ok B64 l) :
    Calls pr surdref01_Lend_id #[s.v] w fun e w' => Ahead w w' ∧ ∃ s' t, e = .returned (.tuple #[Slc.v s', Slc.v t]) ∧ Lent w.heap.size w' s' t l := by
  have hn : s.n = l.length := by rw [h.n, nn_length]
  refine surdref01_Lend_vc s w _
    (fun p c n i w' => p = s ∧ n = ((l.length + 4 : Nat) : Int) ∧ ∃ (L : List Nat) (j : Nat), i = (j : Int) ∧ j ≤ l.length + 4 ∧ c.c = l.length + 4 ∧ Fill w w' c L (fun w' => Rd .u64 w' s (nn l)) ∧ L.length = l.length + 4 ∧ ∀ k, k < j → L.getD k 0 = A5) (fun _ _ n i _ => (n - i).toNat)
    (fun p c q n i w' => p = s ∧ q = s ∧ n = (l.length : Int) ∧ ∃ (L : List Nat) (j : Nat), i = (j : Int) ∧ j ≤ l.length ∧ c.c = l.length + 4 ∧ Fill w w' c L (fun w' => Rd .u64 w' s (nn l)) ∧ L.length = l.length + 4 ∧
      ∀ k, k < l.length + 4 → L.getD k 0 = if 2 ≤ k ∧ k < j + 2 then l.getD (k - 2) 0 else A5) (fun _ _ _ n i _ => (n - i).toNat) ?_ ?_ ?_
  · rw [hn, wrap_i64 (by omega) (by omega)]
    refine mkN (by omega) (by omega) ?_
    intro c w1 hc ho ha hs
    refine ⟨rfl, ?_, _, 0, rfl, Nat.zero_le _, by rw [hc]; omega, ⟨_, w, ho, by rw [hc]; unfold maxLen; omega, Nat.le_refl _, ha, ha, Nat.le_refl _, h⟩, by rw [List.length_replicate]; omega, fun k hk => by omega⟩
    have := ho.n
    rw [nn_length, List.length_replicate] at this
    omega
  · rintro p c n i w1 ⟨rfl, rfl, L, j, rfl, hj, hc, hf, hL, hd⟩
    refine br_intro (fun hlt => ?_) (fun hge => ?_)
    · have hj' : j < l.length + 4 := by simp at hlt; omega
      have e8 : IntKind.i64.wrap ((j : Int) + 1) = ((j + 1 : Nat) : Int) := by rw [wrap_i64 (by omega) (by omega)]; omega
      refine stF (x := A5) hf (by omega) (by omega) ?_
      intro w3 hf3
      rw [Int.toNat_natCast] at hf3
      refine ⟨⟨rfl, rfl, _, j + 1, e8, hj', hc, hf3, by simpa using hL, fun k hk => ?_⟩, by rw [e8]; omega⟩
      rw [getD_set _ _ _ _ (by omega)]
      split
      · rfl
      · exact hd k (by omega)
    · have hj' : j = l.length + 4 := by simp at hge; omega
      subst hj'
      refine ⟨rfl, rfl, by rw [hn], L, 0, rfl, Nat.zero_le _, hc, hf, hL, fun k hk => ?_⟩
      rw [if_neg (by omega)]
      exact hd k hk
  · rintro p c q n i w1 ⟨rfl, rfl, rfl, L, j, rfl, hj, hc, hf, hL, hd⟩
    refine br_intro (fun hlt => ?_) (fun hge => ?_)
    · have hj' : j < l.length := by simp at hlt; omega
      have e8 : IntKind.i64.wrap ((j : Int) + 1) = ((j + 1 : Nat) : Int) := by rw [wrap_i64 (by omega) (by omega)]; omega
      refine ldN (h.ahead hf.base) (by omega) (by omega) ?_
      rw [wrap_i64 (x := (j : Int) + 2) (by omega) (by omega), Int.toNat_natCast]
      refine stF hf (by omega) (by omega) ?_
      intro w3 hf3
      rw [show ((j : Int) + 2).toNat = j + 2 by omega] at hf3
      refine ⟨⟨rfl, rfl, rfl, _, j + 1, e8, hj', hc, hf3, by simpa using hL, fun k hk => ?_⟩, by rw [e8]; omega⟩
      rw [getD_set _ _ _ _ (by omega)]
      split
      · rename_i hk2
        subst hk2
        rw [if_pos (by omega), Nat.add_sub_cancel]
      · rw [hd k hk]
        by_cases hk2 : 2 ≤ k ∧ k < j + 2
        · rw [if_pos hk2, if_pos (by omega)]
        · rw [if_neg hk2, if_neg (by omega)]
    · have hj' : j = l.length := by simp at hge; omega
      subst hj'
      have hLl : L = lent l := ext_getD (by rw [hL, lent_length]) fun i hi => by rw [hd i (by omega), lent_getD l (by omega)]
      rw [hn, wrap_i64 (x := ((l.length : Nat) : Int) + 2) (by omega) (by omega)]
      refine ⟨_, fun w' _ => run_slice_both (e := tU64) (k := .u64) (by kernel_rfl) w' c (by omega) (by omega) (by omega), ?_⟩
      intro w7 ha7
      obtain ⟨b, w2, ho, h2, h3, h4, _⟩ := hf
      refine ⟨h4.trans ha7, _, _, rfl, b, h3, hc, by rw [← hLl]; exact ho.ahead ha7, ?_⟩
      rw [hc, ho.A, show ((2 : Int)).toNat = 2 from rfl, if_neg (by omega)]
      congr 1

theorem Kept_spec {w : World} {s t : Slc} {l : List Nat} (hs : Rd .u64 w s (nn (lent l))) (ht : Rd .u64 w t (nn l)) (hl : l.length * 8 ≤ 140737488351232) :
    Calls pr surdref01_Kept_id #[s.v, t.v] w fun e w' => w' = w ∧ e = .returned (.bool true) := by
  have hn : s.n = l.length + 4 := by rw [hs.n, nn_length, lent_length]
  have hm : t.n = l.length := by rw [ht.n, nn_length]
  refine surdref01_Kept_vc s t w _ (fun p q n i w' => w' = w ∧ p = t ∧ q = s ∧ n = ((l.length + 4 : Nat) : Int) ∧ ∃ j : Nat, i = (j : Int) ∧ j ≤ l.length + 4) (fun _ _ n i _ => (n - i).toNat) ?_ ?_
  · rw [hn, hm, wrap_i64 (x := (l.length : Int) + 4) (by omega) (by omega)]
    exact br_false (by simp) ⟨rfl, rfl, rfl, rfl, 0, rfl, Nat.zero_le _⟩
  · rintro p q n i w1 ⟨rfl, rfl, rfl, rfl, j, rfl, hj⟩
    refine br_intro (fun hlt => ?_) (fun hge => ?_)
    · have hj' : j < l.length + 4 := by simp at hlt; omega
      have e8 : IntKind.i64.wrap ((j : Int) + 1) = ((j + 1 : Nat) : Int) := by rw [wrap_i64 (by omega) (by omega)]; omega
      refine ldN hs (by omega) (by rw [lent_length]; omega) ?_
      rw [Int.toNat_natCast, lent_getD l hj', hm, wrap_i64 (x := ((l.length : Nat) : Int) + 2) (by omega) (by omega)]
      have go : (w1 = w1 ∧ p = p ∧ q = q ∧ ((l.length + 4 : Nat) : Int) = ((l.length + 4 : Nat) : Int) ∧ ∃ j' : Nat, IntKind.i64.wrap ((j : Int) + 1) = (j' : Int) ∧ j' ≤ l.length + 4) ∧
          (((l.length + 4 : Nat) : Int) - IntKind.i64.wrap ((j : Int) + 1)).toNat < (((l.length + 4 : Nat) : Int) - (j : Int)).toNat :=
        ⟨⟨rfl, rfl, rfl, rfl, j + 1, e8, hj'⟩, by rw [e8]; omega⟩
      refine br_intro (fun h2 => ?_) (fun h2 => ?_)
      · have h2' : j < 2 := by simp at h2; omega
        rw [if_neg (by omega)]
        exact br_false (by simp [A5]) go
      · have h2' : 2 ≤ j := by simp at h2; omega
        refine br_intro (fun h3 => ?_) (fun h3 => ?_)
        · have h3' : l.length + 2 ≤ j := by simp at h3; omega
          rw [if_neg (by omega)]
          exact br_false (by simp [A5]) go
        · have h3' : j < l.length + 2 := by simp at h3; omega
          rw [if_pos ⟨h2', h3'⟩, wrap_i64 (x := (j : Int) - 2) (by omega) (by omega)]
          refine ldN ht (by omega) (by omega) ?_
          rw [show ((j : Int) - 2).toNat = j - 2 by omega]
          exact br_false (by simp) go
    · exact ⟨rfl, rfl⟩

end Ref
end Go.Proofs.Ytflipimlpgbnmaa
namespace Go.Proofs.Ytflipimlpgbnmaa
open Go Go.RowKit Eng Sp Dg
set_option linter.unusedVariables false
set_option linter.unusedSimpArgs false
set_option maxRecDepth 100000
namespace Ref
open _root_.Go.Proofs.Ytflipimlpgbnmaa.Nat (ldN OwnNil)

/-- The slice's row lies in this block. -/
def Bk (s : Slc) (k : Nat) : Prop := s.A = some ⟨k, 0, none⟩
def upd {α : Type} (f : Nat → α) (i : Nat) (x : α) : Nat → α := fun j => if j = i then x else f j

/-- The state of a call of Owr: the lists lie apart, in memory from base on; their heads stand in the block ab. -/
structure St (V : Nat → Prop) (base : Nat) (w0 : World) (ab n : Nat) (T : List Value) (w : World) (S : Nat → Slc) (L : Nat → List Nat) : Prop where
  low : Below base w0 w
  hab : base ≤ ab
  hsz : base ≤ w.heap.size
  row : w.heap[ab]? = some (.cells (((List.range n).map fun j => (S j).v) ++ T).toArray tU64s (0, 0))
  own : ∀ j, j < n → OwnNil base w (S j) (L j)
  nab : ∀ j, j < n → ¬ Bk (S j) ab
  apart : ∀ i j k, i < n → j < n → i ≠ j → Bk (S i) k → ¬ Bk (S j) k
  keepV : ∀ k, k < w0.heap.size → ¬ V k → w.heap[k]? = w0.heap[k]?
  vab : V ab
  vbig : ∀ k, w0.heap.size ≤ k → V k
  vS : ∀ j k, j < n → Bk (S j) k → V k

theorem St.ablt {V : Nat → Prop} {base : Nat} {w0 : World} {ab n : Nat} {T : List Value} {w : World} {S : Nat → Slc} {L : Nat → List Nat} (h : St V base w0 ab n T w S L) : ab < w.heap.size := (Array.getElem?_eq_some_iff.1 h.row).1

theorem OwnNil.block {base : Nat} {w w' : World} {s : Slc} {l : List Nat} (h : OwnNil base w s l) (hb : ∀ k, k < w.heap.size → Bk s k → w'.heap[k]? = w.heap[k]?) : OwnNil base w' s l := by
  rcases h with h | ⟨b, h1, h2, h3⟩
  · exact .inl h
  · refine .inr ⟨b, h1, h2, h3.hd, ?_⟩
    obtain ⟨sp, hc, hm⟩ := h3.mem
    exact ⟨sp, hc, by rw [hb b h3.lt h3.A]; exact hm⟩

theorem St.alloc {V : Nat → Prop} {base : Nat} {w0 : World} {ab n : Nat} {T : List Value} {w : World} {S : Nat → Slc} {L : Nat → List Nat} (h : St V base w0 ab n T w S L) (o : Obj) : St V base w0 ab n T (w.alloc o) S L where
  low := Below.alloc h.low h.hsz o
  hab := h.hab
  hsz := by rw [size_alloc]; have := h.hsz; omega
  row := by rw [Below.heap_alloc _ _ _ h.ablt]; exact h.row
  own := fun j hj => OwnNil.block (h.own j hj) fun k hk _ => Below.heap_alloc _ _ _ hk
  nab := h.nab
  apart := h.apart
  keepV := fun k hk hv => by rw [Below.heap_alloc _ _ _ (Nat.lt_of_lt_of_le hk h.low.size)]; exact h.keepV k hk hv
  vab := h.vab
  vbig := h.vbig
  vS := h.vS

/-- A number is written into one of the lists. -/
theorem St.st {V : Nat → Prop} {base : Nat} {w0 : World} {ab n : Nat} {T : List Value} {w : World} {S : Nat → Slc} {L : Nat → List Nat} (h : St V base w0 ab n T w S L) {t : TypeId} (hT : isSl pr t .u64 = some tU64) {i k : Nat} (hi : i < n) (hk : k < (L i).length) {x : Nat} {K : World → Prop}
    (hK : ∀ w', St V base w0 ab n T w' S (upd L i ((L i).set k x)) → K w') :
    semA pr (Instr.indexAt t (S i).v (.int .i64 (k : Int))) w fun ad w1 => stC ad (.int .u64 (x : Int)) w1 fun w2 => K w2 := by
  rcases h.own i hi with ⟨_, hnil⟩ | ⟨b, hb, hc, ho⟩
  · rw [hnil] at hk; simp at hk
  · unfold semA
    rw [Sem.wp_iff_run, run_indexAt hT w (S i) k _ ho.A (by omega) (by rw [ho.n]; simpa using hk), add_off]
    refine ⟨_, rfl, ⟨_, ho.cell (by simpa using hk)⟩, ho.frozen _, hK _ ?_⟩
    have hbab : b ≠ ab := fun e => h.nab i hi (by rw [← e]; exact ho.A)
    refine ⟨Below.setCell h.low hb _, h.hab, by simpa [World.setCell] using h.hsz, ?_, ?_, h.nab, h.apart, ?_, h.vab, h.vbig, h.vS⟩
    · rw [Below.heap_setCell _ _ _ _ (by simpa using fun e => hbab e.symm)]; exact h.row
    · intro j hj
      unfold upd
      split
      · rename_i hji
        subst hji
        refine .inr ⟨b, hb, hc, ?_⟩
        have := ho.set (i := k) (by simpa using hk) (x : Int)
        rw [nn_set] at this
        exact this
      · rename_i hji
        refine OwnNil.block (h.own j hj) fun m hm hbm => Below.heap_setCell _ _ _ _ ?_
        intro e
        subst e
        exact h.apart i j _ hi hj (fun e => hji e.symm) ho.A hbm
    · intro m hm hv
      rw [Below.heap_setCell _ _ _ _ (by intro e; subst e; exact hv (h.vS i _ hi ho.A))]
      exact h.keepV m hm hv

def tl (j : Nat) : List Nat := [300 + 5 * j, 300 + 5 * j + 1, 300 + 5 * j + 2, 300 + 5 * j + 3, 300 + 5 * j + 4]

end Ref
end Go.Proofs.Ytflipimlpgbnmaa
namespace Go.Proofs.Ytflipimlpgbnmaa
open Go Go.RowKit Eng Sp Dg
set_option linter.unusedVariables false
set_option linter.unusedSimpArgs false
set_option maxRecDepth 100000
namespace Ref
open _root_.Go.Proofs.Ytflipimlpgbnmaa.Nat (OwnNil Num Ret bigC Yes own_num num_of digs_len_bl)

theorem len32 {l : List Nat} (h : ok B64 l) : (digs B32 (val B64 l)).length ≤ 2 * l.length := by
  refine digs_length_le two32 ?_
  rw [← b64_sq]
  exact val_lt h

end Ref
end Go.Proofs.Ytflipimlpgbnmaa
namespace Go.Proofs.Ytflipimlpgbnmaa
open Go Go.RowKit Eng Sp Dg
set_option linter.unusedVariables false
set_option linter.unusedSimpArgs false
set_option maxRecDepth 100000
namespace Fuel
open _root_.Go.Proofs.Ytflipimlpgbnmaa.Nat (Yes Num Num.ahead OwnNil OwnNil.rd OwnNil.ahead OwnI OwnI.rd OwnI.ahead OwnI.mono atts tw tw_length tw_getD atts_le atts_lt pow16 Attempts_spec alike_spec bigC num_of)

open Sb

/-- The meter lies in block b: its fuel is N, k attempts have been told. -/
def Mt (w : World) (b : Nat) (N k : Nat) : Prop := ∃ s : Slc, Blk w b #[s.v, .int .i64 (k : Int), .bool true] ∧ Num w s N
theorem Mt.ahead {w w' : World} {b N k : Nat} (h : Mt w b N k) (ha : Ahead w w') : Mt w' b N k := by
  obtain ⟨s, h1, h2⟩ := h; exact ⟨s, h1.ahead ha, h2.ahead ha⟩
theorem Mt.lt {w : World} {b N k : Nat} (h : Mt w b N k) : b < w.heap.size := by obtain ⟨s, h1, _⟩ := h; exact h1.lt
/-- Only the meter's block, and new memory. -/
structure Stp (b : Nat) (w w' : World) : Prop where
  bar : Bar (fun k => k = b) w w'
  rd : ∀ s l, Rd .u64 w s l → Rd .u64 w' s l
theorem Stp.trans {b : Nat} {x y z : World} (h : Stp b x y) (k : Stp b y z) : Stp b x z := ⟨h.bar.trans k.bar, fun s l hr => k.rd s l (h.rd s l hr)⟩
theorem Stp.ahead {b : Nat} {w0 w w' : World} (h : Stp b w w') (ha : Ahead w0 w) (hb : w0.heap.size ≤ b) : Ahead w0 w' :=
  ⟨h.bar.os.trans ha.os, h.bar.tape.trans ha.tape, h.bar.output.trans ha.output, Nat.le_trans ha.size h.bar.size, fun k hk => (h.bar.block k (Nat.lt_of_lt_of_le hk ha.size) (by omega)).trans (Below.block ha k hk)⟩
theorem Stp.num {b : Nat} {w w' : World} {s : Slc} {N : Nat} (h : Stp b w w') (hn : Num w s N) : Num w' s N := by
  obtain ⟨l, h1, h2⟩ := hn; exact ⟨l, h.rd _ _ h1, h2⟩

def enough (N : Nat) (p : Int) : Prop := 0 < atts N ∧ p ≤ ((64 * 2 ^ (atts N - 1) : Nat) : Int)
instance (N : Nat) (p : Int) : Decidable (enough N p) := inferInstanceAs (Decidable (_ ∧ _))
theorem Enough_spec {w : World} {s : Slc} {N : Nat} {p : Int} (h : Num w s N) : Calls pr fuel_Enough_id #[s.v, .int .i64 p] w fun e w' => Ahead w w' ∧ e = .returned (.bool (decide (enough N p))) := by
  have hle := atts_le N
  refine fuel_Enough_vc s p w _ (Calls.mono (R := fun e w' => Ahead w w' ∧ e = .returned (.int .i64 (if atts N = 0 then 0 else ((64 * 2 ^ (atts N - 1) : Nat) : Int)))) (fuel_Last_vc s w _ (Calls.mono (Attempts_spec h) ?_)) ?_)
  · rintro e w1 ⟨a1, t, rfl, ot⟩
    have hn : t.n = atts N := by rw [ot.rd.n, tw_length]
    refine ⟨_, rfl, br_intro (fun hz => ?_) (fun hz => ?_)⟩
    · have : t.n = 0 := by simpa using hz
      exact ⟨a1, by rw [if_pos (by omega)]⟩
    · have : t.n ≠ 0 := by simpa using hz
      rw [wrap_i64 (by omega) (by omega)]
      refine ix_ld (e := tInt) (k := .i64) (by kernel_rfl) ot.rd (by omega) (by rw [tw_length]; omega) ⟨a1, ?_⟩
      rw [if_neg (by omega), show ((t.n : Int) - 1).toNat = atts N - 1 by omega, tw_getD (by omega)]
  · rintro e w1 ⟨a1, rfl⟩
    have hp : 0 < 2 ^ (atts N - 1) := Nat.pow_pos (by omega)
    by_cases h0 : atts N = 0
    · rw [if_pos h0]
      refine ⟨_, rfl, br_false rfl ⟨a1, ?_⟩⟩
      rw [decide_eq_false (fun h => by have := h.1; omega)]
    · rw [if_neg h0]
      refine ⟨_, rfl, br_true (decide_eq_true (by omega)) ⟨a1, ?_⟩⟩
      congr 2
      rw [Bool.eq_iff_iff]
      simp only [decide_eq_true_eq]
      unfold enough
      omega

end Fuel
end Go.Proofs.Ytflipimlpgbnmaa
namespace Go.Proofs.Ytflipimlpgbnmaa
open Go Go.RowKit Eng Sp Dg
set_option linter.unusedVariables false
set_option linter.unusedSimpArgs false
set_option maxRecDepth 100000
namespace Fuel
open _root_.Go.Proofs.Ytflipimlpgbnmaa.Nat (Yes Num Num.ahead OwnNil OwnNil.rd OwnNil.ahead OwnI OwnI.rd OwnI.ahead OwnI.mono atts tw tw_length tw_getD tw_succ atts_le atts_lt pow16 Attempts_spec alike_spec bigC num_of own_num digs_len_bl)
open _root_.Go.Proofs.Ytflipimlpgbnmaa.Ref (RN RN.ahead Of_spec Cmp_spec Int_spec len32)
open Sb

theorem pow_le {i j : Nat} (h : i ≤ j) : 64 * 2 ^ i ≤ 64 * 2 ^ j := Nat.mul_le_mul_left _ (Nat.pow_le_pow_right (by omega) h)

end Fuel
end Go.Proofs.Ytflipimlpgbnmaa
namespace Go.Proofs.Ytflipimlpgbnmaa
open Go Go.RowKit Eng Sp Dg
set_option linter.unusedVariables false
set_option linter.unusedSimpArgs false
set_option maxRecDepth 100000
namespace Fuel
open _root_.Go.Proofs.Ytflipimlpgbnmaa.Nat (Yes Num Num.ahead OwnNil OwnNil.rd OwnNil.ahead OwnI OwnI.rd OwnI.ahead OwnI.mono OwnI.nil atts tw tw_length tw_getD tw_succ atts_le atts_lt pow16 Attempts_spec alike_spec bigC num_of own_num digs_len_bl lit_rd)
open _root_.Go.Proofs.Ytflipimlpgbnmaa.Ref (RN RN.ahead Of_spec Cmp_spec Int_spec len32)
open Sb

structure Stq (V : Nat → Prop) (w w' : World) : Prop where
  bar : Bar V w w'
  rd : ∀ s l, Rd .u64 w s l → Rd .u64 w' s l
theorem Stq.trans {V : Nat → Prop} {x y z : World} (h : Stq V x y) (k : Stq V y z) : Stq V x z := ⟨h.bar.trans k.bar, fun s l hr => k.rd s l (h.rd s l hr)⟩
theorem Stq.blk {V : Nat → Prop} {w w' : World} {q : Nat} {cs : Array Value} (h : Stq V w w') (hb : Blk w q cs) (hq : ¬ V q) : Blk w' q cs := by
  have hl := hb.lt
  obtain ⟨t, hb⟩ := hb
  exact ⟨t, by rw [h.bar.block q hl hq]; exact hb⟩
theorem Stp.blk {b : Nat} {w w' : World} {q : Nat} {cs : Array Value} (h : Stp b w w') (hb : Blk w q cs) (hq : q ≠ b) : Blk w' q cs := by
  have hl := hb.lt
  obtain ⟨t, hb⟩ := hb
  exact ⟨t, by rw [h.bar.block q hl hq]; exact hb⟩

/-- The document's meter. -/
def Rt (Q : Slc → Prop) (w : World) (b : Nat) (N k : Nat) : Prop := ∃ s : Slc, Q s ∧ Blk w b #[s.v, .int .i64 (k : Int)] ∧ RN w s N
theorem Rt.ahead {Q : Slc → Prop} {w w' : World} {b N k : Nat} (h : Rt Q w b N k) (ha : Ahead w w') : Rt Q w' b N k := by
  obtain ⟨s, hq, h1, h2⟩ := h; exact ⟨s, hq, h1.ahead ha, h2.ahead ha⟩
theorem Rt.lt {Q : Slc → Prop} {w : World} {b N k : Nat} (h : Rt Q w b N k) : b < w.heap.size := by obtain ⟨s, _, h1, _⟩ := h; exact h1.lt
theorem Rt.mono {Q Q' : Slc → Prop} {w : World} {b N k : Nat} (h : Rt Q w b N k) (hq : ∀ s, Q s → Q' s) : Rt Q' w b N k := by obtain ⟨s, h0, h1, h2⟩ := h; exact ⟨s, hq s h0, h1, h2⟩
/-- A made meter whose fuel lies as Q says. -/
def Mq (Q : Slc → Prop) (w : World) (b N k : Nat) : Prop := ∃ s : Slc, Q s ∧ Blk w b #[s.v, .int .i64 (k : Int), .bool true] ∧ Num w s N
theorem Mq.mt {Q : Slc → Prop} {w : World} {b N k : Nat} (h : Mq Q w b N k) : Mt w b N k := by obtain ⟨s, _, h1, h2⟩ := h; exact ⟨s, h1, h2⟩
theorem Mq.ahead {Q : Slc → Prop} {w w' : World} {b N k : Nat} (h : Mq Q w b N k) (ha : Ahead w w') : Mq Q w' b N k := by
  obtain ⟨s, hq, h1, h2⟩ := h; exact ⟨s, hq, h1.ahead ha, h2.ahead ha⟩
theorem Mq.lt {Q : Slc → Prop} {w : World} {b N k : Nat} (h : Mq Q w b N k) : b < w.heap.size := h.mt.lt
theorem Mq.mono {Q Q' : Slc → Prop} {w : World} {b N k : Nat} (h : Mq Q w b N k) (hq : ∀ s, Q s → Q' s) : Mq Q' w b N k := by obtain ⟨s, h0, h1, h2⟩ := h; exact ⟨s, hq s h0, h1, h2⟩
theorem Stp.mt {Q : Slc → Prop} {b q : Nat} {w w' : World} {N k : Nat} (h : Stp b w w') (hm : Mq Q w q N k) (hq : q ≠ b) : Mq Q w' q N k := by
  obtain ⟨s, h0, h1, h2⟩ := hm; exact ⟨s, h0, h.blk h1 hq, h.num h2⟩

theorem rAttempts_spec {w : World} {p : Slc} {N : Nat} (hp : RN w p N) (hl : (digs B32 N).length ≤ 2 ^ 46) :
    Calls pr surdref18_Attempts_id #[p.v] w fun e w' => Ahead w w' ∧ ∃ s, e = .returned (Slc.v s) ∧ OwnI w.heap.size w' s (tw (atts N)) := by
  have hB := B64v
  have hle := atts_le N
  refine surdref18_Attempts_vc p w _ (fun t0 t3 t6 w' => t0 = p ∧ ∃ i : Nat, t6 = ((64 * 2 ^ i : Nat) : Int) ∧ i ≤ atts N ∧ Ahead w w' ∧ OwnI w.heap.size w' t3 (tw i)) (fun _ _ q _ => (5000000 - q).toNat)
    ⟨rfl, 0, rfl, Nat.zero_le _, Ahead.refl _, OwnI.nil⟩ ?_
  rintro t0 t3 t6 w1 ⟨rfl, i, rfl, hi, ha, ho⟩
  refine br_intro (fun hlt => ?_) (fun hge => ?_)
  · have hq := of_decide_eq_true hlt
    have hi16 : i < 16 := by
      rcases Nat.lt_or_ge i 16 with h | h
      · exact h
      · have := pow_le h
        have e : (64 * 2 ^ 16 : Nat) = 4194304 := by decide
        rw [e] at this; omega
    have hp16 := pow16 hi16
    refine Calls.mono (Int_spec (v := 64 * 2 ^ i) (by omega)) ?_
    rintro e w2 ⟨ha2, s, rfl, hs⟩
    have hd : (digs B32 (64 * 2 ^ i)).length ≤ 2 := digs_length_le two32 (by rw [B32v]; omega)
    refine ⟨_, rfl, Calls.mono (Cmp_spec hs (hp.ahead (ha.trans ha2)) (by omega) (by omega)) ?_⟩
    rintro e w3 ⟨ha3, rfl⟩
    refine ⟨_, rfl, br_intro (fun hc => ?_) (fun hc => ?_)⟩
    · have hN : 64 * 2 ^ i ≤ N := by
        have := of_decide_eq_true hc
        rcases Nat.lt_or_ge N (64 * 2 ^ i) with h | h
        · have := cmpI_pos.2 h; omega
        · exact h
      have h2 := (atts_lt (N := N) hi16).2 hN
      have ha03 := (ha.trans ha2).trans ha3
      have hal := Ahead.alloc w3 (.cells #[Value.int .i64 ((64 * 2 ^ i : Nat) : Int)] tInt (0, 0))
      have ho4 := ((ho.ahead ha2).ahead ha3).ahead hal
      refine app (t := _) (e := tInt) (k := .i64) (l := tw i) (ys := [((64 * 2 ^ i : Nat) : Int)]) (base := w.heap.size) (by kernel_rfl) (lit_rd .i64 tInt w3 [((64 * 2 ^ i : Nat) : Int)]) (by simp)
        ho4 (ha03.trans hal).size (by simp [tw_length]; omega) ?_
      intro s' w5 b' hb' hc' hown hbel hah
      have e8 : IntKind.i64.wrap (2 * ((64 * 2 ^ i : Nat) : Int)) = ((64 * 2 ^ (i + 1) : Nat) : Int) := by
        rw [Nat.pow_succ, wrap_i64 (by omega) (by omega)]; omega
      have hpos : 0 < 2 ^ i := Nat.pow_pos (by omega)
      refine ⟨⟨rfl, i + 1, e8, h2, ?_, .inr ⟨b', hb', hc', by rw [tw_succ]; exact hown⟩⟩, by rw [e8, Nat.pow_succ]; omega⟩
      refine hah w (ha03.trans hal) fun b hb => ?_
      rcases ho with ⟨rfl, _⟩ | ⟨b2, h1, _, h3⟩
      · simp at hb
      · rw [h3.A] at hb; simp at hb; omega
    · have hN : N < 64 * 2 ^ i := by
        have := of_decide_eq_false hc
        rcases Nat.lt_or_ge N (64 * 2 ^ i) with h | h
        · exact h
        · exfalso
          rcases Nat.eq_or_lt_of_le h with h | h
          · have := cmpI_zero.2 h; omega
          · have := cmpI_neg.2 h; omega
      have h2 := (atts_lt (N := N) hi16)
      have : i = atts N := by omega
      subst this
      exact ⟨(ha.trans ha2).trans ha3, _, rfl, (ho.ahead ha2).ahead ha3⟩
  · have hq := of_decide_eq_false hge
    have hi16 : i = atts N := by
      rcases Nat.lt_or_ge i 16 with h | h
      · have := pow16 h; omega
      · omega
    subst hi16
    exact ⟨ha, _, rfl, ho⟩

end Fuel
end Go.Proofs.Ytflipimlpgbnmaa
namespace Go.Proofs.Ytflipimlpgbnmaa
open Go Go.RowKit Eng Sp Dg
set_option linter.unusedVariables false
set_option linter.unusedSimpArgs false
set_option maxRecDepth 100000
namespace Fuel
open _root_.Go.Proofs.Ytflipimlpgbnmaa.Nat (Num Num.ahead Yes)
open Sb

/-- What lies in these blocks is as it was. -/
def Kin (lo hi : Nat) (W W' : World) : Prop := ∀ k, lo ≤ k → k < hi → W'.heap[k]? = W.heap[k]?
theorem cell_kin {lo hi : Nat} {W W' : World} (h : Kin lo hi W W') {ad : Addr} {v : Value} (h1 : lo ≤ ad.block) (h2 : ad.block < hi) (hc : W.cell? ad = some v) : W'.cell? ad = some v := by
  rw [World.cell?_of_block (h _ h1 h2)]; exact hc
/-- Whole numbers in these blocks. -/
structure RdB (lo hi : Nat) (W : World) (s : Slc) (T : List Int) : Prop where
  rd : Rd .i64 W s T
  at_ : (s = ⟨none, 0, 0⟩ ∧ T = []) ∨ ∃ b, s.A = some ⟨b, 0, none⟩ ∧ lo ≤ b ∧ b < hi
theorem RdB.kin {lo hi : Nat} {W W' : World} {s : Slc} {T : List Int} (h : RdB lo hi W s T) (hk : Kin lo hi W W') : RdB lo hi W' s T := by
  refine ⟨⟨h.rd.n, h.rd.c, fun i hi => ?_⟩, h.at_⟩
  obtain ⟨b, hA, h1, h2⟩ : ∃ b, s.A = some ⟨b, 0, none⟩ ∧ lo ≤ b ∧ b < _ := by
    rcases h.at_ with ⟨_, e⟩ | h'
    · rw [e] at hi; simp at hi
    · exact h'
  obtain ⟨ad, e, hc⟩ := h.rd.get i hi
  rw [hA] at e
  obtain rfl := Option.some.inj e
  exact ⟨_, hA, cell_kin hk (by rw [Eng.add_block]; exact h1) (by rw [Eng.add_block]; exact h2) hc⟩
/-- The iterator over these whole numbers. -/
def ItV (Bs : Nat) : Value := .func (.func 50) #[] #[.pointer (some ⟨Bs, 0, none⟩)]
structure It (lo hi : Nat) (W : World) (v : Value) (T : List Int) : Prop where
  ex : ∃ Bs s, v = ItV Bs ∧ lo ≤ Bs ∧ Bs < hi ∧ W.cell? ⟨Bs, 0, none⟩ = some (Slc.v s) ∧ RdB lo hi W s T
theorem It.kin {lo hi : Nat} {W W' : World} {v : Value} {T : List Int} (h : It lo hi W v T) (hk : Kin lo hi W W') : It lo hi W' v T := by
  obtain ⟨Bs, s, h1, h2, h3, h4, h5⟩ := h.ex
  exact ⟨Bs, s, h1, h2, h3, cell_kin hk h2 h3 h4, h5.kin hk⟩
theorem below_kin {lo hi : Nat} {W W' : World} (h : Below hi W W') : Kin lo hi W W' := fun k _ hk => Below.block h k hk
theorem It.iterP {lo hi : Nat} {W : World} {v : Value} {T : List Int} (h : It lo hi W v T) (hh : hi ≤ W.heap.size) (hT : T.length ≤ 1000) :
    ∃ lb, v = .func (.func 50) #[] lb ∧ IterP pr 50 lb (Below hi) (fun xs => xs = prs T T.length) (fun pre => ∃ k, k ≤ T.length ∧ pre = prs T k) T.length W := by
  obtain ⟨Bs, s, rfl, h2, h3, h4, h5⟩ := h.ex
  refine ⟨_, rfl, ⟨fun l J Jx W1 hW _ _ hY h0 => ?_, enters_of Try.func50 (by kernel_rfl) rfl, fun h k => Below.trans h k, fun W1 l o o' hl ho _ _ => ⟨rfl, rfl, rfl, by simp, fun k hk => World.putObj_heap_other (by omega)⟩⟩⟩
  have hb1 : Below hi W W1 := hW.mono hh
  have h4' := cell_kin (below_kin (lo := lo) hb1) h2 h3 h4
  have h5' := h5.kin (below_kin (lo := lo) hb1)
  rcases h5'.at_ with ⟨hs, hT0⟩ | ⟨b, hA, h7, h8⟩
  · subst hs
    subst hT0
    exact (iter_nil_in 4 l Bs J W1 h4' h0).mono fun e W' ⟨he, hj⟩ => ⟨he, .inl ⟨_, rfl, hj⟩⟩
  · have hn := h5'.rd.n
    have e1 : Slc.v s = .slice (some ⟨b, 0, none⟩) T.length s.c := by rw [Slc.v, hA, hn]
    rw [e1] at h4'
    refine (iter_in 4 l Bs hi b T.length s.c T (by omega) h8 J Jx hY W1 h4' (fun j hj => ?_) h0 (by omega)).mono ?_
    · obtain ⟨ad, e, hc⟩ := h5'.rd.get j hj
      rw [hA] at e
      obtain rfl := Option.some.inj e
      rw [add_off] at hc
      rw [hc, List.getD_eq_getElem?_getD]
    · rintro e W' ⟨he, ⟨ys, rfl, hj⟩ | ⟨pre, ⟨k, hk, rfl⟩, hj⟩⟩
      · exact ⟨he, .inl ⟨_, rfl, hj⟩⟩
      · exact ⟨he, .inr ⟨_, ⟨k, hk, rfl⟩, hj⟩⟩

/-- One round. -/
theorem round {bk b6 b10 : Nat} {W : World} {s : Slc} {T : List Int} {j : Nat} {x y : Int} {t : TypeId} {A : World → Prop} {Kr : World → Prop} (hk : Blk W bk #[.int .i64 (j : Int)]) (h6 : ∃ r, Blk W b6 #[.bool r]) (h10 : Blk W b10 #[s.v]) (hr : Rd .i64 W s T) (hj : j < T.length) (hlen : T.length ≤ 1000)
    (good : x = j → y = T.getD j 0 → ∀ W', Upd bk W W' → Blk W' bk #[.int .i64 ((j + 1 : Nat) : Int)] → A W')
    (bad : ¬ (x = j ∧ y = T.getD j 0) → ∀ W', Upd b6 W W' → (∃ r, Blk W' b6 #[.bool r]) → Kr W') (hT : isSl pr t .i64 = some tInt := by kernel_rfl) :
    ldI .i64 ⟨bk, 0, none⟩ W fun x6 =>
      br (x != x6) (stC ⟨b6, 0, none⟩ (Value.bool false) W fun w42 => Kr w42)
      (ldI .i64 ⟨bk, 0, none⟩ W fun x7 => ldS ⟨b10, 0, none⟩ W fun s18 =>
       br (decide (x7 ≥ (s18.n : Int))) (stC ⟨b6, 0, none⟩ (Value.bool false) W fun w43 => Kr w43)
       (ldS ⟨b10, 0, none⟩ W fun s19 => ldI .i64 ⟨bk, 0, none⟩ W fun x8 =>
        semA pr (Instr.indexAt t s19.v (Value.int .i64 x8)) W fun ad9 w44 => ldI .i64 ad9 w44 fun x9 =>
        br (y != x9) (stC ⟨b6, 0, none⟩ (Value.bool false) w44 fun w45 => Kr w45)
        (ldI .i64 ⟨bk, 0, none⟩ w44 fun x10 => stC ⟨bk, 0, none⟩ (Value.int .i64 (IntKind.i64.wrap (x10 + 1))) w44 fun w46 => A w46))) := by
  obtain ⟨r, h6⟩ := h6
  refine ldI_b 0 hk rfl (br_intro (fun hx => ?_) (fun hx => ?_))
  · have hx' : x ≠ j := by simpa using hx
    exact stC_b 0 h6 (by simp) rfl fun W' u B => bad (fun h => hx' h.1) W' u ⟨_, B⟩
  have hx' : x = j := by simpa using hx
  refine ldI_b 0 hk rfl (ldS_b 0 h10 rfl (br_false (decide_eq_false (by rw [hr.n]; omega)) (ldS_b 0 h10 rfl (ldI_b 0 hk rfl ?_))))
  refine ix_ld hT hr (by omega) (by omega) ?_
  rw [Int.toNat_natCast]
  refine br_intro (fun hy => ?_) (fun hy => ?_)
  · have hy' : y ≠ T.getD j 0 := by simpa using hy
    exact stC_b 0 h6 (by simp) rfl fun W' u B => bad (fun h => hy' h.2) W' u ⟨_, B⟩
  have hy' : y = T.getD j 0 := by simpa using hy
  refine ldI_b 0 hk rfl ?_
  rw [wrap_i64 (by omega) (by omega)]
  exact stC_b 0 hk (by simp) rfl fun W' u B => good hx' hy' W' u (by
    have e : ((j : Int) + 1) = ((j + 1 : Nat) : Int) := by omega
    rw [← e]; exact B)

/-- What the loops know. -/
structure LS (w : World) (b5 b6 b10 bk lo hi : Nat) (a2 : Int) (s : Slc) (T : List Int) (v : Value) (j : Nat) (W : World) : Prop where
  a : Ahead w W
  k : Blk W bk #[.int .i64 (j : Int)]
  r : ∃ x, Blk W b6 #[.bool x]
  st : Blk W b5 #[.int .i64 a2]
  wn : Blk W b10 #[s.v]
  rd : RdB lo hi W s T
  it : It lo hi W v T
structure Ord (w : World) (b5 b6 b10 bk lo hi : Nat) (T : List Int) : Prop where
  o1 : w.heap.size ≤ b5
  o2 : b5 < b6
  o3 : b6 < b10
  o4 : b6 < lo ∧ b10 < hi
  o5 : hi ≤ bk
  o6 : T.length ≤ 1000
theorem blk_keep {W W' : World} {b : Nat} {cs : Array Value} (h : Blk W b cs) (hk : W'.heap[b]? = W.heap[b]?) : Blk W' b cs := by
  obtain ⟨t, h⟩ := h; exact ⟨t, by rw [hk]; exact h⟩
theorem LS.keep {w : World} {b5 b6 b10 bk lo hi : Nat} {a2 : Int} {s : Slc} {T : List Int} {v : Value} {j : Nat} {W W' : World} (h : LS w b5 b6 b10 bk lo hi a2 s T v j W) (o : Ord w b5 b6 b10 bk lo hi T) (ha : Ahead w W') (hk : ∀ k, k ≤ bk → W'.heap[k]? = W.heap[k]?) : LS w b5 b6 b10 bk lo hi a2 s T v j W' := by
  have o1 := o.o1; have o2 := o.o2; have o3 := o.o3; have o4 := o.o4; have o5 := o.o5
  have h10 := h.wn.lt
  have hkin : Kin lo hi W W' := fun k _ hk2 => hk k (by omega)
  obtain ⟨x, hr⟩ := h.r
  have hbk : b10 ≤ bk ∨ bk < b10 := by omega
  refine ⟨ha, blk_keep h.k (hk _ (Nat.le_refl _)), ⟨x, ?_⟩, ?_, ?_, h.rd.kin hkin, h.it.kin hkin⟩
  all_goals
    obtain ⟨Bs, s2, _, hb1, hb2, _⟩ := h.it.ex
    first | exact blk_keep hr (hk _ (by omega)) | exact blk_keep h.st (hk _ (by omega)) | exact blk_keep h.wn (hk _ (by omega))
theorem LS.lt {w : World} {b5 b6 b10 bk lo hi : Nat} {a2 : Int} {s : Slc} {T : List Int} {v : Value} {j : Nat} {W : World} (h : LS w b5 b6 b10 bk lo hi a2 s T v j W) : bk < W.heap.size := h.k.lt
theorem LS.ord {w : World} {b5 b6 b10 bk lo hi : Nat} {a2 : Int} {s : Slc} {T : List Int} {v : Value} {j : Nat} {W : World} (h : LS w b5 b6 b10 bk lo hi a2 s T v j W) : lo < hi := by
  obtain ⟨Bs, s2, _, hb1, hb2, _⟩ := h.it.ex; omega
/-- The counter goes on. -/
theorem LS.next {w : World} {b5 b6 b10 bk lo hi : Nat} {a2 : Int} {s : Slc} {T : List Int} {v : Value} {j i : Nat} {W W' : World} (h : LS w b5 b6 b10 bk lo hi a2 s T v j W) (o : Ord w b5 b6 b10 bk lo hi T) (u : Upd bk W W') (hb : Blk W' bk #[.int .i64 (i : Int)]) : LS w b5 b6 b10 bk lo hi a2 s T v i W' := by
  have o1 := o.o1; have o2 := o.o2; have o3 := o.o3; have o4 := o.o4; have o5 := o.o5
  have hl := h.ord
  have hk : ∀ k, k ≠ bk → W'.heap[k]? = W.heap[k]? := u.only.2.2.2.2
  have hkin : Kin lo hi W W' := fun k _ hk2 => hk k (by omega)
  obtain ⟨x, hr⟩ := h.r
  exact ⟨u.ahead h.a (by omega), hb, ⟨x, blk_keep hr (hk _ (by omega))⟩, blk_keep h.st (hk _ (by omega)), blk_keep h.wn (hk _ (by omega)), h.rd.kin hkin, h.it.kin hkin⟩
theorem LS.ownFrom {w : World} {b5 b6 b10 bk lo hi B : Nat} {a2 : Int} {s : Slc} {T : List Int} {v : Value} {j : Nat} {W W' : World} {row : Option Nat} (h : LS w b5 b6 b10 bk lo hi a2 s T v j W) (o : Ord w b5 b6 b10 bk lo hi T) (hg : W.grownBy W' row) (hr : ∀ r, row = some r → B ≤ r ∧ ∃ o : Obj, W.heap[r]? = some o ∧ o.isCells = false) (hB : bk < B) : LS w b5 b6 b10 bk lo hi a2 s T v j W' := by
  have o1 := o.o1; have o2 := o.o2; have o3 := o.o3; have o4 := o.o4; have o5 := o.o5
  have hl := h.ord
  have hlt := h.lt
  refine h.keep o (Below.grown h.a hg h.a.size fun k hk => by have := (hr k hk).1; omega) fun k hk => hg.block k (by omega) fun e => ?_
  have := (hr k e.symm).1
  omega
end Fuel
end Go.Proofs.Ytflipimlpgbnmaa
namespace Go.Proofs.Ytflipimlpgbnmaa
open Go Go.RowKit Eng Sp Dg
set_option linter.unusedVariables false
set_option linter.unusedSimpArgs false
set_option maxRecDepth 100000
namespace Fuel
open _root_.Go.Proofs.Ytflipimlpgbnmaa.Nat (Num Num.ahead Yes awake_spec)
open _root_.Go.Proofs.Ytflipimlpgbnmaa.Ref (RN RN.ahead)
open Sb

theorem ahead_put {w W : World} {D : Nat} {o : Obj} (ha : Ahead w W) (hD : w.heap.size ≤ D) : Ahead w (W.putObj D o) :=
  Below.trans ha ⟨rfl, rfl, rfl, by simp, fun k hk => World.putObj_heap_other (by omega)⟩
theorem mark1 {w W : World} {b6 D1 : Nat} (ha : Ahead w W) (hb : Blk W b6 #[.bool true]) (h1 : W.heap[D1]? = some (Obj.deferred (some []))) (n1 : b6 ≠ D1) (w1 : w.heap.size ≤ D1) :
    W.heap[D1]? = some (Obj.deferred (some [])) ∧ (ldB ⟨b6, 0, none⟩ (W.putObj D1 (Obj.deferred none)) fun b => Yes w (.returned (Value.bool b)) (W.putObj D1 (Obj.deferred none))) :=
  ⟨h1, ldB_b 0 (blk_keep hb (World.putObj_heap_other n1)) rfl ⟨rfl, ahead_put ha w1⟩⟩
theorem mark2 {w W : World} {b6 D1 D2 : Nat} (ha : Ahead w W) (hb : Blk W b6 #[.bool true]) (h2 : W.heap[D2]? = some (Obj.deferred (some []))) (h1 : W.heap[D1]? = some (Obj.deferred (some []))) (h12 : D1 ≠ D2) (n1 : b6 ≠ D1) (n2 : b6 ≠ D2) (w1 : w.heap.size ≤ D1) (w2 : w.heap.size ≤ D2) :
    W.heap[D2]? = some (Obj.deferred (some [])) ∧ ((W.putObj D2 (Obj.deferred none)).heap[D1]? = some (Obj.deferred (some [])) ∧ (ldB ⟨b6, 0, none⟩ ((W.putObj D2 (Obj.deferred none)).putObj D1 (Obj.deferred none)) fun b => Yes w (.returned (Value.bool b)) ((W.putObj D2 (Obj.deferred none)).putObj D1 (Obj.deferred none)))) :=
  ⟨h2, mark1 (ahead_put ha w2) (blk_keep hb (World.putObj_heap_other n2)) ((World.putObj_heap_other h12).trans h1) n1 w1⟩
theorem keepsFrom {b B : Nat} {W W' : World} (u : Upd b W W') (h : b < B) : KeepsFrom B W W' :=
  ⟨Nat.le_of_eq u.size.symm, fun k o hB hk _ => by rw [u.only.2.2.2.2 k (by omega)]; exact hk⟩
theorem belowU {b hi : Nat} {W W' : World} (u : Upd b W W') (h : hi ≤ b) : Below hi W W' :=
  ⟨u.only.1, u.only.2.1, u.only.2.2.1, Nat.le_of_eq u.size.symm, fun k hk => u.only.2.2.2.2 k (by omega)⟩
theorem prs_snoc {T : List Int} {pre : List (Int × Int)} {x y : Int} (h : pre = prs T pre.length) (hx : x = (pre.length : Int)) (hy : y = T.getD pre.length 0) : pre ++ [(x, y)] = prs T (pre ++ [(x, y)]).length := by
  rw [List.length_append, List.length_singleton, prs_succ, ← h, hx, hy, List.getD_eq_getElem?_getD]
theorem prs_bad {T : List Int} {pre : List (Int × Int)} {x y : Int} (h : pre ++ [(x, y)] = prs T (pre ++ [(x, y)]).length) : x = (pre.length : Int) ∧ y = T.getD pre.length 0 := by
  rw [List.length_append, List.length_singleton, prs_succ] at h
  have h2 := List.append_inj_right' h rfl
  have h3 : (x, y) = ((pre.length : Int), T[pre.length]?.getD 0) := by simpa using h2
  rw [List.getD_eq_getElem?_getD]
  exact Prod.mk.inj h3

theorem loop2 {w W : World} {b5 b6 b10 bk lo hi D1 : Nat} {a2 : Int} {s : Slc} {T : List Int} {v : Value} {t : TypeId} (h : LS w b5 b6 b10 bk lo hi a2 s T v 0 W) (o : Ord w b5 b6 b10 bk lo hi T) (hD : W.heap[D1]? = some (Obj.deferred (some []))) (hD1 : bk < D1) (hT : isSl pr t .i64 = some tInt := by kernel_rfl) :
    rangeP pr v W (fun _ _ => true)
      (fun x16 x17 w50 K2n K2r K2e =>
         ldI .i64 ⟨bk, 0, none⟩ w50 fun x18 =>
         br (x16 != x18)
         (stC ⟨b6, 0, none⟩ (Value.bool false) w50 fun w51 => K2r w51)
         (ldI .i64 ⟨bk, 0, none⟩ w50 fun x19 =>
          ldS ⟨b10, 0, none⟩ w50 fun s21 =>
          br (decide (x19 ≥ (s21.n : Int)))
          (stC ⟨b6, 0, none⟩ (Value.bool false) w50 fun w52 => K2r w52)
          (ldS ⟨b10, 0, none⟩ w50 fun s22 =>
           ldI .i64 ⟨bk, 0, none⟩ w50 fun x20 =>
           semA pr (Instr.indexAt t s22.v (Value.int .i64 x20)) w50 fun ad10 w53 =>
           ldI .i64 ad10 w53 fun x21 =>
           br (x17 != x21)
           (stC ⟨b6, 0, none⟩ (Value.bool false) w53 fun w54 => K2r w54)
           (ldI .i64 ⟨bk, 0, none⟩ w53 fun x22 =>
            stC ⟨bk, 0, none⟩ (Value.int .i64 (IntKind.i64.wrap (x22 + 1))) w53 fun w55 => K2n w55))))
      (fun D2 w56 =>
         ldI .i64 ⟨bk, 0, none⟩ w56 fun x23 =>
         ldS ⟨b10, 0, none⟩ w56 fun s23 =>
         br (x23 == (s23.n : Int))
         (Calls pr surdlaw18_awake_id #[] w56 fun e17 w57 =>
          ∃ b20 : Bool, e17 = .returned (Value.bool b20) ∧
          (stC ⟨b6, 0, none⟩ (Value.bool b20) w57 fun w58 =>
           w58.heap[D2]? = some (Obj.deferred (some [])) ∧
           ((w58.putObj D2 (Obj.deferred none)).heap[D1]? = some (Obj.deferred (some [])) ∧
            (ldB ⟨b6, 0, none⟩ ((w58.putObj D2 (Obj.deferred none)).putObj D1 (Obj.deferred none)) fun b21 =>
             Yes w (.returned (Value.bool b21)) ((w58.putObj D2 (Obj.deferred none)).putObj D1 (Obj.deferred none))))))
         (stC ⟨b6, 0, none⟩ (Value.bool false) w56 fun w59 =>
          w59.heap[D2]? = some (Obj.deferred (some [])) ∧
          ((w59.putObj D2 (Obj.deferred none)).heap[D1]? = some (Obj.deferred (some [])) ∧
           (ldB ⟨b6, 0, none⟩ ((w59.putObj D2 (Obj.deferred none)).putObj D1 (Obj.deferred none)) fun b22 =>
            Yes w (.returned (Value.bool b22)) ((w59.putObj D2 (Obj.deferred none)).putObj D1 (Obj.deferred none))))))
      (fun D3 w60 =>
         w60.heap[D3]? = some (Obj.deferred (some [])) ∧
         ((w60.putObj D3 (Obj.deferred none)).heap[D1]? = some (Obj.deferred (some [])) ∧
          (ldB ⟨b6, 0, none⟩ ((w60.putObj D3 (Obj.deferred none)).putObj D1 (Obj.deferred none)) fun b23 =>
           Yes w (.returned (Value.bool b23)) ((w60.putObj D3 (Obj.deferred none)).putObj D1 (Obj.deferred none)))))
      [] := by
  have o1 := o.o1; have o2 := o.o2; have o3 := o.o3; have o4 := o.o4; have o5 := o.o5
  have hord := h.ord
  have hlt := h.lt
  have hDlt : D1 < W.heap.size := (Array.getElem?_eq_some_iff.1 hD).1
  obtain ⟨lb, hv, hit⟩ := h.it.iterP (by omega) o.o6
  refine ⟨_, lb, _, _, _, _, (fun pre W' => pre = prs T pre.length ∧ pre.length ≤ T.length ∧ LS w b5 b6 b10 bk lo hi a2 s T v pre.length W' ∧ W'.heap[D1]? = some (Obj.deferred (some []))), (fun pre W' => pre ≠ prs T pre.length), (fun _ _ _ => False), hv, hit, fun _ _ => rfl, ?_, fun _ _ _ _ h _ _ => h, fun _ _ _ _ _ h _ _ => h, ⟨rfl, Nat.zero_le _, h, hD⟩, ?_, ?_, ?_, trivial⟩
  · rintro pre A B row ⟨h1, h2, h3, h4⟩ hg hr
    exact ⟨h1, h2, h3.ownFrom o hg hr hlt, by rw [hg.block D1 (Array.getElem?_eq_some_iff.1 h4).1 fun e => by have := (hr D1 e.symm).1; omega]; exact h4⟩
  · rintro pre x y W1 ⟨h1, h2, h3, h4⟩ hl
    refine round h3.k h3.r h3.wn h3.rd.rd hl o.o6 (fun hx hy W' u B => ⟨keepsFrom u (by omega), belowU u (by omega), prs_snoc h1 hx hy, by simp; omega, by
      rw [List.length_append, List.length_singleton]; exact h3.next o u B, by rw [u.only.2.2.2.2 D1 (by omega)]; exact h4⟩) (fun hbad W' u hb => ⟨keepsFrom u (by omega), fun e => hbad (prs_bad e)⟩) hT
  · rintro D xs W1 hDs hS ⟨h1, h2, h3, h4⟩ hd
    have hlen : xs.length = T.length := by rw [hS, prs_length]
    have hn := h3.rd.rd.n
    refine ldI_b 0 h3.k rfl (ldS_b 0 h3.wn rfl (br_true (by rw [hn, hlen]; simp) (Calls.mono (awake_spec W1) ?_)))
    have hlt1 := h3.lt
    rintro e w57 ⟨rfl, h57⟩
    have hd1 := (Array.getElem?_eq_some_iff.1 hd).1
    have hd4 := (Array.getElem?_eq_some_iff.1 h4).1
    have h5 := h3.keep o (h3.a.trans h57) fun k hk => Below.block h57 k (by omega)
    refine ⟨true, rfl, ?_⟩
    obtain ⟨r, hr⟩ := h5.r
    refine stC_b 0 hr (by simp) rfl fun w58 u B => ?_
    have hk : ∀ k, k ≠ b6 → w58.heap[k]? = w57.heap[k]? := u.only.2.2.2.2
    have hw := h.a.size
    exact mark2 (u.ahead h5.a (by omega)) B (by rw [hk D (by omega), Below.block h57 D hd1]; exact hd) (by rw [hk D1 (by omega), Below.block h57 D1 hd4]; exact h4) (by omega) (by omega) (by omega) (by omega) (by omega)
  · rintro D pre W1 hDs ⟨k, hk, hpre⟩ hx hd
    refine absurd ?_ hx
    rw [hpre, prs_length]
end Fuel
end Go.Proofs.Ytflipimlpgbnmaa
namespace Go.Proofs.Ytflipimlpgbnmaa
open Go Go.RowKit Eng Sp Dg
set_option linter.unusedVariables false
set_option linter.unusedSimpArgs false
set_option maxRecDepth 100000
namespace Fuel
open _root_.Go.Proofs.Ytflipimlpgbnmaa.Nat (Num Num.ahead Yes awake_spec OwnI OwnI.rd OwnI.ahead OwnI.mono tw tw_length atts atts_le Attempts_spec alike_spec num_of)
open _root_.Go.Proofs.Ytflipimlpgbnmaa.Ref (RN RN.ahead Lent Lent.part Lent.whole Lent.ahead Lend_spec Of_spec Kept_spec lent len32)
open Sb

def lastOf (N : Nat) : Int := if atts N = 0 then 0 else (tw (atts N)).getD (atts N - 1) 0
theorem tw_last {N : Nat} (h : 0 < atts N) : (tw (atts N)).getD (atts N - 1) 0 = ((64 * 2 ^ (atts N - 1) : Nat) : Int) := Nat.tw_getD (by omega)
theorem Last_spec {w : World} {s : Slc} {N : Nat} (h : Num w s N) : Calls pr fuel_Last_id #[s.v] w fun e w' => Ahead w w' ∧ e = .returned (.int .i64 (lastOf N)) := by
  have hle := atts_le N
  refine fuel_Last_vc s w _ (Calls.mono (Attempts_spec h) ?_)
  rintro e w1 ⟨a1, t, rfl, ot⟩
  have hn : t.n = atts N := by rw [ot.rd.n, tw_length]
  refine ⟨_, rfl, br_intro (fun hz => ?_) (fun hz => ?_)⟩
  · have h0 : atts N = 0 := by have := eq_of_beq hz; omega
    exact ⟨a1, by rw [lastOf, if_pos h0]⟩
  · have h0 : atts N ≠ 0 := by intro h; rw [hn, h] at hz; simp at hz
    rw [wrap_i64 (by omega) (by omega)]
    refine ix_ld (e := tInt) (k := .i64) (by kernel_rfl) ot.rd (by omega) (by rw [tw_length]; omega) ?_
    rw [show ((t.n : Int) - 1).toNat = atts N - 1 by omega, lastOf, if_neg h0]
    exact ⟨a1, rfl⟩
theorem Count_spec {w : World} {s : Slc} {N : Nat} (h : Num w s N) : Calls pr fuel_Count_id #[s.v] w fun e w' => Ahead w w' ∧ e = .returned (.int .i64 (atts N : Int)) := by
  refine fuel_Count_vc s w _ (Calls.mono (Attempts_spec h) ?_)
  rintro e w1 ⟨a1, t, rfl, ot⟩
  have hn : t.n = atts N := by rw [ot.rd.n, tw_length]
  exact ⟨_, rfl, a1, by rw [hn]⟩
theorem rEnough_spec {w : World} {s : Slc} {N : Nat} {p : Int} (h : RN w s N) (hl : (digs B32 N).length ≤ 2 ^ 46) : Calls pr surdref18_Enough_id #[s.v, .int .i64 p] w fun e w' => Ahead w w' ∧ e = .returned (.bool (decide (enough N p))) := by
  have hle := atts_le N
  refine surdref18_Enough_vc s p w _ (Calls.mono (rAttempts_spec h hl) ?_)
  rintro e w1 ⟨a1, t, rfl, ot⟩
  have hn : t.n = atts N := by rw [ot.rd.n, tw_length]
  refine ⟨_, rfl, br_intro (fun hz => ?_) (fun hz => ?_)⟩
  · have h0 : 0 < atts N := by have := of_decide_eq_true hz; omega
    rw [wrap_i64 (by omega) (by omega)]
    refine ix_ld (e := tInt) (k := .i64) (by kernel_rfl) ot.rd (by omega) (by rw [tw_length]; omega) ?_
    rw [show ((t.n : Int) - 1).toNat = atts N - 1 by omega, tw_last h0]
    refine ⟨a1, ?_⟩
    congr 2
    simp only [enough, h0, true_and, ge_iff_le]
  · have h0 : ¬ 0 < atts N := by have := of_decide_eq_false hz; omega
    exact ⟨a1, by rw [decide_eq_false (fun h => h0 h.1)]⟩
theorem All_spec {w : World} {s : Slc} {N : Nat} (h : Num w s N) : Calls pr fuel_All_id #[s.v] w fun e w' => Ahead w w' ∧ ∃ Bs, e = .returned (ItV Bs) ∧ It w.heap.size w'.heap.size w' (ItV Bs) (tw (atts N)) := by
  refine fuel_All_vc s w _ (Calls.mono (Attempts_spec h) ?_)
  rintro e w1 ⟨a1, t, rfl, ot⟩
  refine ⟨_, rfl, newC_b fun b w2 hb h2 hs B => stC_b 0 B (by simp) rfl fun w3 u B3 => ?_⟩
  have hsz := a1.size
  have hlt := B3.lt
  have a3 : Ahead w1 w3 := u.ahead h2 (by omega)
  refine ⟨a1.trans a3, b, rfl, ⟨b, t, rfl, by omega, hlt, B3.cell rfl, ⟨ot.rd.ahead a3, ?_⟩⟩⟩
  rcases ot with h0 | ⟨b', hb', _, ho⟩
  · exact .inl h0
  · have h1 := ho.lt
    have h2 := a3.size
    exact .inr ⟨b', ho.A, hb', by omega⟩
end Fuel
end Go.Proofs.Ytflipimlpgbnmaa
namespace Go.Proofs.Ytflipimlpgbnmaa
open Go Go.RowKit Eng Sp Dg
set_option linter.unusedVariables false
set_option linter.unusedSimpArgs false
set_option maxRecDepth 100000
namespace Fuel
open _root_.Go.Proofs.Ytflipimlpgbnmaa.Nat (Num Num.ahead Yes awake_spec OwnI OwnI.rd OwnI.ahead OwnI.mono tw tw_length atts atts_le Attempts_spec alike_spec num_of)
open _root_.Go.Proofs.Ytflipimlpgbnmaa.Ref (RN RN.ahead Lent Lent.part Lent.whole Lent.ahead Lend_spec Of_spec Kept_spec lent lent_length len32)
open Sb

theorem pre_tail {wd : World} {b10 : Nat} {sq s5 s6 sx sn : Slc} {N : Nat} {p last : Int} (B10 : Blk wd b10 #[sq.v]) (rq : Rd .i64 wd sq (tw (atts N))) (ra : Rd .i64 wd s5 (tw (atts N))) (rb : Rd .i64 wd s6 (tw (atts N))) (nx : Num wd sx N) (rn : RN wd sn N) (hl : (digs B32 N).length ≤ 2 ^ 46) (hlast : last = lastOf N)
    {Y1 Y2 Y3 Y4 Y5 Q : World → Prop} (hQ : ∀ w', Ahead wd w' → Q w') :
    ldS ⟨b10, 0, none⟩ wd fun s10 => Calls pr surdlaw18_alike_id #[s5.v, s10.v] wd fun e6 w11 => ∃ b1 : Bool, e6 = .returned (Value.bool b1) ∧ (Ahead wd w11 ∧ (br (!b1) (Y1 w11)
      (ldS ⟨b10, 0, none⟩ w11 fun s11 => Calls pr surdlaw18_alike_id #[s6.v, s11.v] w11 fun e7 w13 => ∃ b3 : Bool, e7 = .returned (Value.bool b3) ∧ (Ahead w11 w13 ∧ (br (!b3) (Y2 w13)
      (ldS ⟨b10, 0, none⟩ w13 fun s12 => Calls pr fuel_Count_id #[sx.v] w13 fun e8 w15 => ∃ x2 : Int, e8 = .returned (Value.int .i64 x2) ∧ (Ahead w13 w15 ∧ (br (x2 != (s12.n : Int)) (Y3 w15)
      (Calls pr fuel_Last_id #[sx.v] w15 fun e9 w17 => ∃ x3 : Int, e9 = .returned (Value.int .i64 x3) ∧ (Ahead w15 w17 ∧ (br (x3 != last) (Y4 w17)
      (Calls pr fuel_Enough_id #[sx.v, Value.int .i64 p] w17 fun e10 w19 => ∃ b7 : Bool, e10 = .returned (Value.bool b7) ∧ (Ahead w17 w19 ∧
      (Calls pr surdref18_Enough_id #[sn.v, Value.int .i64 p] w19 fun e11 w20 => ∃ b8 : Bool, e11 = .returned (Value.bool b8) ∧ (Ahead w19 w20 ∧ (br (!(b7 == b8)) (Y5 w20) (Q w20))))))))))))))))) := by
  have hle := atts_le N
  have hlen : (tw (atts N)).length ≤ 2 ^ 46 := by rw [tw_length]; omega
  refine ldS_b 0 B10 rfl (Calls.mono (alike_spec ra rq hlen) ?_)
  rintro e w11 ⟨a11, rfl⟩
  refine ⟨_, rfl, a11, br_false rfl (ldS_b 0 (B10.ahead a11) rfl (Calls.mono (alike_spec (rb.ahead a11) (rq.ahead a11) hlen) ?_))⟩
  rintro e w13 ⟨a13, rfl⟩
  have z13 := a11.trans a13
  refine ⟨_, rfl, a13, br_false rfl (ldS_b 0 (B10.ahead z13) rfl (Calls.mono (Count_spec (nx.ahead z13)) ?_))⟩
  rintro e w15 ⟨a15, rfl⟩
  have z15 := z13.trans a15
  have hn := rq.n
  refine ⟨_, rfl, a15, br_false (by rw [hn, tw_length]; simp) (Calls.mono (Last_spec (nx.ahead z15)) ?_)⟩
  rintro e w17 ⟨a17, rfl⟩
  have z17 := z15.trans a17
  refine ⟨_, rfl, a17, br_false (by rw [hlast]; simp) (Calls.mono (Enough_spec (nx.ahead z17)) ?_)⟩
  rintro e w19 ⟨a19, rfl⟩
  have z19 := z17.trans a19
  refine ⟨_, rfl, a19, Calls.mono (rEnough_spec (rn.ahead z19) hl) ?_⟩
  rintro e w20 ⟨a20, rfl⟩
  exact ⟨_, rfl, a20, br_false (by simp) (hQ _ (z19.trans a20))⟩

/-- A store into a row of whole numbers. -/
theorem stBI {t : TypeId} {w : World} {s : Slc} {l : List Int} {b : Nat} (h : Owr .i64 tInt w s l b) {j : Nat} (h1 : j < l.length) {x : Int} {K : World → Prop}
    (hk : ∀ w', Owr .i64 tInt w' s (l.set j x) b → (∀ w0, Ahead w0 w → w0.heap.size ≤ b → Ahead w0 w') → (∀ k, k ≠ b → w'.heap[k]? = w.heap[k]?) → K w')
    (hT : isSl pr t .i64 = some tInt := by kernel_rfl) : semA pr (Instr.indexAt t s.v (.int .i64 (j : Int))) w fun ad w1 => stC ad (.int .i64 x) w1 fun w2 => K w2 := by
  unfold semA
  rw [Sem.wp_iff_run, run_indexAt hT w s j _ h.A (by omega) (by rw [h.n]; simpa using h1)]
  refine ⟨_, rfl, ?_⟩
  rw [add_off, Int.toNat_natCast]
  exact ⟨⟨_, h.cell h1⟩, h.frozen _, hk _ (h.set h1 x) (fun w0 ha hb => Ahead.setCell ha hb) fun k hk => Below.heap_setCell _ _ _ _ (by simpa using hk)⟩
/-- A store into the part of a row of limbs. -/
theorem stX {t : TypeId} {w : World} {sw : Slc} {R : List Nat} {bl n c j : Nat} (h : Owr .u64 tU64 w sw (nn R) bl) (hj : j < n) (hR : 2 + j < R.length) {K : World → Prop}
    (hk : ∀ w', Owr .u64 tU64 w' sw (nn (R.set (2 + j) 0)) bl → (∀ w0, Ahead w0 w → w0.heap.size ≤ bl → Ahead w0 w') → w'.heap.size = w.heap.size → (∀ k, k ≠ bl → w'.heap[k]? = w.heap[k]?) → K w')
    (hT : isSl pr t .u64 = some tU64 := by kernel_rfl) : semA pr (Instr.indexAt t (Slc.v ⟨some ⟨bl, 2, none⟩, n, c⟩) (.int .i64 (j : Int))) w fun ad w1 => stC ad (.int .u64 0) w1 fun w2 => K w2 := by
  unfold semA
  rw [Sem.wp_iff_run, run_indexAt hT w ⟨some ⟨bl, 2, none⟩, n, c⟩ j ⟨bl, 2, none⟩ rfl (by omega) (by show (j : Int) < n; omega)]
  refine ⟨_, rfl, ?_⟩
  have e : (⟨bl, 2, none⟩ : Addr).add ((j : Int)).toNat = ⟨bl, 2 + j, none⟩ := by rw [Int.toNat_natCast]; simp [Addr.add]
  rw [e]
  have hlt : 2 + j < (nn R).length := by simpa using hR
  have ho := h.set hlt ((0 : Nat) : Int)
  rw [nn_set] at ho
  exact ⟨⟨_, h.cell hlt⟩, h.frozen _, hk _ ho (fun w0 ha hb => Ahead.setCell ha hb) (by simp [World.setCell]) fun k hk => Below.heap_setCell _ _ _ _ (by simpa using hk)⟩
/-- append to a row of the call's own: nothing else changes. -/
theorem appI {t ty : TypeId} {base : Nat} {w : World} {s x : Slc} {l ys : List Int} (hT : isSl pr t .i64 = some tInt) (hx : Rd .i64 w x ys) (hy : 0 < ys.length) (hs : OwnI base w s l) (hb : base ≤ w.heap.size) (hsz : (l.length + ys.length) * 8 ≤ 2 ^ 47) {K : Slc → World → Prop}
    (hk : ∀ s' w', s'.n = l.length + ys.length → w.grownBy w' s.v.ownBlock → K s' w') : semS pr (Builtin.append_ #[t, t] ty #[s.v, x.v]) w K := by
  obtain ⟨hu, he, inf, hi, hs1, hb8, hz⟩ := isSl_out hT
  obtain ⟨ad, hA, _⟩ := hx.get 0 hy
  have hrow : w.ownsRow base tInt 1 s.v l.length (ints .i64 l) := by
    rcases hs with ⟨rfl, rfl⟩ | ⟨b, h1, h2, h3⟩
    · exact ⟨rfl, .inl ⟨rfl, rfl⟩⟩
    · exact h3.ownsRow h1 h2
  obtain ⟨v', w', hr, ho, hg, hn⟩ := run_append_own (P := pr) (ty := ty) w base t tInt inf (.int .i64 0) 1 8 hu hi hz hs1 hb8 rfl (by omega) s.v l.length (ints .i64 l) hrow ad ys.length x.c (ints .i64 ys) (by simp [ints])
    (fun j u hj => by
      have hj' : j < ys.length := by
        have := (List.getElem?_eq_some_iff.1 hj).1
        simpa [ints] using this
      obtain ⟨ad', e', hc⟩ := hx.get j hj'
      rw [hA] at e'
      obtain rfl := Option.some.inj e'
      rw [ints_get hj'] at hj
      obtain rfl := Option.some.inj hj
      exact hc) (by simp [ints, Value.oneCell']) (by unfold maxLen; omega) (by omega) hb
  have hne : v' ≠ .slice none 0 0 := fun h => by have := hn.1 h; omega
  have ho' : w'.ownsRow base tInt 1 v' (l ++ ys).length (ints .i64 (l ++ ys)) := by
    simp only [ints, List.map_append, List.length_append]; exact ho
  obtain ⟨s', b', rfl, hb', hc', hown⟩ := own_of_row ho' hne
  unfold semS
  have hxv : x.v = .slice (some ad) ys.length x.c := by rw [Slc.v, hA, hx.n]
  rw [Sem.wp_iff_run, hxv, hr]
  exact ⟨s', rfl, hk s' w' (by rw [hown.n, List.length_append]) hg⟩
theorem ownI_block {base k : Nat} {w : World} {s : Slc} {l : List Int} (h : OwnI base w s l) (hk : some k = s.v.ownBlock) : base ≤ k ∧ s.A = some ⟨k, 0, none⟩ ∧ k < w.heap.size := by
  rcases h with ⟨h1, _⟩ | ⟨b, h1, _, ho⟩
  · rw [h1] at hk; simp [Slc.v, Value.ownBlock] at hk
  · have hA := ho.A
    have hl := ho.lt
    rw [Slc.v, hA] at hk
    simp [Value.ownBlock] at hk
    subst hk
    exact ⟨h1, hA, hl⟩
theorem ownI_keep {base : Nat} {w w' : World} {s : Slc} {l : List Int} (h : OwnI base w s l) (hk : ∀ k, base ≤ k → k < w.heap.size → w'.heap[k]? = w.heap[k]?) : OwnI base w' s l := by
  rcases h with h | ⟨b, h1, h2, h3⟩
  · exact .inl h
  · obtain ⟨sp, hc, hm⟩ := h3.mem
    exact .inr ⟨b, h1, h2, h3.hd, sp, hc, by rw [hk b h1 h3.lt]; exact hm⟩
def isFn (P : Program) (t : TypeId) : Bool := match P.underlying t with
  | some (.func ..) => true
  | _ => false
theorem isFn_out {P : Program} {t : TypeId} (h : isFn P t = true) : ∃ a b c, P.underlying t = some (.func a b c) := by
  unfold isFn at h
  split at h
  · exact ⟨_, _, _, by assumption⟩
  · cases h
theorem run_eq_in {P : Program} {t : TypeId} {a b c} (hu : P.underlying t = some (.func a b c)) (w : World) (f : Fn) (x y : Array Value) (d : Nat) : (Op.equalIn (d + 1) t (.func f x y) .nilFunc).run P w = .ok false w := by
  rw [Op.equalIn]
  rw [Sem.run_bind, run_underlying hu]
  rfl
theorem run_eq_nil {P : Program} {t : TypeId} (h : isFn P t = true) (w : World) (f : Fn) (x y : Array Value) : (binOp .eql t (.func f x y) .nilFunc).run P w = .ok (.bool false) w := by
  obtain ⟨a, b, c, hu⟩ := isFn_out h
  have e := run_eq_in hu w f x y 9999
  have e1 : (binOp .eql t (.func f x y) .nilFunc) = (do pure (.bool (← Op.equal t (.func f x y) .nilFunc))) := rfl
  rw [e1, Sem.run_bind]
  have e2 : Op.equal t (.func f x y) .nilFunc = Op.equalIn (9999 + 1) t (.func f x y) .nilFunc := rfl
  rw [e2, e]
  rfl
theorem eq_nil {w : World} {Bs : Nat} {t : TypeId} {K : Bool → World → Prop} (hk : K false w) (hr : isFn pr t = true := by kernel_rfl) : semB pr (binOp .eql t (ItV Bs) Value.nilFunc) w K := by
  unfold semB
  have e := run_eq_nil hr w (.func 50) #[] #[.pointer (some ⟨Bs, 0, none⟩)]
  unfold ItV
  rw [Sem.wp_iff_run, e]
  exact ⟨false, rfl, hk⟩
end Fuel
end Go.Proofs.Ytflipimlpgbnmaa
namespace Go.Proofs.Ytflipimlpgbnmaa
open Go Go.RowKit Eng Sp Dg
set_option linter.unusedVariables false
set_option linter.unusedSimpArgs false
set_option maxRecDepth 100000
namespace Fuel
open _root_.Go.Proofs.Ytflipimlpgbnmaa.Nat (Num Num.ahead Yes awake_spec OwnI OwnI.rd OwnI.ahead OwnI.mono tw tw_length atts atts_le Attempts_spec alike_spec num_of)
open _root_.Go.Proofs.Ytflipimlpgbnmaa.Ref (RN RN.ahead Lent Lent.part Lent.whole Lent.ahead Lend_spec Of_spec Kept_spec lent lent_length len32)
open Sb

/-- What lies in memory while the lists are looked at. -/
structure PS (w : World) (a2 : Int) (N : Nat) (l0 : List Nat) (b5 b6 b10 lo : Nat) (sq t7 t8 : Slc) (w3 wE : World) : Prop where
  o1 : w.heap.size ≤ b5
  o2 : b5 < b6
  o3 : b6 < w3.heap.size
  o4 : w3.heap.size ≤ b10
  o5 : b10 < wE.heap.size
  a3 : Ahead w w3
  aE : Ahead w3 wE
  st : Blk wE b5 #[.int .i64 a2]
  rs : Blk wE b6 #[.bool false]
  wn : Blk wE b10 #[sq.v]
  rd : RdB w3.heap.size b10 wE sq (tw (atts N))
  ln : Lent (b6 + 1) w3 t7 t8 l0

set_option maxHeartbeats 4000000 in
theorem FuelAttempts_ok {w : World} {s0 : Slc} {l0 : List Nat} {x1 x2 : Int} (r0 : Rd .u64 w s0 (nn l0)) (o0 : ok B64 l0) (n0 : l0.length * 8 ≤ 140737488351232) (hk1 : -9223372036854775808 ≤ x1 ∧ x1 ≤ 9223372036854775807) (hk2 : -9223372036854775808 ≤ x2 ∧ x2 ≤ 9223372036854775807) :
    Calls pr surdlaw18_FuelAttempts_id #[s0.v, .int .i64 x1, .int .i64 x2] w (Yes w) := by
  have hl32 : (digs B32 (val B64 l0)).length ≤ 2 ^ 46 := by have := len32 o0; omega
  have hle := atts_le (val B64 l0)
  refine surdlaw18_FuelAttempts_vc s0 x1 x2 w _
    (fun t0 t5 t6 t7 t8 t10 t11 t12 t77 t78 w' => s0 = t0 ∧ t77 = (atts (val B64 l0) : Int) ∧ ∃ (b5 b6 b10 lo : Nat) (sq : Slc) (w3 wE : World) (L : List Int) (i m : Nat), t5 = ⟨b5, 0, none⟩ ∧ t6 = ⟨b6, 0, none⟩ ∧ t10 = ⟨b10, 0, none⟩ ∧ t78 = (i : Int) ∧ i ≤ atts (val B64 l0) ∧ L.length = atts (val B64 l0) ∧
      PS w x2 (val B64 l0) l0 b5 b6 b10 lo sq t7 t8 w3 wE ∧ Ahead wE w' ∧ OwnI wE.heap.size w' t11 L ∧ OwnI m w' t12 (tw (atts (val B64 l0))) ∧ (∀ k, t11.A = some ⟨k, 0, none⟩ → k < m))
    (fun _ _ _ _ _ _ _ _ n i _ => (n - i).toNat)
    (fun t5 t6 t8 t10 t15 t118 t119 w' => t118 = (l0.length : Int) ∧ ∃ (b5 b6 b10 lo hi bl : Nat) (sq sw : Slc) (R : List Nat) (j c : Nat), t5 = ⟨b5, 0, none⟩ ∧ t6 = ⟨b6, 0, none⟩ ∧ t10 = ⟨b10, 0, none⟩ ∧ t119 = (j : Int) ∧ j ≤ l0.length ∧ R.length = l0.length + 4 ∧ t8 = ⟨some ⟨bl, 2, none⟩, l0.length, c⟩ ∧
      w.heap.size ≤ b5 ∧ b5 < b6 ∧ b6 < bl ∧ bl < lo ∧ bl < b10 ∧ b10 < hi ∧ hi ≤ w'.heap.size ∧ Ahead w w' ∧ Owr .u64 tU64 w' sw (nn R) bl ∧ Blk w' b5 #[.int .i64 x2] ∧ (∃ r, Blk w' b6 #[.bool r]) ∧ Blk w' b10 #[sq.v] ∧ RdB lo hi w' sq (tw (atts (val B64 l0))) ∧ It lo hi w' t15 (tw (atts (val B64 l0))))
    (fun _ _ _ _ _ n i _ => (n - i).toNat) ?_ ?_ ?_
  · refine newC_b fun b5 w1 hb5 h1 hs1 B5 => newC_b fun b6 w2 hb6 h2 hs2 B6 => ?_
    have a2 := h1.trans h2
    refine Calls.mono (Lend_spec (r0.ahead a2) n0 o0) ?_
    rintro e w3 ⟨h3, sw, sx, rfl, Ln⟩
    have a3 := a2.trans h3
    refine ⟨_, _, rfl, Calls.mono (Of_spec (r0.ahead a3) n0 o0) ?_⟩
    rintro e w4 ⟨h4, sn, rfl, rn⟩
    refine ⟨_, rfl, Calls.mono (rAttempts_spec rn hl32) ?_⟩
    rintro e w5 ⟨h5, sq, rfl, oq⟩
    refine ⟨_, rfl, newC_b fun b10 w6 hb10 h6 hs6 B10 => stC_b 0 B10 (by simp) rfl fun w7 u7 B7 => ?_⟩
    have h57 : Ahead w5 w7 := u7.ahead h6 (by omega)
    have h37 := (h4.trans h5).trans h57
    have nx : Num w7 sx (val B64 l0) := (num_of Ln.part o0 n0).ahead h37
    refine Calls.mono (Attempts_spec nx) ?_
    rintro e w8 ⟨h8, s5, rfl, o5⟩
    refine ⟨_, rfl, Calls.mono (Attempts_spec (nx.ahead h8)) ?_⟩
    rintro e w9 ⟨h9, s6, rfl, o6⟩
    have h79 := h8.trans h9
    have h29 := h3.trans (h37.trans h79)
    have rq9 := (oq.rd.ahead h57).ahead h79
    have sz1 := h3.size; have sz2 := h4.size; have sz3 := h5.size; have sz7 := u7.size
    have B7l := B7.lt
    have hq : RdB w3.heap.size b10 w7 sq (tw (atts (val B64 l0))) := ⟨oq.rd.ahead h57, by
      rcases oq with h | ⟨b, q1, _, q2⟩
      · exact .inl h
      · have := q2.lt
        exact .inr ⟨b, q2.A, by omega, by omega⟩⟩
    have hPS : PS w x2 (val B64 l0) l0 b5 b6 b10 0 sq sw sx w3 w7 := ⟨by omega, by omega, by have := B6.lt; omega, by omega, B7l, a3, h37, (B5.ahead (h2.trans h3)).ahead h37, (B6.ahead h3).ahead h37, B7, hq, by
      obtain ⟨b, q1, q2⟩ := Ln
      exact ⟨b, by have := B6.lt; omega, q2⟩⟩
    have fin : ∀ wd w', Ahead w9 wd → Ahead wd w' → (s0 = s0 ∧ (s5.n : Int) = (atts (val B64 l0) : Int) ∧ ∃ (b5' b6' b10' lo : Nat) (sq' : Slc) (w3 wE : World) (L : List Int) (i m : Nat), (⟨b5, 0, none⟩ : Addr) = ⟨b5', 0, none⟩ ∧ (⟨b6, 0, none⟩ : Addr) = ⟨b6', 0, none⟩ ∧ (⟨b10, 0, none⟩ : Addr) = ⟨b10', 0, none⟩ ∧ (0 : Int) = (i : Int) ∧ i ≤ atts (val B64 l0) ∧ L.length = atts (val B64 l0) ∧
        PS w x2 (val B64 l0) l0 b5' b6' b10' lo sq' sw sx w3 wE ∧ Ahead wE w' ∧ OwnI wE.heap.size w' s5 L ∧ OwnI m w' s6 (tw (atts (val B64 l0))) ∧ (∀ k, s5.A = some ⟨k, 0, none⟩ → k < m)) := by
      intro wd w' hd hd'
      have hz := hd.trans hd'
      refine ⟨rfl, by rw [o5.rd.n, tw_length], b5, b6, b10, 0, sq, w3, w7, _, 0, w8.heap.size, rfl, rfl, rfl, rfl, Nat.zero_le _, tw_length _, hPS, h79.trans hz, (o5.ahead h9).ahead hz, o6.ahead hz, fun k hk => ?_⟩
      rcases o5 with ⟨q1, _⟩ | ⟨b, _, _, q2⟩
      · rw [q1] at hk; cases hk
      · have := q2.lt
        have e : b = k := congrArg Addr.block (Option.some.inj (q2.A.symm.trans hk))
        omega
    have tl : ∀ wd, Ahead w9 wd → ∀ {last : Int} {Y1 Y2 Y3 Y4 Y5 Q : World → Prop}, last = lastOf (val B64 l0) → (∀ w', Ahead wd w' → Q w') → _ := fun wd hd {last Y1 Y2 Y3 Y4 Y5 Q} hlast hQ =>
      pre_tail (p := x1) ((B7.ahead h79).ahead hd) (rq9.ahead hd) ((o5.rd.ahead h9).ahead hd) (o6.rd.ahead hd) ((nx.ahead h79).ahead hd) ((rn.ahead ((h5.trans h57).trans h79)).ahead hd) hl32 hlast (Y1 := Y1) (Y2 := Y2) (Y3 := Y3) (Y4 := Y4) (Y5 := Y5) hQ
    have hsq := rq9.n
    refine ⟨_, rfl, ldS_b 0 (B7.ahead h79) rfl (br_intro (fun hp => ?_) (fun hp => ?_))⟩
    · have h0 : 0 < atts (val B64 l0) := by have := of_decide_eq_true hp; rw [hsq, tw_length] at this; omega
      refine ldS_b 0 (B7.ahead h79) rfl (ldS_b 0 (B7.ahead h79) rfl ?_)
      rw [hsq, tw_length, wrap_i64 (by omega) (by omega)]
      refine ix_ld (e := tInt) (k := .i64) (by kernel_rfl) rq9 (by omega) (by rw [tw_length]; omega) ?_
      rw [show ((atts (val B64 l0) : Int) - 1).toNat = atts (val B64 l0) - 1 by omega]
      exact tl w9.drew (Ahead.drew w9) (by rw [lastOf, if_neg (by omega)]) (fun w' ha => fin _ w' (Ahead.drew w9) ha)
    · have h0 : atts (val B64 l0) = 0 := by have := of_decide_eq_false hp; rw [hsq, tw_length] at this; omega
      exact tl w9.drew (Ahead.drew w9) (by rw [lastOf, if_pos h0]) (fun w' ha => fin _ w' (Ahead.drew w9) ha)
  · rintro t0 t5 t6 t7 t8 t10 t11 t12 t77 t78 w1 ⟨rfl, rfl, b5, b6, b10, lo, sq, w3, wE, L, i, m, rfl, rfl, rfl, rfl, hi, hL, P, aE, oa, ob, hm⟩
    refine br_intro (fun hlt => ?_) (fun hge => ?_)
    · have hi' : i < atts (val B64 l0) := by have := of_decide_eq_true hlt; omega
      have e8 : IntKind.i64.wrap ((i : Int) + 1) = ((i + 1 : Nat) : Int) := by rw [wrap_i64 (by omega) (by omega)]; omega
      rcases oa with ⟨_, h0⟩ | ⟨ba, q1, q2, q3⟩
      · rw [h0] at hL; simp at hL; omega
      · refine stBI q3 (by omega) fun w2 q4 ah keep => ⟨⟨rfl, rfl, b5, b6, b10, lo, sq, w3, wE, _, i + 1, m, rfl, rfl, rfl, e8, hi', by simp [hL], P, ah wE aE q1, .inr ⟨ba, q1, q2, q4⟩, ownI_keep ob fun k hk _ => keep k (by have := hm ba q3.A; omega), hm⟩, by rw [e8]; omega⟩
    · have hx := Ahead.alloc w1 (.cells (ints .i64 [1, 2, 3]).toArray tInt (0, 0))
      have hT3 : (tw (atts (val B64 l0))).length ≤ 2 ^ 46 := by rw [tw_length]; omega
      refine appI (base := wE.heap.size) (x := ⟨some ⟨w1.heap.size, 0, none⟩, 3, 3⟩) (by kernel_rfl) (Nat.lit_rd .i64 tInt w1 [1, 2, 3]) (by simp) (oa.ahead hx) ((aE.trans hx).size) (by simp [hL]; omega) fun s13 w2 hs13 hg => ?_
      have aE2 : Ahead wE w2 := Below.grown (aE.trans hx) hg (aE.trans hx).size fun k hk => (ownI_block (oa.ahead hx) hk.symm).1
      have ob2 : OwnI m w2 t12 (tw (atts (val B64 l0))) := ownI_keep (ob.ahead hx) fun k hk hk2 => hg.block k hk2 fun e => by
        have := hm k (ownI_block (oa.ahead hx) e).2.1
        omega
      have d2 := Ahead.drew w2
      have aD := aE2.trans d2
      have rqE := P.rd.rd
      refine ldS_b 0 (P.wn.ahead aD) rfl (Calls.mono (alike_spec (ob2.rd.ahead d2) (rqE.ahead aD) hT3) ?_)
      rintro e w26 ⟨a26, rfl⟩
      have z26 := aD.trans a26
      have n8 : Num wE t8 (val B64 l0) := (num_of P.ln.part o0 n0).ahead P.aE
      refine ⟨_, rfl, a26, br_false rfl (ldS_b 0 (P.wn.ahead z26) rfl (Calls.mono (Attempts_spec (n8.ahead z26)) ?_))⟩
      rintro e w28 ⟨a28, s16, rfl, o16⟩
      refine ⟨_, rfl, a28, Calls.mono (alike_spec o16.rd ((rqE.ahead z26).ahead a28) hT3) ?_⟩
      rintro e w29 ⟨a29, rfl⟩
      have z29 := (z26.trans a28).trans a29
      have hsq := rqE.n
      refine ⟨_, rfl, a29, br_false rfl (ldS_b 0 (P.wn.ahead z29) rfl ?_)⟩
      rw [hsq, tw_length, hs13, hL, wrap_i64 (by omega) (by omega)]
      refine br_false (by simp) (Calls.mono (All_spec (n8.ahead z29)) ?_)
      rintro e w32 ⟨a32, Bs, rfl, it⟩
      refine ⟨_, rfl, eq_nil (br_false rfl ?_)⟩
      have z32 := z29.trans a32
      have wz := (P.a3.trans P.aE).trans z32
      refine Calls.mono (Kept_spec (((P.ln.ahead P.aE).ahead z32).whole) (r0.ahead wz) n0) ?_
      rintro e w35 ⟨rfl, rfl⟩
      obtain ⟨bl, q1, q2, q3, rfl⟩ := P.ln
      have q3l := q3.lt
      have p1 := P.o1; have p2 := P.o2; have p3 := P.o3; have p4 := P.o4; have p5 := P.o5
      have s1 := P.aE.size; have s2 := z29.size; have s3 := a32.size
      refine ⟨_, rfl, br_false rfl ⟨rfl, b5, b6, b10, w3.heap.size, w35.heap.size, bl, sq, t7, _, 0, _, rfl, rfl, rfl, rfl, Nat.zero_le _, lent_length _, rfl, p1, p2, by omega, by omega, by omega, by omega, Nat.le_refl _, wz, (q3.ahead P.aE).ahead z32, P.st.ahead z32, ⟨_, P.rs.ahead z32⟩, P.wn.ahead z32, ?_, ?_⟩⟩
      · have h := P.rd.kin (below_kin (lo := w3.heap.size) (hi := b10) (Below.mono z32 (by omega)))
        refine ⟨h.rd, ?_⟩
        rcases h.at_ with h | ⟨b, h1, h2, h3⟩
        · exact .inl h
        · exact .inr ⟨b, h1, h2, by omega⟩
      · obtain ⟨B', s', k1, k2, k3, k4, k5⟩ := it.ex
        refine ⟨B', s', k1, by omega, k3, k4, k5.rd, ?_⟩
        rcases k5.at_ with h | ⟨b, h1, h2, h3⟩
        · exact .inl h
        · exact .inr ⟨b, h1, by omega, h3⟩
  · rintro t5 t6 t8 t10 t15 t118 t119 w1 ⟨rfl, b5, b6, b10, lo, hi, bl, sq, sw, R, j, c, rfl, rfl, rfl, rfl, hj, hR, rfl, p1, p2, p3, p4, p5, p6, p7, aw, ow, B5, B6, B10, rd, it⟩
    refine br_intro (fun hlt => ?_) (fun hge => ?_)
    · have hj' : j < l0.length := by have := of_decide_eq_true hlt; omega
      have e8 : IntKind.i64.wrap ((j : Int) + 1) = ((j + 1 : Nat) : Int) := by rw [wrap_i64 (by omega) (by omega)]; omega
      refine stX ow hj' (by omega) fun w2 ow2 ah hsz keep => ⟨⟨rfl, b5, b6, b10, lo, hi, bl, sq, sw, _, j + 1, c, rfl, rfl, rfl, e8, hj', by simp [hR], rfl, p1, p2, p3, p4, p5, p6, by omega, ah w aw (by omega), ow2, blk_keep B5 (keep _ (by omega)), ?_, blk_keep B10 (keep _ (by omega)), rd.kin fun k hk _ => keep k (by omega), it.kin fun k hk _ => keep k (by omega)⟩, by rw [e8]; omega⟩
      obtain ⟨r, B6⟩ := B6
      exact ⟨r, blk_keep B6 (keep _ (by omega))⟩
    · refine newC_b fun bk w2 hbk h2 hs2 Bk => stC_b 0 Bk (by simp) rfl fun w3 u3 B3 => ?_
      have a3 : Ahead w1 w3 := u3.ahead h2 (by omega)
      obtain ⟨r, B6⟩ := B6
      have hkin : Kin lo hi w1 w3 := fun k _ hk => Below.block a3 k (by omega)
      have ls : LS w b5 b6 b10 bk lo hi x2 sq (tw (atts (val B64 l0))) t15 0 w3 := ⟨aw.trans a3, B3, ⟨r, B6.ahead a3⟩, B5.ahead a3, B10.ahead a3, rd.kin hkin, it.kin hkin⟩
      have o : Ord w b5 b6 b10 bk lo hi (tw (atts (val B64 l0))) := ⟨p1, p2, by omega, ⟨by omega, p6⟩, by omega, by rw [tw_length]; omega⟩
      have hord := ls.ord
      have hlt3 := ls.lt
      have hws := ls.a.size
      obtain ⟨lb, hv, hit⟩ := ls.it.iterP (by omega) o.o6
      -- over again
      have again : ∀ (i D : Nat) (W : World), LS w b5 b6 b10 bk lo hi x2 sq (tw (atts (val B64 l0))) t15 i W → w3.heap.size ≤ D → W.heap[D]? = some (Obj.deferred (some [])) → ∀ {Y : World → Prop}, (∀ W', LS w b5 b6 b10 bk lo hi x2 sq (tw (atts (val B64 l0))) t15 0 W' → W'.heap[D]? = some (Obj.deferred (some [])) → Y W') → stC ⟨bk, 0, none⟩ (.int .i64 0) W fun w49 => Y w49 := by
        intro i D W hls hD hd Y hY
        refine stC_b 0 hls.k (by simp) rfl fun W' u B => hY W' (hls.next o u B) ?_
        rw [u.only.2.2.2.2 D (by omega)]; exact hd
      refine ⟨_, lb, _, _, _, _, (fun pre W' => pre = prs (tw (atts (val B64 l0))) pre.length ∧ pre.length ≤ (tw (atts (val B64 l0))).length ∧ LS w b5 b6 b10 bk lo hi x2 sq (tw (atts (val B64 l0))) t15 pre.length W'), (fun pre W' => pre ≠ prs (tw (atts (val B64 l0))) pre.length), (fun _ pre W' => (pre.length : Int) = x2 ∧ LS w b5 b6 b10 bk lo hi x2 sq (tw (atts (val B64 l0))) t15 pre.length W'), hv, hit, fun _ _ => rfl, ?_, fun _ _ _ _ h _ _ => h, ?_, ⟨rfl, Nat.zero_le _, ls⟩, ?_, ?_, ?_, ?_, trivial⟩
      · rintro pre A B row ⟨h1, h2, h3⟩ hg hr
        exact ⟨h1, h2, h3.ownFrom o hg hr hlt3⟩
      · rintro _ pre A B row ⟨h1, h3⟩ hg hr
        exact ⟨h1, h3.ownFrom o hg hr hlt3⟩
      · rintro pre x y W1 ⟨h1, h2, h3⟩ hl
        refine round h3.k h3.r h3.wn h3.rd.rd hl o.o6 (fun hx hy W' u B => ?_) (fun hbad W' u hb => ⟨keepsFrom u (by omega), fun e => hbad (prs_bad e)⟩)
        have hn := h3.next o u B
        refine ldI_b 0 hn.k rfl (ldI_b 0 hn.st rfl (br_intro (fun he => ?_) (fun he => ?_)))
        · exact ⟨by simp, keepsFrom u (by omega), by have := eq_of_beq he; rw [List.length_append, List.length_singleton]; exact this, by rw [List.length_append, List.length_singleton]; exact hn⟩
        · exact ⟨keepsFrom u (by omega), belowU u (by omega), prs_snoc h1 hx hy, by simp at hl ⊢; omega, by rw [List.length_append, List.length_singleton]; exact hn⟩
      · rintro D xs W1 hDs hS ⟨h1, h2, h3⟩ hd
        have hlen : xs.length = (tw (atts (val B64 l0))).length := by rw [hS, prs_length]
        have hn := h3.rd.rd.n
        exact ldI_b 0 h3.k rfl (ldS_b 0 h3.wn rfl (br_false (by rw [hn, hlen]; simp) (again _ D W1 h3 hDs hd fun W' l' d' => loop2 l' o d' (by omega))))
      · rintro D pre W1 hDs ⟨k, hk, hpre⟩ hx hd
        refine absurd ?_ hx
        rw [hpre, prs_length]
      · rintro D pre W1 hDs ⟨k, hk, hpre⟩ ⟨hst, h3⟩ hd
        refine ldI_b 0 h3.k rfl (ldS_b 0 h3.wn rfl (br_intro (fun _ => ldI_b 0 h3.k rfl (ldI_b 0 h3.st rfl (br_false (by rw [hst]; simp) ?_))) (fun _ => ?_)))
        · exact again _ D W1 h3 hDs hd fun W' l' d' => loop2 l' o d' (by omega)
        · exact again _ D W1 h3 hDs hd fun W' l' d' => loop2 l' o d' (by omega)
end Fuel
end Go.Proofs.Ytflipimlpgbnmaa
