/- Verification conditions of some of the program's functions, printed by a program of this session. No condition. -/
import Derived.Test.YtaflfjbhlgbmdaaProg
import Derived.Test.YtaflfjbhlgbmdaaEng
namespace Go.Proofs.Ytaflfjbhlgbmdaa
open Go Go.RowKit Eng
set_option linter.unusedVariables false

set_option maxRecDepth 100000 in
/-- surd/nat.And: function 32. -/
theorem nat_And_vc (a0_a : Slc) (a1_b : Slc) (w : World) (R : Ending → World → Prop)
    
    (h : Calls Try.prog 51 #[a0_a.v, a1_b.v, Value.func (Fn.func 52) #[] #[]] w fun e1 w1 =>
    ∃ s1 : Slc, e1 = .returned s1.v ∧
    (R (.returned s1.v) w1)) :
    Calls Try.prog 32 #[a0_a.v, a1_b.v] w R := by
  refine calls_of_vc (fun _ => none) (by kernel_rfl) Try.func32 rfl ?_ ?_
  · refine kcast h ?_; kernel_rfl
  · exact (obl_seq (obl_reg (obl_seq (obl_reg (obl_ret trivial)))))

set_option maxRecDepth 100000 in
/-- surd/nat.Or: function 33. -/
theorem nat_Or_vc (a0_a : Slc) (a1_b : Slc) (w : World) (R : Ending → World → Prop)
    
    (h : Calls Try.prog 51 #[a0_a.v, a1_b.v, Value.func (Fn.func 53) #[] #[]] w fun e1 w1 =>
    ∃ s1 : Slc, e1 = .returned s1.v ∧
    (R (.returned s1.v) w1)) :
    Calls Try.prog 33 #[a0_a.v, a1_b.v] w R := by
  refine calls_of_vc (fun _ => none) (by kernel_rfl) Try.func33 rfl ?_ ?_
  · refine kcast h ?_; kernel_rfl
  · exact (obl_seq (obl_reg (obl_seq (obl_reg (obl_ret trivial)))))

set_option maxRecDepth 100000 in
/-- surd/nat.Xor: function 34. -/
theorem nat_Xor_vc (a0_a : Slc) (a1_b : Slc) (w : World) (R : Ending → World → Prop)
    
    (h : Calls Try.prog 51 #[a0_a.v, a1_b.v, Value.func (Fn.func 54) #[] #[]] w fun e1 w1 =>
    ∃ s1 : Slc, e1 = .returned s1.v ∧
    (R (.returned s1.v) w1)) :
    Calls Try.prog 34 #[a0_a.v, a1_b.v] w R := by
  refine calls_of_vc (fun _ => none) (by kernel_rfl) Try.func34 rfl ?_ ?_
  · refine kcast h ?_; kernel_rfl
  · exact (obl_seq (obl_reg (obl_seq (obl_reg (obl_ret trivial)))))

def nat_both__nat_And_1_cut (J0 : Slc → Slc → Slc → Int → Int → World → Prop) (m0 : Slc → Slc → Slc → Int → Int → World → Nat) : Nat → Option ((Act → World → Prop) × (Act → World → Nat))
  | 0 => some (fun a_ w_ => atSz a_ 48 (atF 52 a_ 2 <| atS a_ 0 fun t0_a => atS a_ 1 fun t1_b => atS a_ 7 fun t7_c => atI .i64 a_ 18 fun t18 => atI .i64 a_ 19 fun t19 => J0 t0_a t1_b t7_c t18 t19 w_), fun a_ w_ => mS a_ 0 fun t0_a => mS a_ 1 fun t1_b => mS a_ 7 fun t7_c => mI a_ 18 fun t18 => mI a_ 19 fun t19 => m0 t0_a t1_b t7_c t18 t19 w_)
  | _ => none

set_option maxRecDepth 100000 in
/-- surd/nat.both: function 51. -/
theorem nat_both__nat_And_1_vc (a0_a : Slc) (a1_b : Slc) (w : World) (R : Ending → World → Prop)
    (J0 : Slc → Slc → Slc → Int → Int → World → Prop) (m0 : Slc → Slc → Slc → Int → Int → World → Nat)
    (h : semS Try.prog (Instr.makeSlice 24 (Value.int .i64 (maxI (a0_a.n : Int) (a1_b.n : Int))) (Value.int .i64 (maxI (a0_a.n : Int) (a1_b.n : Int)))) w fun s1 w1 =>
    J0 a0_a a1_b s1 (s1.n : Int) 0 w1)
    (h0 : ∀ (t0_a : Slc) (t1_b : Slc) (t7_c : Slc) (t18 : Int) (t19 : Int) (w_ : World), J0 t0_a t1_b t7_c t18 t19 w_ → 
    br (decide (t19 < t18))
    (br (decide (t19 < (t0_a.n : Int)))
      (semA Try.prog (Instr.indexAt 24 t0_a.v (Value.int .i64 t19)) w_ fun ad1 w2 =>
        ldI .u64 ad1 w2 fun x1 =>
        br (decide (t19 < (t1_b.n : Int)))
        (semA Try.prog (Instr.indexAt 24 t1_b.v (Value.int .i64 t19)) w2 fun ad2 w3 =>
          ldI .u64 ad2 w3 fun x2 =>
          Calls Try.prog 52 #[Value.int .u64 x1, Value.int .u64 x2] w3 fun e1 w4 =>
          ∃ x3 : Int, e1 = .returned (Value.int .u64 x3) ∧
          (semA Try.prog (Instr.indexAt 24 t7_c.v (Value.int .i64 t19)) w4 fun ad3 w5 =>
            stC ad3 (Value.int .u64 x3) w5 fun w6 =>
            J0 t0_a t1_b t7_c t18 (IntKind.i64.wrap (t19 + 1)) w6 ∧
            m0 t0_a t1_b t7_c t18 (IntKind.i64.wrap (t19 + 1)) w6 < m0 t0_a t1_b t7_c t18 t19 w_))
        (Calls Try.prog 52 #[Value.int .u64 x1, Value.int .u64 0] w2 fun e2 w7 =>
          ∃ x4 : Int, e2 = .returned (Value.int .u64 x4) ∧
          (semA Try.prog (Instr.indexAt 24 t7_c.v (Value.int .i64 t19)) w7 fun ad4 w8 =>
            stC ad4 (Value.int .u64 x4) w8 fun w9 =>
            J0 t0_a t1_b t7_c t18 (IntKind.i64.wrap (t19 + 1)) w9 ∧
            m0 t0_a t1_b t7_c t18 (IntKind.i64.wrap (t19 + 1)) w9 < m0 t0_a t1_b t7_c t18 t19 w_)))
      (br (decide (t19 < (t1_b.n : Int)))
        (semA Try.prog (Instr.indexAt 24 t1_b.v (Value.int .i64 t19)) w_ fun ad5 w10 =>
          ldI .u64 ad5 w10 fun x5 =>
          Calls Try.prog 52 #[Value.int .u64 0, Value.int .u64 x5] w10 fun e3 w11 =>
          ∃ x6 : Int, e3 = .returned (Value.int .u64 x6) ∧
          (semA Try.prog (Instr.indexAt 24 t7_c.v (Value.int .i64 t19)) w11 fun ad6 w12 =>
            stC ad6 (Value.int .u64 x6) w12 fun w13 =>
            J0 t0_a t1_b t7_c t18 (IntKind.i64.wrap (t19 + 1)) w13 ∧
            m0 t0_a t1_b t7_c t18 (IntKind.i64.wrap (t19 + 1)) w13 < m0 t0_a t1_b t7_c t18 t19 w_))
        (Calls Try.prog 52 #[Value.int .u64 0, Value.int .u64 0] w_ fun e4 w14 =>
          ∃ x7 : Int, e4 = .returned (Value.int .u64 x7) ∧
          (semA Try.prog (Instr.indexAt 24 t7_c.v (Value.int .i64 t19)) w14 fun ad7 w15 =>
            stC ad7 (Value.int .u64 x7) w15 fun w16 =>
            J0 t0_a t1_b t7_c t18 (IntKind.i64.wrap (t19 + 1)) w16 ∧
            m0 t0_a t1_b t7_c t18 (IntKind.i64.wrap (t19 + 1)) w16 < m0 t0_a t1_b t7_c t18 t19 w_))))
    (Calls Try.prog 44 #[t7_c.v] w_ fun e5 w17 =>
      ∃ s2 : Slc, e5 = .returned s2.v ∧
      (R (.returned s2.v) w17))) :
    Calls Try.prog 51 #[a0_a.v, a1_b.v, Value.func (Fn.func 52) #[] #[]] w R := by
  refine calls_of_vc (nat_both__nat_And_1_cut J0 m0) (by kernel_rfl) Try.func51 rfl ?_ ?_
  · refine kcast h ?_; kernel_rfl
  · exact (obl_seq (obl_reg (obl_seq (obl_reg (obl_seq (obl_seq (obl_reg (obl_loop _ rfl (fun a_ w_ hL_ => (by
    obtain ⟨hz_, hd_, hL_⟩ := atSz_out hL_
    obtain ⟨h2_, hL_⟩ := atF_out hL_
    obtain ⟨t0_a, h0_, hL_⟩ := atS_out hL_
    obtain ⟨t1_b, h1_, hL_⟩ := atS_out hL_
    obtain ⟨t7_c, h7_, hL_⟩ := atS_out hL_
    obtain ⟨t18, h18_, hL_⟩ := atI_out hL_
    obtain ⟨t19, h19_, hL_⟩ := atI_out hL_
    obtain ⟨g0, rfl⟩ : ∃ g, a_ = Fr 48 [(2, Value.func (Fn.func 52) #[] #[]), (0, t0_a.v), (1, t1_b.v), (7, t7_c.v), (18, Value.int .i64 t18), (19, Value.int .i64 t19)] g := ⟨_, fr_of hz_ hd_ [(2, Value.func (Fn.func 52) #[] #[]), (0, t0_a.v), (1, t1_b.v), (7, t7_c.v), (18, Value.int .i64 t18), (19, Value.int .i64 t19)] (sel_cons h2_ (sel_cons h0_ (sel_cons h1_ (sel_cons h7_ (sel_cons h18_ (sel_cons h19_ sel_nil))))))⟩
    clear hz_ hd_ h2_ h0_ h1_ h7_ h18_ h19_
    have hJ0_ := hL_
    refine ⟨(fun _ => none), kcast (h0 t0_a t1_b t7_c t18 t19 w_ hJ0_) ?_, ?_⟩
    · kernel_rfl
    · exact (obl_seq (obl_reg (obl_seq (obl_cond (obl_skip (obl_exit (obl_seq (obl_blk rfl (obl_seq (obl_reg (obl_seq (obl_reg (obl_seq (obl_seq (obl_reg (obl_cond (obl_reg (obl_skip (obl_seq (obl_seq (obl_reg (obl_cond (obl_reg (obl_skip (obl_reg (obl_reg trivial)))))))))))))))))))))))))))) (obl_seq (obl_reg (obl_ret trivial)))))))))))

def nat_both__nat_Or_1_cut (J0 : Slc → Slc → Slc → Int → Int → World → Prop) (m0 : Slc → Slc → Slc → Int → Int → World → Nat) : Nat → Option ((Act → World → Prop) × (Act → World → Nat))
  | 0 => some (fun a_ w_ => atSz a_ 48 (atF 53 a_ 2 <| atS a_ 0 fun t0_a => atS a_ 1 fun t1_b => atS a_ 7 fun t7_c => atI .i64 a_ 18 fun t18 => atI .i64 a_ 19 fun t19 => J0 t0_a t1_b t7_c t18 t19 w_), fun a_ w_ => mS a_ 0 fun t0_a => mS a_ 1 fun t1_b => mS a_ 7 fun t7_c => mI a_ 18 fun t18 => mI a_ 19 fun t19 => m0 t0_a t1_b t7_c t18 t19 w_)
  | _ => none

set_option maxRecDepth 100000 in
/-- surd/nat.both: function 51. -/
theorem nat_both__nat_Or_1_vc (a0_a : Slc) (a1_b : Slc) (w : World) (R : Ending → World → Prop)
    (J0 : Slc → Slc → Slc → Int → Int → World → Prop) (m0 : Slc → Slc → Slc → Int → Int → World → Nat)
    (h : semS Try.prog (Instr.makeSlice 24 (Value.int .i64 (maxI (a0_a.n : Int) (a1_b.n : Int))) (Value.int .i64 (maxI (a0_a.n : Int) (a1_b.n : Int)))) w fun s1 w1 =>
    J0 a0_a a1_b s1 (s1.n : Int) 0 w1)
    (h0 : ∀ (t0_a : Slc) (t1_b : Slc) (t7_c : Slc) (t18 : Int) (t19 : Int) (w_ : World), J0 t0_a t1_b t7_c t18 t19 w_ → 
    br (decide (t19 < t18))
    (br (decide (t19 < (t0_a.n : Int)))
      (semA Try.prog (Instr.indexAt 24 t0_a.v (Value.int .i64 t19)) w_ fun ad1 w2 =>
        ldI .u64 ad1 w2 fun x1 =>
        br (decide (t19 < (t1_b.n : Int)))
        (semA Try.prog (Instr.indexAt 24 t1_b.v (Value.int .i64 t19)) w2 fun ad2 w3 =>
          ldI .u64 ad2 w3 fun x2 =>
          Calls Try.prog 53 #[Value.int .u64 x1, Value.int .u64 x2] w3 fun e1 w4 =>
          ∃ x3 : Int, e1 = .returned (Value.int .u64 x3) ∧
          (semA Try.prog (Instr.indexAt 24 t7_c.v (Value.int .i64 t19)) w4 fun ad3 w5 =>
            stC ad3 (Value.int .u64 x3) w5 fun w6 =>
            J0 t0_a t1_b t7_c t18 (IntKind.i64.wrap (t19 + 1)) w6 ∧
            m0 t0_a t1_b t7_c t18 (IntKind.i64.wrap (t19 + 1)) w6 < m0 t0_a t1_b t7_c t18 t19 w_))
        (Calls Try.prog 53 #[Value.int .u64 x1, Value.int .u64 0] w2 fun e2 w7 =>
          ∃ x4 : Int, e2 = .returned (Value.int .u64 x4) ∧
          (semA Try.prog (Instr.indexAt 24 t7_c.v (Value.int .i64 t19)) w7 fun ad4 w8 =>
            stC ad4 (Value.int .u64 x4) w8 fun w9 =>
            J0 t0_a t1_b t7_c t18 (IntKind.i64.wrap (t19 + 1)) w9 ∧
            m0 t0_a t1_b t7_c t18 (IntKind.i64.wrap (t19 + 1)) w9 < m0 t0_a t1_b t7_c t18 t19 w_)))
      (br (decide (t19 < (t1_b.n : Int)))
        (semA Try.prog (Instr.indexAt 24 t1_b.v (Value.int .i64 t19)) w_ fun ad5 w10 =>
          ldI .u64 ad5 w10 fun x5 =>
          Calls Try.prog 53 #[Value.int .u64 0, Value.int .u64 x5] w10 fun e3 w11 =>
          ∃ x6 : Int, e3 = .returned (Value.int .u64 x6) ∧
          (semA Try.prog (Instr.indexAt 24 t7_c.v (Value.int .i64 t19)) w11 fun ad6 w12 =>
            stC ad6 (Value.int .u64 x6) w12 fun w13 =>
            J0 t0_a t1_b t7_c t18 (IntKind.i64.wrap (t19 + 1)) w13 ∧
            m0 t0_a t1_b t7_c t18 (IntKind.i64.wrap (t19 + 1)) w13 < m0 t0_a t1_b t7_c t18 t19 w_))
        (Calls Try.prog 53 #[Value.int .u64 0, Value.int .u64 0] w_ fun e4 w14 =>
          ∃ x7 : Int, e4 = .returned (Value.int .u64 x7) ∧
          (semA Try.prog (Instr.indexAt 24 t7_c.v (Value.int .i64 t19)) w14 fun ad7 w15 =>
            stC ad7 (Value.int .u64 x7) w15 fun w16 =>
            J0 t0_a t1_b t7_c t18 (IntKind.i64.wrap (t19 + 1)) w16 ∧
            m0 t0_a t1_b t7_c t18 (IntKind.i64.wrap (t19 + 1)) w16 < m0 t0_a t1_b t7_c t18 t19 w_))))
    (Calls Try.prog 44 #[t7_c.v] w_ fun e5 w17 =>
      ∃ s2 : Slc, e5 = .returned s2.v ∧
      (R (.returned s2.v) w17))) :
    Calls Try.prog 51 #[a0_a.v, a1_b.v, Value.func (Fn.func 53) #[] #[]] w R := by
  refine calls_of_vc (nat_both__nat_Or_1_cut J0 m0) (by kernel_rfl) Try.func51 rfl ?_ ?_
  · refine kcast h ?_; kernel_rfl
  · exact (obl_seq (obl_reg (obl_seq (obl_reg (obl_seq (obl_seq (obl_reg (obl_loop _ rfl (fun a_ w_ hL_ => (by
    obtain ⟨hz_, hd_, hL_⟩ := atSz_out hL_
    obtain ⟨h2_, hL_⟩ := atF_out hL_
    obtain ⟨t0_a, h0_, hL_⟩ := atS_out hL_
    obtain ⟨t1_b, h1_, hL_⟩ := atS_out hL_
    obtain ⟨t7_c, h7_, hL_⟩ := atS_out hL_
    obtain ⟨t18, h18_, hL_⟩ := atI_out hL_
    obtain ⟨t19, h19_, hL_⟩ := atI_out hL_
    obtain ⟨g0, rfl⟩ : ∃ g, a_ = Fr 48 [(2, Value.func (Fn.func 53) #[] #[]), (0, t0_a.v), (1, t1_b.v), (7, t7_c.v), (18, Value.int .i64 t18), (19, Value.int .i64 t19)] g := ⟨_, fr_of hz_ hd_ [(2, Value.func (Fn.func 53) #[] #[]), (0, t0_a.v), (1, t1_b.v), (7, t7_c.v), (18, Value.int .i64 t18), (19, Value.int .i64 t19)] (sel_cons h2_ (sel_cons h0_ (sel_cons h1_ (sel_cons h7_ (sel_cons h18_ (sel_cons h19_ sel_nil))))))⟩
    clear hz_ hd_ h2_ h0_ h1_ h7_ h18_ h19_
    have hJ0_ := hL_
    refine ⟨(fun _ => none), kcast (h0 t0_a t1_b t7_c t18 t19 w_ hJ0_) ?_, ?_⟩
    · kernel_rfl
    · exact (obl_seq (obl_reg (obl_seq (obl_cond (obl_skip (obl_exit (obl_seq (obl_blk rfl (obl_seq (obl_reg (obl_seq (obl_reg (obl_seq (obl_seq (obl_reg (obl_cond (obl_reg (obl_skip (obl_seq (obl_seq (obl_reg (obl_cond (obl_reg (obl_skip (obl_reg (obl_reg trivial)))))))))))))))))))))))))))) (obl_seq (obl_reg (obl_ret trivial)))))))))))

def nat_both__nat_Xor_1_cut (J0 : Slc → Slc → Slc → Int → Int → World → Prop) (m0 : Slc → Slc → Slc → Int → Int → World → Nat) : Nat → Option ((Act → World → Prop) × (Act → World → Nat))
  | 0 => some (fun a_ w_ => atSz a_ 48 (atF 54 a_ 2 <| atS a_ 0 fun t0_a => atS a_ 1 fun t1_b => atS a_ 7 fun t7_c => atI .i64 a_ 18 fun t18 => atI .i64 a_ 19 fun t19 => J0 t0_a t1_b t7_c t18 t19 w_), fun a_ w_ => mS a_ 0 fun t0_a => mS a_ 1 fun t1_b => mS a_ 7 fun t7_c => mI a_ 18 fun t18 => mI a_ 19 fun t19 => m0 t0_a t1_b t7_c t18 t19 w_)
  | _ => none

set_option maxRecDepth 100000 in
/-- surd/nat.both: function 51. -/
theorem nat_both__nat_Xor_1_vc (a0_a : Slc) (a1_b : Slc) (w : World) (R : Ending → World → Prop)
    (J0 : Slc → Slc → Slc → Int → Int → World → Prop) (m0 : Slc → Slc → Slc → Int → Int → World → Nat)
    (h : semS Try.prog (Instr.makeSlice 24 (Value.int .i64 (maxI (a0_a.n : Int) (a1_b.n : Int))) (Value.int .i64 (maxI (a0_a.n : Int) (a1_b.n : Int)))) w fun s1 w1 =>
    J0 a0_a a1_b s1 (s1.n : Int) 0 w1)
    (h0 : ∀ (t0_a : Slc) (t1_b : Slc) (t7_c : Slc) (t18 : Int) (t19 : Int) (w_ : World), J0 t0_a t1_b t7_c t18 t19 w_ → 
    br (decide (t19 < t18))
    (br (decide (t19 < (t0_a.n : Int)))
      (semA Try.prog (Instr.indexAt 24 t0_a.v (Value.int .i64 t19)) w_ fun ad1 w2 =>
        ldI .u64 ad1 w2 fun x1 =>
        br (decide (t19 < (t1_b.n : Int)))
        (semA Try.prog (Instr.indexAt 24 t1_b.v (Value.int .i64 t19)) w2 fun ad2 w3 =>
          ldI .u64 ad2 w3 fun x2 =>
          Calls Try.prog 54 #[Value.int .u64 x1, Value.int .u64 x2] w3 fun e1 w4 =>
          ∃ x3 : Int, e1 = .returned (Value.int .u64 x3) ∧
          (semA Try.prog (Instr.indexAt 24 t7_c.v (Value.int .i64 t19)) w4 fun ad3 w5 =>
            stC ad3 (Value.int .u64 x3) w5 fun w6 =>
            J0 t0_a t1_b t7_c t18 (IntKind.i64.wrap (t19 + 1)) w6 ∧
            m0 t0_a t1_b t7_c t18 (IntKind.i64.wrap (t19 + 1)) w6 < m0 t0_a t1_b t7_c t18 t19 w_))
        (Calls Try.prog 54 #[Value.int .u64 x1, Value.int .u64 0] w2 fun e2 w7 =>
          ∃ x4 : Int, e2 = .returned (Value.int .u64 x4) ∧
          (semA Try.prog (Instr.indexAt 24 t7_c.v (Value.int .i64 t19)) w7 fun ad4 w8 =>
            stC ad4 (Value.int .u64 x4) w8 fun w9 =>
            J0 t0_a t1_b t7_c t18 (IntKind.i64.wrap (t19 + 1)) w9 ∧
            m0 t0_a t1_b t7_c t18 (IntKind.i64.wrap (t19 + 1)) w9 < m0 t0_a t1_b t7_c t18 t19 w_)))
      (br (decide (t19 < (t1_b.n : Int)))
        (semA Try.prog (Instr.indexAt 24 t1_b.v (Value.int .i64 t19)) w_ fun ad5 w10 =>
          ldI .u64 ad5 w10 fun x5 =>
          Calls Try.prog 54 #[Value.int .u64 0, Value.int .u64 x5] w10 fun e3 w11 =>
          ∃ x6 : Int, e3 = .returned (Value.int .u64 x6) ∧
          (semA Try.prog (Instr.indexAt 24 t7_c.v (Value.int .i64 t19)) w11 fun ad6 w12 =>
            stC ad6 (Value.int .u64 x6) w12 fun w13 =>
            J0 t0_a t1_b t7_c t18 (IntKind.i64.wrap (t19 + 1)) w13 ∧
            m0 t0_a t1_b t7_c t18 (IntKind.i64.wrap (t19 + 1)) w13 < m0 t0_a t1_b t7_c t18 t19 w_))
        (Calls Try.prog 54 #[Value.int .u64 0, Value.int .u64 0] w_ fun e4 w14 =>
          ∃ x7 : Int, e4 = .returned (Value.int .u64 x7) ∧
          (semA Try.prog (Instr.indexAt 24 t7_c.v (Value.int .i64 t19)) w14 fun ad7 w15 =>
            stC ad7 (Value.int .u64 x7) w15 fun w16 =>
            J0 t0_a t1_b t7_c t18 (IntKind.i64.wrap (t19 + 1)) w16 ∧
            m0 t0_a t1_b t7_c t18 (IntKind.i64.wrap (t19 + 1)) w16 < m0 t0_a t1_b t7_c t18 t19 w_))))
    (Calls Try.prog 44 #[t7_c.v] w_ fun e5 w17 =>
      ∃ s2 : Slc, e5 = .returned s2.v ∧
      (R (.returned s2.v) w17))) :
    Calls Try.prog 51 #[a0_a.v, a1_b.v, Value.func (Fn.func 54) #[] #[]] w R := by
  refine calls_of_vc (nat_both__nat_Xor_1_cut J0 m0) (by kernel_rfl) Try.func51 rfl ?_ ?_
  · refine kcast h ?_; kernel_rfl
  · exact (obl_seq (obl_reg (obl_seq (obl_reg (obl_seq (obl_seq (obl_reg (obl_loop _ rfl (fun a_ w_ hL_ => (by
    obtain ⟨hz_, hd_, hL_⟩ := atSz_out hL_
    obtain ⟨h2_, hL_⟩ := atF_out hL_
    obtain ⟨t0_a, h0_, hL_⟩ := atS_out hL_
    obtain ⟨t1_b, h1_, hL_⟩ := atS_out hL_
    obtain ⟨t7_c, h7_, hL_⟩ := atS_out hL_
    obtain ⟨t18, h18_, hL_⟩ := atI_out hL_
    obtain ⟨t19, h19_, hL_⟩ := atI_out hL_
    obtain ⟨g0, rfl⟩ : ∃ g, a_ = Fr 48 [(2, Value.func (Fn.func 54) #[] #[]), (0, t0_a.v), (1, t1_b.v), (7, t7_c.v), (18, Value.int .i64 t18), (19, Value.int .i64 t19)] g := ⟨_, fr_of hz_ hd_ [(2, Value.func (Fn.func 54) #[] #[]), (0, t0_a.v), (1, t1_b.v), (7, t7_c.v), (18, Value.int .i64 t18), (19, Value.int .i64 t19)] (sel_cons h2_ (sel_cons h0_ (sel_cons h1_ (sel_cons h7_ (sel_cons h18_ (sel_cons h19_ sel_nil))))))⟩
    clear hz_ hd_ h2_ h0_ h1_ h7_ h18_ h19_
    have hJ0_ := hL_
    refine ⟨(fun _ => none), kcast (h0 t0_a t1_b t7_c t18 t19 w_ hJ0_) ?_, ?_⟩
    · kernel_rfl
    · exact (obl_seq (obl_reg (obl_seq (obl_cond (obl_skip (obl_exit (obl_seq (obl_blk rfl (obl_seq (obl_reg (obl_seq (obl_reg (obl_seq (obl_seq (obl_reg (obl_cond (obl_reg (obl_skip (obl_seq (obl_seq (obl_reg (obl_cond (obl_reg (obl_skip (obl_reg (obl_reg trivial)))))))))))))))))))))))))))) (obl_seq (obl_reg (obl_ret trivial)))))))))))

set_option maxRecDepth 100000 in
/-- surd/nat.And$1: function 52. -/
theorem nat_And_1_vc (a0_x : Int) (a1_y : Int) (w : World) (R : Ending → World → Prop)
    
    (h : R (.returned (Value.int .u64 (andI .u64 a0_x a1_y))) w) :
    Calls Try.prog 52 #[Value.int .u64 a0_x, Value.int .u64 a1_y] w R := by
  refine calls_of_vc (fun _ => none) (by kernel_rfl) Try.func52 rfl ?_ ?_
  · refine kcast h ?_; kernel_rfl
  · exact (obl_seq (obl_reg (obl_seq (obl_reg (obl_ret trivial)))))

set_option maxRecDepth 100000 in
/-- surd/nat.Or$1: function 53. -/
theorem nat_Or_1_vc (a0_x : Int) (a1_y : Int) (w : World) (R : Ending → World → Prop)
    
    (h : R (.returned (Value.int .u64 (orI .u64 a0_x a1_y))) w) :
    Calls Try.prog 53 #[Value.int .u64 a0_x, Value.int .u64 a1_y] w R := by
  refine calls_of_vc (fun _ => none) (by kernel_rfl) Try.func53 rfl ?_ ?_
  · refine kcast h ?_; kernel_rfl
  · exact (obl_seq (obl_reg (obl_seq (obl_reg (obl_ret trivial)))))

set_option maxRecDepth 100000 in
/-- surd/nat.Xor$1: function 54. -/
theorem nat_Xor_1_vc (a0_x : Int) (a1_y : Int) (w : World) (R : Ending → World → Prop)
    
    (h : R (.returned (Value.int .u64 (xorI .u64 a0_x a1_y))) w) :
    Calls Try.prog 54 #[Value.int .u64 a0_x, Value.int .u64 a1_y] w R := by
  refine calls_of_vc (fun _ => none) (by kernel_rfl) Try.func54 rfl ?_ ?_
  · refine kcast h ?_; kernel_rfl
  · exact (obl_seq (obl_reg (obl_seq (obl_reg (obl_ret trivial)))))

end Go.Proofs.Ytaflfjbhlgbmdaa
