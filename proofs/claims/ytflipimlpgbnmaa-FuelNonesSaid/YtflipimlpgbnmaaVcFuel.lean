/- Verification conditions of some of the program's functions, printed by a program of this session. No condition. -/
import Derived.Test.YtflipimlpgbnmaaProg
import Derived.Test.YtflipimlpgbnmaaEng
namespace Go.Proofs.Ytflipimlpgbnmaa
open Go Go.RowKit Eng
set_option linter.unusedVariables false

def fuel_Attempts_cut (J0 : Slc → Slc → Int → World → Prop) (m0 : Slc → Slc → Int → World → Nat) : Nat → Option ((Act → World → Prop) × (Act → World → Nat))
  | 0 => some (fun a_ w_ => atSz a_ 23 (atS a_ 0 fun t0_f => atS a_ 3 fun t3_l => atI .i64 a_ 6 fun t6 => J0 t0_f t3_l t6 w_), fun a_ w_ => mS a_ 0 fun t0_f => mS a_ 3 fun t3_l => mI a_ 6 fun t6 => m0 t0_f t3_l t6 w_)
  | _ => none

set_option maxRecDepth 100000 in
/-- surd/fuel.Attempts: function 20. -/
theorem fuel_Attempts_vc (a0_f : Slc) (w : World) (R : Ending → World → Prop)
    (J0 : Slc → Slc → Int → World → Prop) (m0 : Slc → Slc → Int → World → Nat)
    (h : J0 a0_f (⟨none, 0, 0⟩ : Slc) 0 w)
    (h0 : ∀ (t0_f : Slc) (t3_l : Slc) (t6 : Int) (w_ : World), J0 t0_f t3_l t6 w_ → 
    br (decide (t6 < 16))
    (semI Try.prog .i64 (binOp .shl 3 (Value.int .i64 64) (Value.int .i64 t6)) w_ fun x1 w1 =>
      Calls Try.prog 47 #[Value.int .u64 (IntKind.u64.wrap x1)] w1 fun e1 w2 =>
      ∃ s1 : Slc, e1 = .returned s1.v ∧
      (Calls Try.prog 49 #[t0_f.v, s1.v] w2 fun e2 w3 =>
        ∃ x2 : Int, e2 = .returned (Value.int .i64 x2) ∧
        (br (decide (x2 < 0))
          (R (.returned t3_l.v) w3)
          (newC w3 #[Value.int .i64 x1] 3 fun ad1 w4 =>
            semS Try.prog (Builtin.append_ #[38, 38] 38 #[t3_l.v, (⟨some ad1, 1, 1⟩ : Slc).v]) w4 fun s2 w5 =>
            J0 t0_f s2 (IntKind.i64.wrap (t6 + 1)) w5 ∧
            m0 t0_f s2 (IntKind.i64.wrap (t6 + 1)) w5 < m0 t0_f t3_l t6 w_))))
    (R (.returned t3_l.v) w_)) :
    Calls Try.prog 20 #[a0_f.v] w R := by
  refine calls_of_vc (fuel_Attempts_cut J0 m0) (by kernel_rfl) Try.func20 rfl ?_ ?_
  · refine kcast h ?_; kernel_rfl
  · exact (obl_seq (obl_reg (obl_seq (obl_reg (obl_seq (obl_seq (obl_reg (obl_loop _ rfl (fun a_ w_ hL_ => (by
    obtain ⟨hz_, hd_, hL_⟩ := atSz_out hL_
    obtain ⟨t0_f, h0_, hL_⟩ := atS_out hL_
    obtain ⟨t3_l, h3_, hL_⟩ := atS_out hL_
    obtain ⟨t6, h6_, hL_⟩ := atI_out hL_
    obtain ⟨g0, rfl⟩ : ∃ g, a_ = Fr 23 [(0, t0_f.v), (3, t3_l.v), (6, Value.int .i64 t6)] g := ⟨_, fr_of hz_ hd_ [(0, t0_f.v), (3, t3_l.v), (6, Value.int .i64 t6)] (sel_cons h0_ (sel_cons h3_ (sel_cons h6_ sel_nil)))⟩
    clear hz_ hd_ h0_ h3_ h6_
    have hJ0_ := hL_
    refine ⟨(fun _ => none), kcast (h0 t0_f t3_l t6 w_ hJ0_) ?_, ?_⟩
    · kernel_rfl
    · exact (obl_seq (obl_reg (obl_seq (obl_cond (obl_skip (obl_exit (obl_seq (obl_blk rfl (obl_seq (obl_reg (obl_seq (obl_reg (obl_seq (obl_seq (obl_reg (obl_cond (obl_exit (obl_skip (obl_reg (obl_reg trivial)))))))))))))))))))))) (obl_seq (obl_reg (obl_ret trivial)))))))))))

set_option maxRecDepth 100000 in
/-- surd/fuel.Count: function 22. -/
theorem fuel_Count_vc (a0_f : Slc) (w : World) (R : Ending → World → Prop)
    
    (h : Calls Try.prog 20 #[a0_f.v] w fun e1 w1 =>
    ∃ s1 : Slc, e1 = .returned s1.v ∧
    (R (.returned (Value.int .i64 (s1.n : Int))) w1)) :
    Calls Try.prog 22 #[a0_f.v] w R := by
  refine calls_of_vc (fun _ => none) (by kernel_rfl) Try.func22 rfl ?_ ?_
  · refine kcast h ?_; kernel_rfl
  · exact (obl_seq (obl_reg (obl_seq (obl_reg (obl_ret trivial)))))

set_option maxRecDepth 100000 in
/-- surd/fuel.Last: function 23. -/
theorem fuel_Last_vc (a0_f : Slc) (w : World) (R : Ending → World → Prop)
    
    (h : Calls Try.prog 20 #[a0_f.v] w fun e1 w1 =>
    ∃ s1 : Slc, e1 = .returned s1.v ∧
    (br ((s1.n : Int) == 0)
      (R (.returned (Value.int .i64 0)) w1)
      (semA Try.prog (Instr.indexAt 38 s1.v (Value.int .i64 (IntKind.i64.wrap ((s1.n : Int) - 1)))) w1 fun ad1 w2 =>
        ldI .i64 ad1 w2 fun x1 =>
        R (.returned (Value.int .i64 x1)) w2))) :
    Calls Try.prog 23 #[a0_f.v] w R := by
  refine calls_of_vc (fun _ => none) (by kernel_rfl) Try.func23 rfl ?_ ?_
  · refine kcast h ?_; kernel_rfl
  · exact (obl_seq (obl_reg (obl_seq (obl_reg (obl_seq (obl_seq (obl_reg (obl_cond (obl_seq (obl_reg (obl_ret (obl_skip (obl_seq (obl_reg (obl_ret trivial)))))))))))))))

def fuel_Reach_cut (J0 : Int → Int → World → Prop) (m0 : Int → Int → World → Nat) : Nat → Option ((Act → World → Prop) × (Act → World → Nat))
  | 0 => some (fun a_ w_ => atSz a_ 15 (atI .i64 a_ 0 fun t0_p => atI .i64 a_ 4 fun t4_w => J0 t0_p t4_w w_), fun a_ w_ => mI a_ 0 fun t0_p => mI a_ 4 fun t4_w => m0 t0_p t4_w w_)
  | _ => none

set_option maxRecDepth 100000 in
/-- surd/fuel.Reach: function 13. -/
theorem fuel_Reach_vc (a0_p : Int) (w : World) (R : Ending → World → Prop)
    (J0 : Int → Int → World → Prop) (m0 : Int → Int → World → Nat)
    (h : br (decide (a0_p > 2097152))
    (R (.returned (Value.tuple #[(⟨none, 0, 0⟩ : Slc).v, Value.int .i64 1])) w)
    (J0 a0_p 64 w))
    (h0 : ∀ (t0_p : Int) (t4_w : Int) (w_ : World), J0 t0_p t4_w w_ → 
    br (decide (t4_w < t0_p))
    (J0 t0_p (IntKind.i64.wrap (t4_w * 2 ^ (1 : Nat))) w_ ∧
      m0 t0_p (IntKind.i64.wrap (t4_w * 2 ^ (1 : Nat))) w_ < m0 t0_p t4_w w_)
    (Calls Try.prog 47 #[Value.int .u64 (IntKind.u64.wrap t4_w)] w_ fun e1 w1 =>
      ∃ s1 : Slc, e1 = .returned s1.v ∧
      (R (.returned (Value.tuple #[s1.v, Value.int .i64 0])) w1))) :
    Calls Try.prog 13 #[Value.int .i64 a0_p] w R := by
  refine calls_of_vc (fuel_Reach_cut J0 m0) (by kernel_rfl) Try.func13 rfl ?_ ?_
  · refine kcast h ?_; kernel_rfl
  · exact (obl_seq (obl_reg (obl_seq (obl_seq (obl_reg (obl_cond (obl_seq (obl_reg (obl_ret (obl_skip (obl_seq (obl_reg (obl_seq (obl_loop _ rfl (fun a_ w_ hL_ => (by
    obtain ⟨hz_, hd_, hL_⟩ := atSz_out hL_
    obtain ⟨t0_p, h0_, hL_⟩ := atI_out hL_
    obtain ⟨t4_w, h4_, hL_⟩ := atI_out hL_
    obtain ⟨g0, rfl⟩ : ∃ g, a_ = Fr 15 [(0, Value.int .i64 t0_p), (4, Value.int .i64 t4_w)] g := ⟨_, fr_of hz_ hd_ [(0, Value.int .i64 t0_p), (4, Value.int .i64 t4_w)] (sel_cons h0_ (sel_cons h4_ sel_nil))⟩
    clear hz_ hd_ h0_ h4_
    have hJ0_ := hL_
    refine ⟨(fun _ => none), kcast (h0 t0_p t4_w w_ hJ0_) ?_, ?_⟩
    · kernel_rfl
    · exact (obl_seq (obl_seq (obl_reg (obl_cond (obl_skip (obl_exit (obl_blk rfl (obl_reg trivial)))))))))) (obl_seq (obl_reg (obl_ret trivial)))))))))))))))))

set_option maxRecDepth 100000 in
/-- surd/fuel.Enough: function 24. -/
theorem fuel_Enough_vc (a0_f : Slc) (a1_p : Int) (w : World) (R : Ending → World → Prop)
    
    (h : Calls Try.prog 23 #[a0_f.v] w fun e1 w1 =>
    ∃ x1 : Int, e1 = .returned (Value.int .i64 x1) ∧
    (br (decide (x1 > 0))
      (R (.returned (Value.bool (decide (x1 ≥ a1_p)))) w1)
      (R (.returned (Value.bool false)) w1))) :
    Calls Try.prog 24 #[a0_f.v, Value.int .i64 a1_p] w R := by
  refine calls_of_vc (fun _ => none) (by kernel_rfl) Try.func24 rfl ?_ ?_
  · refine kcast h ?_; kernel_rfl
  · exact (obl_seq (obl_reg (obl_seq (obl_reg (obl_seq (obl_reg (obl_ret trivial)))))))

end Go.Proofs.Ytflipimlpgbnmaa
