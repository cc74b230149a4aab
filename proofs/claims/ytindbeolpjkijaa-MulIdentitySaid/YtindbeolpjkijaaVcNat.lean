/- Verification conditions of some of the program's functions, printed by a program of this session. No condition. -/
import Derived.Test.YtindbeolpjkijaaProg
import Derived.Test.YtindbeolpjkijaaEng
namespace Go.Proofs.Ytindbeolpjkijaa
open Go Go.RowKit Eng
set_option linter.unusedVariables false

def nat_trim_cut (J0 : Slc → World → Prop) (m0 : Slc → World → Nat) : Nat → Option ((Act → World → Prop) × (Act → World → Nat))
  | 0 => some (fun a_ w_ => atSz a_ 21 (atS a_ 0 fun t0_a => J0 t0_a w_), fun a_ w_ => mS a_ 0 fun t0_a => m0 t0_a w_)
  | _ => none

set_option maxRecDepth 100000 in
/-- surd/nat.trim: function 73. -/
theorem nat_trim_vc (a0_a : Slc) (w : World) (R : Ending → World → Prop)
    (J0 : Slc → World → Prop) (m0 : Slc → World → Nat)
    (h : J0 a0_a w)
    (h0 : ∀ (t0_a : Slc) (w_ : World), J0 t0_a w_ → 
    br (decide ((t0_a.n : Int) > 0))
    (semA Try.prog (Instr.indexAt 32 t0_a.v (Value.int .i64 (IntKind.i64.wrap ((t0_a.n : Int) - 1)))) w_ fun ad1 w1 =>
      ldI .u64 ad1 w1 fun x1 =>
      br (x1 == 0)
      (semS Try.prog (Instr.sliceAt 32 t0_a.v none (some (Value.int .i64 (IntKind.i64.wrap ((t0_a.n : Int) - 1)))) none) w1 fun s1 w2 =>
        J0 s1 w2 ∧
        m0 s1 w2 < m0 t0_a w_)
      (R (.returned t0_a.v) w1))
    (R (.returned t0_a.v) w_)) :
    Calls Try.prog 73 #[a0_a.v] w R := by
  refine calls_of_vc (nat_trim_cut J0 m0) (by kernel_rfl) Try.func73 rfl ?_ ?_
  · refine kcast h ?_; kernel_rfl
  · exact (obl_seq (obl_reg (obl_seq (obl_loop _ rfl (fun a_ w_ hL_ => (by
    obtain ⟨hz_, hd_, hL_⟩ := atSz_out hL_
    obtain ⟨t0_a, h0_, hL_⟩ := atS_out hL_
    obtain ⟨g0, rfl⟩ : ∃ g, a_ = Fr 21 [(0, t0_a.v)] g := ⟨_, fr_of hz_ hd_ [(0, t0_a.v)] (sel_cons h0_ sel_nil)⟩
    clear hz_ hd_ h0_
    have hJ0_ := hL_
    refine ⟨(fun _ => none), kcast (h0 t0_a w_ hJ0_) ?_, ?_⟩
    · kernel_rfl
    · exact (obl_seq (obl_seq (obl_reg (obl_cond (obl_skip (obl_exit (obl_blk rfl (obl_reg trivial)))))))))) (obl_seq (obl_reg (obl_ret trivial)))))))

set_option maxRecDepth 100000 in
/-- surd/nat.Norm: function 56. -/
theorem nat_Norm_vc (a0_a : Slc) (w : World) (R : Ending → World → Prop)
    
    (h : Calls Try.prog 73 #[a0_a.v] w fun e1 w1 =>
    ∃ s1 : Slc, e1 = .returned s1.v ∧
    (semS Try.prog (Builtin.append_ #[32, 32] 32 #[(⟨none, 0, 0⟩ : Slc).v, s1.v]) w1 fun s2 w2 =>
      R (.returned s2.v) w2)) :
    Calls Try.prog 56 #[a0_a.v] w R := by
  refine calls_of_vc (fun _ => none) (by kernel_rfl) Try.func56 rfl ?_ ?_
  · refine kcast h ?_; kernel_rfl
  · exact (obl_seq (obl_reg (obl_seq (obl_reg (obl_ret trivial)))))

set_option maxRecDepth 100000 in
/-- surd/nat.From: function 64. -/
theorem nat_From_vc (a0_v : Int) (w : World) (R : Ending → World → Prop)
    
    (h : br (a0_v == 0)
    (R (.returned ((⟨none, 0, 0⟩ : Slc).v)) w)
    (newC w #[Value.int .u64 a0_v] 69 fun ad1 w1 =>
      R (.returned ((⟨some ad1, 1, 1⟩ : Slc).v)) w1)) :
    Calls Try.prog 64 #[Value.int .u64 a0_v] w R := by
  refine calls_of_vc (fun _ => none) (by kernel_rfl) Try.func64 rfl ?_ ?_
  · refine kcast h ?_; kernel_rfl
  · exact (obl_seq (obl_reg (obl_seq (obl_seq (obl_reg (obl_cond (obl_seq (obl_reg (obl_ret (obl_skip (obl_seq (obl_reg (obl_ret trivial)))))))))))))

set_option maxRecDepth 100000 in
/-- surd/nat.Length: function 62. -/
theorem nat_Length_vc (a0_a : Slc) (w : World) (R : Ending → World → Prop)
    
    (h : Calls Try.prog 73 #[a0_a.v] w fun e1 w1 =>
    ∃ s1 : Slc, e1 = .returned s1.v ∧
    (br ((s1.n : Int) == 0)
      (R (.returned (Value.int .i64 0)) w1)
      (semA Try.prog (Instr.indexAt 32 s1.v (Value.int .i64 (IntKind.i64.wrap ((s1.n : Int) - 1)))) w1 fun ad1 w2 =>
        ldI .u64 ad1 w2 fun x1 =>
        Calls Try.prog 74 #[Value.int .u64 x1] w2 fun e2 w3 =>
        ∃ x2 : Int, e2 = .returned (Value.int .i64 x2) ∧
        (R (.returned (Value.int .i64 (IntKind.i64.wrap ((IntKind.i64.wrap (64 * (IntKind.i64.wrap ((s1.n : Int) - 1)))) + x2)))) w3)))) :
    Calls Try.prog 62 #[a0_a.v] w R := by
  refine calls_of_vc (fun _ => none) (by kernel_rfl) Try.func62 rfl ?_ ?_
  · refine kcast h ?_; kernel_rfl
  · exact (obl_seq (obl_reg (obl_seq (obl_reg (obl_seq (obl_seq (obl_reg (obl_cond (obl_seq (obl_reg (obl_ret (obl_skip (obl_seq (obl_reg (obl_ret trivial)))))))))))))))

end Go.Proofs.Ytindbeolpjkijaa
