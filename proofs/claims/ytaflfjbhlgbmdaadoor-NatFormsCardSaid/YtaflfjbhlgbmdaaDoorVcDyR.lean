/- Verification conditions of some of the program's functions, printed by a program of this session. No condition. -/
import Derived.Test.YtaflfjbhlgbmdaaDoorProg
import Derived.Test.YtaflfjbhlgbmdaaDoorEng
namespace Go.Proofs.YtaflfjbhlgbmdaaDoor
open Go Go.RowKit Eng
set_option linter.unusedVariables false

def surdref01_Num_Tail_cut (J0 : Slc → Int → World → Prop) (m0 : Slc → Int → World → Nat) : Nat → Option ((Act → World → Prop) × (Act → World → Nat))
  | 0 => some (fun a_ w_ => atSz a_ 14 (atS a_ 0 fun t0_a => atI .i64 a_ 3 fun t3_n => J0 t0_a t3_n w_), fun a_ w_ => mS a_ 0 fun t0_a => mI a_ 3 fun t3_n => m0 t0_a t3_n w_)
  | _ => none

set_option maxRecDepth 100000 in
/-- (surd/surdref01.Num).Tail: function 17. -/
theorem surdref01_Num_Tail_vc (a0_a : Slc) (w : World) (R : Ending → World → Prop)
    (J0 : Slc → Int → World → Prop) (m0 : Slc → Int → World → Nat)
    (h : br ((a0_a.n : Int) == 0)
    (R (.returned (Value.int .i64 0)) w)
    (J0 a0_a 0 w))
    (h0 : ∀ (t0_a : Slc) (t3_n : Int) (w_ : World), J0 t0_a t3_n w_ → 
    Calls Tryd.prog 15 #[t0_a.v, Value.int .i64 t3_n] w_ fun e1 w1 =>
    ∃ x1 : Int, e1 = .returned (Value.int .i64 x1) ∧
    (br (x1 == 0)
      (J0 t0_a (IntKind.i64.wrap (t3_n + 1)) w1 ∧
        m0 t0_a (IntKind.i64.wrap (t3_n + 1)) w1 < m0 t0_a t3_n w_)
      (R (.returned (Value.int .i64 t3_n)) w1))) :
    Calls Tryd.prog 17 #[a0_a.v] w R := by
  refine calls_of_vc (surdref01_Num_Tail_cut J0 m0) (by kernel_rfl) Tryd.func17 rfl ?_ ?_
  · refine kcast h ?_; kernel_rfl
  · exact (obl_seq (obl_reg (obl_seq (obl_seq (obl_reg (obl_cond (obl_seq (obl_reg (obl_ret (obl_skip (obl_seq (obl_reg (obl_seq (obl_loop _ rfl (fun a_ w_ hL_ => (by
    obtain ⟨hz_, hd_, hL_⟩ := atSz_out hL_
    obtain ⟨t0_a, h0_, hL_⟩ := atS_out hL_
    obtain ⟨t3_n, h3_, hL_⟩ := atI_out hL_
    obtain ⟨g0, rfl⟩ : ∃ g, a_ = Fr 14 [(0, t0_a.v), (3, Value.int .i64 t3_n)] g := ⟨_, fr_of hz_ hd_ [(0, t0_a.v), (3, Value.int .i64 t3_n)] (sel_cons h0_ (sel_cons h3_ sel_nil))⟩
    clear hz_ hd_ h0_ h3_
    have hJ0_ := hL_
    refine ⟨(fun _ => none), kcast (h0 t0_a t3_n w_ hJ0_) ?_, ?_⟩
    · kernel_rfl
    · exact (obl_seq (obl_seq (obl_reg (obl_cond (obl_skip (obl_exit (obl_blk rfl (obl_reg trivial)))))))))) (obl_seq (obl_reg (obl_ret trivial)))))))))))))))))

set_option maxRecDepth 100000 in
/-- (surd/surdref01.Num).Bit: function 15. -/
theorem surdref01_Num_Bit_vc (a0_a : Slc) (a1_i : Int) (w : World) (R : Ending → World → Prop)
    
    (h : br (decide (a1_i < 0))
    (R (.returned (Value.int .i64 0)) w)
    (br (decide ((IntKind.i64.wrap (Int.tdiv a1_i 32)) ≥ (a0_a.n : Int)))
      (R (.returned (Value.int .i64 0)) w)
      (semA Tryd.prog (Instr.indexAt 26 a0_a.v (Value.int .i64 (IntKind.i64.wrap (Int.tdiv a1_i 32)))) w fun ad1 w1 =>
        ldI .u64 ad1 w1 fun x1 =>
        semI Tryd.prog .u64 (binOp .shr 38 (Value.int .u64 x1) (Value.int .i64 (Int.tmod a1_i 32))) w1 fun x2 w2 =>
        R (.returned (Value.int .i64 (IntKind.i64.wrap (andI .u64 x2 1)))) w2))) :
    Calls Tryd.prog 15 #[a0_a.v, Value.int .i64 a1_i] w R := by
  refine calls_of_vc (fun _ => none) (by kernel_rfl) Tryd.func15 rfl ?_ ?_
  · refine kcast h ?_; kernel_rfl
  · exact (obl_seq (obl_reg (obl_seq (obl_seq (obl_reg (obl_cond (obl_seq (obl_reg (obl_ret (obl_skip (obl_seq (obl_reg (obl_ret trivial)))))))))))))

end Go.Proofs.YtaflfjbhlgbmdaaDoor
