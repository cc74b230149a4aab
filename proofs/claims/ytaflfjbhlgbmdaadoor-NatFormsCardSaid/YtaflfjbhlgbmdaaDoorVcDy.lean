/- Verification conditions of some of the program's functions, printed by a program of this session. No condition. -/
import Derived.Test.YtaflfjbhlgbmdaaDoorProg
import Derived.Test.YtaflfjbhlgbmdaaDoorEng
namespace Go.Proofs.YtaflfjbhlgbmdaaDoor
open Go Go.RowKit Eng
set_option linter.unusedVariables false

def nat_Tail_cut (J0 : Slc → Int → Int → World → Prop) (m0 : Slc → Int → Int → World → Nat) : Nat → Option ((Act → World → Prop) × (Act → World → Nat))
  | 0 => some (fun a_ w_ => atSz a_ 20 (atS a_ 5 fun t5 => atI .i64 a_ 6 fun t6 => atI .i64 a_ 7 fun t7 => J0 t5 t6 t7 w_), fun a_ w_ => mS a_ 5 fun t5 => mI a_ 6 fun t6 => mI a_ 7 fun t7 => m0 t5 t6 t7 w_)
  | _ => none

set_option maxRecDepth 100000 in
/-- surd/nat.Tail: function 16. -/
theorem nat_Tail_vc (a0_a : Slc) (w : World) (R : Ending → World → Prop)
    (J0 : Slc → Int → Int → World → Prop) (m0 : Slc → Int → Int → World → Nat)
    (h : J0 a0_a (a0_a.n : Int) 0 w)
    (h0 : ∀ (t5 : Slc) (t6 : Int) (t7 : Int) (w_ : World), J0 t5 t6 t7 w_ → 
    br (decide (t7 < t6))
    (semA Tryd.prog (Instr.indexAt 23 t5.v (Value.int .i64 t7)) w_ fun ad1 w1 =>
      ldI .u64 ad1 w1 fun x1 =>
      br (x1 != 0)
      (Calls Tryd.prog 27 #[Value.int .u64 x1] w1 fun e1 w2 =>
        ∃ x2 : Int, e1 = .returned (Value.int .i64 x2) ∧
        (R (.returned (Value.int .i64 (IntKind.i64.wrap ((IntKind.i64.wrap (64 * t7)) + x2)))) w2))
      (J0 t5 t6 (IntKind.i64.wrap (t7 + 1)) w1 ∧
        m0 t5 t6 (IntKind.i64.wrap (t7 + 1)) w1 < m0 t5 t6 t7 w_))
    (R (.returned (Value.int .i64 0)) w_)) :
    Calls Tryd.prog 16 #[a0_a.v] w R := by
  refine calls_of_vc (nat_Tail_cut J0 m0) (by kernel_rfl) Tryd.func16 rfl ?_ ?_
  · refine kcast h ?_; kernel_rfl
  · exact (obl_seq (obl_reg (obl_seq (obl_seq (obl_reg (obl_loop _ rfl (fun a_ w_ hL_ => (by
    obtain ⟨hz_, hd_, hL_⟩ := atSz_out hL_
    obtain ⟨t5, h5_, hL_⟩ := atS_out hL_
    obtain ⟨t6, h6_, hL_⟩ := atI_out hL_
    obtain ⟨t7, h7_, hL_⟩ := atI_out hL_
    obtain ⟨g0, rfl⟩ : ∃ g, a_ = Fr 20 [(5, t5.v), (6, Value.int .i64 t6), (7, Value.int .i64 t7)] g := ⟨_, fr_of hz_ hd_ [(5, t5.v), (6, Value.int .i64 t6), (7, Value.int .i64 t7)] (sel_cons h5_ (sel_cons h6_ (sel_cons h7_ sel_nil)))⟩
    clear hz_ hd_ h5_ h6_ h7_
    have hJ0_ := hL_
    refine ⟨(fun _ => none), kcast (h0 t5 t6 t7 w_ hJ0_) ?_, ?_⟩
    · kernel_rfl
    · exact (obl_seq (obl_reg (obl_seq (obl_cond (obl_skip (obl_exit (obl_seq (obl_blk rfl (obl_seq (obl_reg (obl_seq (obl_reg (obl_cond (obl_seq (obl_reg (obl_ret (obl_skip (obl_reg trivial)))))))))))))))))))) (obl_seq (obl_reg (obl_ret trivial)))))))))

set_option maxRecDepth 100000 in
/-- surd/nat.Bit: function 14. -/
theorem nat_Bit_vc (a0_a : Slc) (a1_i : Int) (w : World) (R : Ending → World → Prop)
    
    (h : br (decide (a1_i < 0))
    (R (.returned (Value.int .i64 0)) w)
    (br (decide ((IntKind.i64.wrap (Int.tdiv a1_i 64)) ≥ (a0_a.n : Int)))
      (R (.returned (Value.int .i64 0)) w)
      (semA Tryd.prog (Instr.indexAt 23 a0_a.v (Value.int .i64 (IntKind.i64.wrap (Int.tdiv a1_i 64)))) w fun ad1 w1 =>
        ldI .u64 ad1 w1 fun x1 =>
        semI Tryd.prog .u64 (binOp .shr 38 (Value.int .u64 x1) (Value.int .u64 (IntKind.u64.wrap (Int.tmod a1_i 64)))) w1 fun x2 w2 =>
        R (.returned (Value.int .i64 (IntKind.i64.wrap (andI .u64 x2 1)))) w2))) :
    Calls Tryd.prog 14 #[a0_a.v, Value.int .i64 a1_i] w R := by
  refine calls_of_vc (fun _ => none) (by kernel_rfl) Tryd.func14 rfl ?_ ?_
  · refine kcast h ?_; kernel_rfl
  · exact (obl_seq (obl_reg (obl_seq (obl_seq (obl_reg (obl_cond (obl_seq (obl_reg (obl_ret (obl_skip (obl_seq (obl_reg (obl_ret trivial)))))))))))))

set_option maxRecDepth 100000 in
/-- surd/nat.From: function 21. -/
theorem nat_From_vc (a0_v : Int) (w : World) (R : Ending → World → Prop)
    
    (h : br (a0_v == 0)
    (R (.returned ((⟨none, 0, 0⟩ : Slc).v)) w)
    (newC w #[Value.int .u64 a0_v] 38 fun ad1 w1 =>
      R (.returned ((⟨some ad1, 1, 1⟩ : Slc).v)) w1)) :
    Calls Tryd.prog 21 #[Value.int .u64 a0_v] w R := by
  refine calls_of_vc (fun _ => none) (by kernel_rfl) Tryd.func21 rfl ?_ ?_
  · refine kcast h ?_; kernel_rfl
  · exact (obl_seq (obl_reg (obl_seq (obl_seq (obl_reg (obl_cond (obl_seq (obl_reg (obl_ret (obl_skip (obl_seq (obl_reg (obl_ret trivial)))))))))))))

end Go.Proofs.YtaflfjbhlgbmdaaDoor
