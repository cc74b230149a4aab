/- Verification conditions of some of the program's functions, printed by a program of this session. No condition. -/
import Derived.Test.YtaflfjbhlgbmdaaProg
import Derived.Test.YtaflfjbhlgbmdaaEng
namespace Go.Proofs.Ytaflfjbhlgbmdaa
open Go Go.RowKit Eng
set_option linter.unusedVariables false

def nat_trim_cut (J0 : Slc → World → Prop) (m0 : Slc → World → Nat) : Nat → Option ((Act → World → Prop) × (Act → World → Nat))
  | 0 => some (fun a_ w_ => atSz a_ 21 (atS a_ 0 fun t0_a => J0 t0_a w_), fun a_ w_ => mS a_ 0 fun t0_a => m0 t0_a w_)
  | _ => none

set_option maxRecDepth 100000 in
/-- surd/nat.trim: function 44. -/
theorem nat_trim_vc (a0_a : Slc) (w : World) (R : Ending → World → Prop)
    (J0 : Slc → World → Prop) (m0 : Slc → World → Nat)
    (h : J0 a0_a w)
    (h0 : ∀ (t0_a : Slc) (w_ : World), J0 t0_a w_ → 
    br (decide ((t0_a.n : Int) > 0))
    (semA Try.prog (Instr.indexAt 24 t0_a.v (Value.int .i64 (IntKind.i64.wrap ((t0_a.n : Int) - 1)))) w_ fun ad1 w1 =>
      ldI .u64 ad1 w1 fun x1 =>
      br (x1 == 0)
      (semS Try.prog (Instr.sliceAt 24 t0_a.v none (some (Value.int .i64 (IntKind.i64.wrap ((t0_a.n : Int) - 1)))) none) w1 fun s1 w2 =>
        J0 s1 w2 ∧
        m0 s1 w2 < m0 t0_a w_)
      (R (.returned t0_a.v) w1))
    (R (.returned t0_a.v) w_)) :
    Calls Try.prog 44 #[a0_a.v] w R := by
  refine calls_of_vc (nat_trim_cut J0 m0) (by kernel_rfl) Try.func44 rfl ?_ ?_
  · refine kcast h ?_; kernel_rfl
  · exact (obl_seq rfl (obl_reg (obl_seq rfl (obl_loop _ rfl (fun a_ w_ hL_ => (by
    obtain ⟨hz_, hd_, hL_⟩ := atSz_out hL_
    obtain ⟨t0_a, h0_, hL_⟩ := atS_out hL_
    obtain ⟨g0, rfl⟩ : ∃ g, a_ = Fr 21 [(0, t0_a.v)] g := ⟨_, fr_of hz_ hd_ [(0, t0_a.v)] (sel_cons h0_ sel_nil)⟩
    clear hz_ hd_ h0_
    have hJ0_ := hL_
    refine ⟨(fun _ => none), kcast (h0 t0_a w_ hJ0_) ?_, ?_⟩
    · kernel_rfl
    · exact (obl_seq rfl (obl_seq rfl (obl_reg (obl_cond (obl_skip (obl_exit (obl_blk rfl (obl_reg trivial)))))))))) (obl_seq rfl (obl_reg (obl_ret trivial)))))))

set_option maxRecDepth 100000 in
/-- surd/nat.told: function 46. -/
theorem nat_told_vc (a0_a : Slc) (w : World) (R : Ending → World → Prop)
    
    (h : Calls Try.prog 44 #[a0_a.v] w fun e1 w1 =>
    ∃ s1 : Slc, e1 = .returned s1.v ∧
    (Calls Try.prog 23 #[s1.v] w1 fun e2 w2 =>
      ∃ x1 : Int, e2 = .returned (Value.int .i64 x1) ∧
      (br (decide (x1 > 67108864))
        (R (.returned (Value.tuple #[(⟨none, 0, 0⟩ : Slc).v, Value.int .i64 3])) w2)
        (R (.returned (Value.tuple #[s1.v, Value.int .i64 0])) w2)))) :
    Calls Try.prog 46 #[a0_a.v] w R := by
  refine calls_of_vc (fun _ => none) (by kernel_rfl) Try.func46 rfl ?_ ?_
  · refine kcast h ?_; kernel_rfl
  · exact (obl_seq rfl (obl_reg (obl_seq rfl (obl_reg (obl_seq rfl (obl_seq rfl (obl_reg (obl_cond (obl_seq rfl (obl_reg (obl_ret (obl_skip (obl_seq rfl (obl_reg (obl_ret trivial)))))))))))))))

set_option maxRecDepth 100000 in
/-- surd/nat.Norm: function 50. -/
theorem nat_Norm_vc (a0_a : Slc) (w : World) (R : Ending → World → Prop)
    
    (h : Calls Try.prog 44 #[a0_a.v] w fun e1 w1 =>
    ∃ s1 : Slc, e1 = .returned s1.v ∧
    (semS Try.prog (Builtin.append_ #[24, 24] 24 #[(⟨none, 0, 0⟩ : Slc).v, s1.v]) w1 fun s2 w2 =>
      R (.returned s2.v) w2)) :
    Calls Try.prog 50 #[a0_a.v] w R := by
  refine calls_of_vc (fun _ => none) (by kernel_rfl) Try.func50 rfl ?_ ?_
  · refine kcast h ?_; kernel_rfl
  · exact (obl_seq rfl (obl_reg (obl_seq rfl (obl_reg (obl_ret trivial)))))

set_option maxRecDepth 100000 in
/-- surd/nat.From: function 42. -/
theorem nat_From_vc (a0_v : Int) (w : World) (R : Ending → World → Prop)
    
    (h : br (a0_v == 0)
    (R (.returned ((⟨none, 0, 0⟩ : Slc).v)) w)
    (newC w #[Value.int .u64 a0_v] 49 fun ad1 w1 =>
      R (.returned ((⟨some ad1, 1, 1⟩ : Slc).v)) w1)) :
    Calls Try.prog 42 #[Value.int .u64 a0_v] w R := by
  refine calls_of_vc (fun _ => none) (by kernel_rfl) Try.func42 rfl ?_ ?_
  · refine kcast h ?_; kernel_rfl
  · exact (obl_seq rfl (obl_reg (obl_seq rfl (obl_seq rfl (obl_reg (obl_cond (obl_seq rfl (obl_reg (obl_ret (obl_skip (obl_seq rfl (obl_reg (obl_ret trivial)))))))))))))

def nat_Compare_cut (J0 : Slc → Slc → Int → World → Prop) (m0 : Slc → Slc → Int → World → Nat) : Nat → Option ((Act → World → Prop) × (Act → World → Nat))
  | 0 => some (fun a_ w_ => atSz a_ 45 (atS a_ 0 fun t0_a => atS a_ 1 fun t1_b => atI .i64 a_ 5 fun t5_i => J0 t0_a t1_b t5_i w_), fun a_ w_ => mS a_ 0 fun t0_a => mS a_ 1 fun t1_b => mI a_ 5 fun t5_i => m0 t0_a t1_b t5_i w_)
  | _ => none

set_option maxRecDepth 100000 in
/-- surd/nat.Compare: function 22. -/
theorem nat_Compare_vc (a0_a : Slc) (a1_b : Slc) (w : World) (R : Ending → World → Prop)
    (J0 : Slc → Slc → Int → World → Prop) (m0 : Slc → Slc → Int → World → Nat)
    (h : Calls Try.prog 44 #[a0_a.v] w fun e1 w1 =>
    ∃ s1 : Slc, e1 = .returned s1.v ∧
    (Calls Try.prog 44 #[a1_b.v] w1 fun e2 w2 =>
      ∃ s2 : Slc, e2 = .returned s2.v ∧
      (br ((s1.n : Int) != (s2.n : Int))
        (br (decide ((s1.n : Int) < (s2.n : Int)))
          (R (.returned (Value.int .i64 (-1))) w2)
          (R (.returned (Value.int .i64 1)) w2))
        (J0 s1 s2 (IntKind.i64.wrap ((s1.n : Int) - 1)) w2))))
    (h0 : ∀ (t0_a : Slc) (t1_b : Slc) (t5_i : Int) (w_ : World), J0 t0_a t1_b t5_i w_ → 
    br (decide (t5_i ≥ 0))
    (fixA Try.prog (Instr.indexAt 24 t0_a.v (Value.int .i64 t5_i)) w_ fun ad1 =>
      ldI .u64 ad1 w_ fun x1 =>
      fixA Try.prog (Instr.indexAt 24 t1_b.v (Value.int .i64 t5_i)) w_ fun ad2 =>
      ldI .u64 ad2 w_ fun x2 =>
      ∀ w3, Ahead w_ w3 →
      (br (decide (x1 < x2))
        (R (.returned (Value.int .i64 (-1))) w3)
        (fixA Try.prog (Instr.indexAt 24 t0_a.v (Value.int .i64 t5_i)) w3 fun ad3 =>
          ldI .u64 ad3 w3 fun x3 =>
          fixA Try.prog (Instr.indexAt 24 t1_b.v (Value.int .i64 t5_i)) w3 fun ad4 =>
          ldI .u64 ad4 w3 fun x4 =>
          ∀ w4, Ahead w3 w4 →
          (br (decide (x3 > x4))
            (R (.returned (Value.int .i64 1)) w4)
            (J0 t0_a t1_b (IntKind.i64.wrap (t5_i - 1)) w4 ∧
              m0 t0_a t1_b (IntKind.i64.wrap (t5_i - 1)) w4 < m0 t0_a t1_b t5_i w_)))))
    (R (.returned (Value.int .i64 0)) w_)) :
    Calls Try.prog 22 #[a0_a.v, a1_b.v] w R := by
  refine calls_of_vc (nat_Compare_cut J0 m0) (by kernel_rfl) Try.func22 rfl ?_ ?_
  · refine kcast h ?_; kernel_rfl
  · exact (obl_seq rfl (obl_reg (obl_seq rfl (obl_reg (obl_seq rfl (obl_seq rfl (obl_reg (obl_cond (obl_seq rfl (obl_seq rfl (obl_reg (obl_cond (obl_seq rfl (obl_reg (obl_ret (obl_skip (obl_seq rfl (obl_reg (obl_ret (obl_skip (obl_seq rfl (obl_seq rfl (obl_reg (obl_loop _ rfl (fun a_ w_ hL_ => (by
    obtain ⟨hz_, hd_, hL_⟩ := atSz_out hL_
    obtain ⟨t0_a, h0_, hL_⟩ := atS_out hL_
    obtain ⟨t1_b, h1_, hL_⟩ := atS_out hL_
    obtain ⟨t5_i, h5_, hL_⟩ := atI_out hL_
    obtain ⟨g0, rfl⟩ : ∃ g, a_ = Fr 45 [(0, t0_a.v), (1, t1_b.v), (5, Value.int .i64 t5_i)] g := ⟨_, fr_of hz_ hd_ [(0, t0_a.v), (1, t1_b.v), (5, Value.int .i64 t5_i)] (sel_cons h0_ (sel_cons h1_ (sel_cons h5_ sel_nil)))⟩
    clear hz_ hd_ h0_ h1_ h5_
    have hJ0_ := hL_
    refine ⟨(fun _ => none), kcast (h0 t0_a t1_b t5_i w_ hJ0_) ?_, ?_⟩
    · kernel_rfl
    · exact (obl_seq rfl (obl_seq rfl (obl_reg (obl_cond (obl_skip (obl_exit (obl_seq rfl (obl_blk rfl (obl_seq rfl (obl_seq rfl (obl_quiet (by kernel_rfl) (by kernel_rfl) (by kernel_rfl) (by kernel_rfl) (obl_cond (obl_seq rfl (obl_reg (obl_ret (obl_skip (obl_seq rfl (obl_quiet (by kernel_rfl) (by kernel_rfl) (by kernel_rfl) (by kernel_rfl) (obl_cond (obl_seq rfl (obl_reg (obl_ret (obl_skip (obl_reg trivial)))))))))))))))))))))))))) (obl_seq rfl (obl_reg (obl_ret trivial)))))))))))))))))))))))))))

def nat_Add_cut (J0 : Slc → Slc → Slc → Int → Int → Int → World → Prop) (m0 : Slc → Slc → Slc → Int → Int → Int → World → Nat) : Nat → Option ((Act → World → Prop) × (Act → World → Nat))
  | 0 => some (fun a_ w_ => atSz a_ 61 (atS a_ 0 fun t0_a => atS a_ 1 fun t1_b => atS a_ 6 fun t6_c => atI .u64 a_ 7 fun t7_carry => atI .i64 a_ 26 fun t26 => atI .i64 a_ 27 fun t27 => J0 t0_a t1_b t6_c t7_carry t26 t27 w_), fun a_ w_ => mS a_ 0 fun t0_a => mS a_ 1 fun t1_b => mS a_ 6 fun t6_c => mI a_ 7 fun t7_carry => mI a_ 26 fun t26 => mI a_ 27 fun t27 => m0 t0_a t1_b t6_c t7_carry t26 t27 w_)
  | _ => none

set_option maxRecDepth 100000 in
/-- surd/nat.Add: function 14. -/
theorem nat_Add_vc (a0_a : Slc) (a1_b : Slc) (w : World) (R : Ending → World → Prop)
    (J0 : Slc → Slc → Slc → Int → Int → Int → World → Prop) (m0 : Slc → Slc → Slc → Int → Int → Int → World → Nat)
    (h : Calls Try.prog 44 #[a0_a.v] w fun e1 w1 =>
    ∃ s1 : Slc, e1 = .returned s1.v ∧
    (Calls Try.prog 44 #[a1_b.v] w1 fun e2 w2 =>
      ∃ s2 : Slc, e2 = .returned s2.v ∧
      (br (decide ((s1.n : Int) < (s2.n : Int)))
        (semS Try.prog (Instr.makeSlice 24 (Value.int .i64 (IntKind.i64.wrap ((s2.n : Int) + 1))) (Value.int .i64 (IntKind.i64.wrap ((s2.n : Int) + 1)))) w2 fun s3 w3 =>
          J0 s2 s1 s3 0 (s2.n : Int) 0 w3)
        (semS Try.prog (Instr.makeSlice 24 (Value.int .i64 (IntKind.i64.wrap ((s1.n : Int) + 1))) (Value.int .i64 (IntKind.i64.wrap ((s1.n : Int) + 1)))) w2 fun s5 w16 =>
          J0 s1 s2 s5 0 (s1.n : Int) 0 w16))))
    (h0 : ∀ (t0_a : Slc) (t1_b : Slc) (t6_c : Slc) (t7_carry : Int) (t26 : Int) (t27 : Int) (w_ : World), J0 t0_a t1_b t6_c t7_carry t26 t27 w_ → 
    br (decide (t27 < t26))
    (br (decide (t27 < (t1_b.n : Int)))
      (semA Try.prog (Instr.indexAt 24 t1_b.v (Value.int .i64 t27)) w_ fun ad1 w4 =>
        ldI .u64 ad1 w4 fun x1 =>
        semA Try.prog (Instr.indexAt 24 t0_a.v (Value.int .i64 t27)) w4 fun ad2 w5 =>
        ldI .u64 ad2 w5 fun x2 =>
        Sem.wp Try.prog (callFunc 45 #[Value.int .u64 x2, Value.int .u64 x1, Value.int .u64 t7_carry]) (fun n1 w6 =>
          ∃ x3 : Int, ∃ x4 : Int, n1 = .value (Value.tuple #[Value.int .u64 x3, Value.int .u64 x4]) ∧
          (semA Try.prog (Instr.indexAt 24 t6_c.v (Value.int .i64 t27)) w6 fun ad3 w7 =>
            stC ad3 (Value.int .u64 x3) w7 fun w8 =>
            J0 t0_a t1_b t6_c x4 t26 (IntKind.i64.wrap (t27 + 1)) w8 ∧
            m0 t0_a t1_b t6_c x4 t26 (IntKind.i64.wrap (t27 + 1)) w8 < m0 t0_a t1_b t6_c t7_carry t26 t27 w_)) (fun _ _ => False) w5)
      (semA Try.prog (Instr.indexAt 24 t0_a.v (Value.int .i64 t27)) w_ fun ad4 w9 =>
        ldI .u64 ad4 w9 fun x5 =>
        Sem.wp Try.prog (callFunc 45 #[Value.int .u64 x5, Value.int .u64 0, Value.int .u64 t7_carry]) (fun n2 w10 =>
          ∃ x6 : Int, ∃ x7 : Int, n2 = .value (Value.tuple #[Value.int .u64 x6, Value.int .u64 x7]) ∧
          (semA Try.prog (Instr.indexAt 24 t6_c.v (Value.int .i64 t27)) w10 fun ad5 w11 =>
            stC ad5 (Value.int .u64 x6) w11 fun w12 =>
            J0 t0_a t1_b t6_c x7 t26 (IntKind.i64.wrap (t27 + 1)) w12 ∧
            m0 t0_a t1_b t6_c x7 t26 (IntKind.i64.wrap (t27 + 1)) w12 < m0 t0_a t1_b t6_c t7_carry t26 t27 w_)) (fun _ _ => False) w9))
    (semA Try.prog (Instr.indexAt 24 t6_c.v (Value.int .i64 (t0_a.n : Int))) w_ fun ad6 w13 =>
      stC ad6 (Value.int .u64 t7_carry) w13 fun w14 =>
      Calls Try.prog 46 #[t6_c.v] w14 fun e3 w15 =>
      ∃ s4 : Slc, ∃ x8 : Int, e3 = .returned (Value.tuple #[s4.v, Value.int .i64 x8]) ∧
      (R (.returned (Value.tuple #[s4.v, Value.int .i64 x8])) w15))) :
    Calls Try.prog 14 #[a0_a.v, a1_b.v] w R := by
  refine calls_of_vc (nat_Add_cut J0 m0) (by kernel_rfl) Try.func14 rfl ?_ ?_
  · refine kcast h ?_; kernel_rfl
  · exact (obl_seq rfl (obl_reg (obl_seq rfl (obl_reg (obl_seq rfl (obl_seq rfl (obl_reg (obl_cond (obl_reg (obl_skip (obl_seq rfl (obl_reg (obl_seq rfl (obl_reg (obl_seq rfl (obl_seq rfl (obl_reg (obl_loop _ rfl (fun a_ w_ hL_ => (by
    obtain ⟨hz_, hd_, hL_⟩ := atSz_out hL_
    obtain ⟨t0_a, h0_, hL_⟩ := atS_out hL_
    obtain ⟨t1_b, h1_, hL_⟩ := atS_out hL_
    obtain ⟨t6_c, h6_, hL_⟩ := atS_out hL_
    obtain ⟨t7_carry, h7_, hL_⟩ := atI_out hL_
    obtain ⟨t26, h26_, hL_⟩ := atI_out hL_
    obtain ⟨t27, h27_, hL_⟩ := atI_out hL_
    obtain ⟨g0, rfl⟩ : ∃ g, a_ = Fr 61 [(0, t0_a.v), (1, t1_b.v), (6, t6_c.v), (7, Value.int .u64 t7_carry), (26, Value.int .i64 t26), (27, Value.int .i64 t27)] g := ⟨_, fr_of hz_ hd_ [(0, t0_a.v), (1, t1_b.v), (6, t6_c.v), (7, Value.int .u64 t7_carry), (26, Value.int .i64 t26), (27, Value.int .i64 t27)] (sel_cons h0_ (sel_cons h1_ (sel_cons h6_ (sel_cons h7_ (sel_cons h26_ (sel_cons h27_ sel_nil))))))⟩
    clear hz_ hd_ h0_ h1_ h6_ h7_ h26_ h27_
    have hJ0_ := hL_
    refine ⟨(fun _ => none), kcast (h0 t0_a t1_b t6_c t7_carry t26 t27 w_ hJ0_) ?_, ?_⟩
    · kernel_rfl
    · exact (obl_seq rfl (obl_reg (obl_seq rfl (obl_cond (obl_skip (obl_exit (obl_seq rfl (obl_blk rfl (obl_seq rfl (obl_reg (obl_seq rfl (obl_reg (obl_seq rfl (obl_seq rfl (obl_reg (obl_cond (obl_reg (obl_skip (obl_reg (obl_reg trivial)))))))))))))))))))))) (obl_seq rfl (obl_reg (obl_seq rfl (obl_reg (obl_ret trivial)))))))))))))))))))))))

def nat_Sub_cut (J0 : Slc → Slc → Slc → Int → Int → Int → World → Prop) (m0 : Slc → Slc → Slc → Int → Int → Int → World → Nat) : Nat → Option ((Act → World → Prop) × (Act → World → Nat))
  | 0 => some (fun a_ w_ => atSz a_ 52 (atS a_ 0 fun t0_a => atS a_ 1 fun t1_b => atS a_ 6 fun t6_c => atI .u64 a_ 7 fun t7_borrow => atI .i64 a_ 22 fun t22 => atI .i64 a_ 23 fun t23 => J0 t0_a t1_b t6_c t7_borrow t22 t23 w_), fun a_ w_ => mS a_ 0 fun t0_a => mS a_ 1 fun t1_b => mS a_ 6 fun t6_c => mI a_ 7 fun t7_borrow => mI a_ 22 fun t22 => mI a_ 23 fun t23 => m0 t0_a t1_b t6_c t7_borrow t22 t23 w_)
  | _ => none

set_option maxRecDepth 100000 in
/-- surd/nat.Sub: function 18. -/
theorem nat_Sub_vc (a0_a : Slc) (a1_b : Slc) (w : World) (R : Ending → World → Prop)
    (J0 : Slc → Slc → Slc → Int → Int → Int → World → Prop) (m0 : Slc → Slc → Slc → Int → Int → Int → World → Nat)
    (h : Calls Try.prog 22 #[a0_a.v, a1_b.v] w fun e1 w1 =>
    ∃ x1 : Int, e1 = .returned (Value.int .i64 x1) ∧
    (br (decide (x1 < 0))
      (R (.returned (Value.tuple #[(⟨none, 0, 0⟩ : Slc).v, Value.int .i64 10])) w1)
      (Calls Try.prog 44 #[a0_a.v] w1 fun e2 w2 =>
        ∃ s1 : Slc, e2 = .returned s1.v ∧
        (Calls Try.prog 44 #[a1_b.v] w2 fun e3 w3 =>
          ∃ s2 : Slc, e3 = .returned s2.v ∧
          (semS Try.prog (Instr.makeSlice 24 (Value.int .i64 (s1.n : Int)) (Value.int .i64 (s1.n : Int))) w3 fun s3 w4 =>
            J0 s1 s2 s3 0 (s1.n : Int) 0 w4)))))
    (h0 : ∀ (t0_a : Slc) (t1_b : Slc) (t6_c : Slc) (t7_borrow : Int) (t22 : Int) (t23 : Int) (w_ : World), J0 t0_a t1_b t6_c t7_borrow t22 t23 w_ → 
    br (decide (t23 < t22))
    (br (decide (t23 < (t1_b.n : Int)))
      (semA Try.prog (Instr.indexAt 24 t1_b.v (Value.int .i64 t23)) w_ fun ad1 w5 =>
        ldI .u64 ad1 w5 fun x2 =>
        semA Try.prog (Instr.indexAt 24 t0_a.v (Value.int .i64 t23)) w5 fun ad2 w6 =>
        ldI .u64 ad2 w6 fun x3 =>
        Sem.wp Try.prog (callFunc 48 #[Value.int .u64 x3, Value.int .u64 x2, Value.int .u64 t7_borrow]) (fun n1 w7 =>
          ∃ x4 : Int, ∃ x5 : Int, n1 = .value (Value.tuple #[Value.int .u64 x4, Value.int .u64 x5]) ∧
          (semA Try.prog (Instr.indexAt 24 t6_c.v (Value.int .i64 t23)) w7 fun ad3 w8 =>
            stC ad3 (Value.int .u64 x4) w8 fun w9 =>
            J0 t0_a t1_b t6_c x5 t22 (IntKind.i64.wrap (t23 + 1)) w9 ∧
            m0 t0_a t1_b t6_c x5 t22 (IntKind.i64.wrap (t23 + 1)) w9 < m0 t0_a t1_b t6_c t7_borrow t22 t23 w_)) (fun _ _ => False) w6)
      (semA Try.prog (Instr.indexAt 24 t0_a.v (Value.int .i64 t23)) w_ fun ad4 w10 =>
        ldI .u64 ad4 w10 fun x6 =>
        Sem.wp Try.prog (callFunc 48 #[Value.int .u64 x6, Value.int .u64 0, Value.int .u64 t7_borrow]) (fun n2 w11 =>
          ∃ x7 : Int, ∃ x8 : Int, n2 = .value (Value.tuple #[Value.int .u64 x7, Value.int .u64 x8]) ∧
          (semA Try.prog (Instr.indexAt 24 t6_c.v (Value.int .i64 t23)) w11 fun ad5 w12 =>
            stC ad5 (Value.int .u64 x7) w12 fun w13 =>
            J0 t0_a t1_b t6_c x8 t22 (IntKind.i64.wrap (t23 + 1)) w13 ∧
            m0 t0_a t1_b t6_c x8 t22 (IntKind.i64.wrap (t23 + 1)) w13 < m0 t0_a t1_b t6_c t7_borrow t22 t23 w_)) (fun _ _ => False) w10))
    (Calls Try.prog 46 #[t6_c.v] w_ fun e4 w14 =>
      ∃ s4 : Slc, ∃ x9 : Int, e4 = .returned (Value.tuple #[s4.v, Value.int .i64 x9]) ∧
      (R (.returned (Value.tuple #[s4.v, Value.int .i64 x9])) w14))) :
    Calls Try.prog 18 #[a0_a.v, a1_b.v] w R := by
  refine calls_of_vc (nat_Sub_cut J0 m0) (by kernel_rfl) Try.func18 rfl ?_ ?_
  · refine kcast h ?_; kernel_rfl
  · exact (obl_seq rfl (obl_reg (obl_seq rfl (obl_seq rfl (obl_reg (obl_cond (obl_seq rfl (obl_reg (obl_ret (obl_skip (obl_seq rfl (obl_reg (obl_seq rfl (obl_reg (obl_seq rfl (obl_reg (obl_seq rfl (obl_seq rfl (obl_reg (obl_loop _ rfl (fun a_ w_ hL_ => (by
    obtain ⟨hz_, hd_, hL_⟩ := atSz_out hL_
    obtain ⟨t0_a, h0_, hL_⟩ := atS_out hL_
    obtain ⟨t1_b, h1_, hL_⟩ := atS_out hL_
    obtain ⟨t6_c, h6_, hL_⟩ := atS_out hL_
    obtain ⟨t7_borrow, h7_, hL_⟩ := atI_out hL_
    obtain ⟨t22, h22_, hL_⟩ := atI_out hL_
    obtain ⟨t23, h23_, hL_⟩ := atI_out hL_
    obtain ⟨g0, rfl⟩ : ∃ g, a_ = Fr 52 [(0, t0_a.v), (1, t1_b.v), (6, t6_c.v), (7, Value.int .u64 t7_borrow), (22, Value.int .i64 t22), (23, Value.int .i64 t23)] g := ⟨_, fr_of hz_ hd_ [(0, t0_a.v), (1, t1_b.v), (6, t6_c.v), (7, Value.int .u64 t7_borrow), (22, Value.int .i64 t22), (23, Value.int .i64 t23)] (sel_cons h0_ (sel_cons h1_ (sel_cons h6_ (sel_cons h7_ (sel_cons h22_ (sel_cons h23_ sel_nil))))))⟩
    clear hz_ hd_ h0_ h1_ h6_ h7_ h22_ h23_
    have hJ0_ := hL_
    refine ⟨(fun _ => none), kcast (h0 t0_a t1_b t6_c t7_borrow t22 t23 w_ hJ0_) ?_, ?_⟩
    · kernel_rfl
    · exact (obl_seq rfl (obl_reg (obl_seq rfl (obl_cond (obl_skip (obl_exit (obl_seq rfl (obl_blk rfl (obl_seq rfl (obl_reg (obl_seq rfl (obl_reg (obl_seq rfl (obl_seq rfl (obl_reg (obl_cond (obl_reg (obl_skip (obl_reg (obl_reg trivial)))))))))))))))))))))) (obl_seq rfl (obl_reg (obl_ret trivial)))))))))))))))))))))))

def nat_Left_cut (J0 : Int → Int → Slc → Slc → Int → Int → World → Prop) (m0 : Int → Int → Slc → Slc → Int → Int → World → Nat) : Nat → Option ((Act → World → Prop) × (Act → World → Nat))
  | 0 => some (fun a_ w_ => atSz a_ 73 (atI .i64 a_ 6 fun t6 => atI .u64 a_ 7 fun t7 => atS a_ 8 fun t8 => atS a_ 38 fun t38 => atI .i64 a_ 39 fun t39 => atI .i64 a_ 40 fun t40 => J0 t6 t7 t8 t38 t39 t40 w_), fun a_ w_ => mI a_ 6 fun t6 => mI a_ 7 fun t7 => mS a_ 8 fun t8 => mS a_ 38 fun t38 => mI a_ 39 fun t39 => mI a_ 40 fun t40 => m0 t6 t7 t8 t38 t39 t40 w_)
  | _ => none

set_option maxRecDepth 100000 in
/-- surd/nat.Left: function 24. -/
theorem nat_Left_vc (a0 : Slc) (a1 : Int) (w : World) (R : Ending → World → Prop)
    (J0 : Int → Int → Slc → Slc → Int → Int → World → Prop) (m0 : Int → Int → Slc → Slc → Int → Int → World → Nat)
    (h : br (decide (a1 < 0))
    (R (.returned (Value.tuple #[(⟨none, 0, 0⟩ : Slc).v, Value.int .i64 1])) w)
    (br (decide (a1 > 1099511627776))
      (R (.returned (Value.tuple #[(⟨none, 0, 0⟩ : Slc).v, Value.int .i64 1])) w)
      (Calls Try.prog 44 #[a0.v] w fun e1 w1 =>
        ∃ s1 : Slc, e1 = .returned s1.v ∧
        (br ((s1.n : Int) == 0)
          (R (.returned (Value.tuple #[(⟨none, 0, 0⟩ : Slc).v, Value.int .i64 0])) w1)
          (Calls Try.prog 23 #[s1.v] w1 fun e2 w2 =>
            ∃ x1 : Int, e2 = .returned (Value.int .i64 x1) ∧
            (br (decide ((IntKind.i64.wrap (x1 + a1)) > 67108864))
              (R (.returned (Value.tuple #[(⟨none, 0, 0⟩ : Slc).v, Value.int .i64 3])) w2)
              (semS Try.prog (Instr.makeSlice 24 (Value.int .i64 (IntKind.i64.wrap ((IntKind.i64.wrap ((IntKind.i64.wrap (Int.tdiv a1 64)) + (s1.n : Int))) + 1))) (Value.int .i64 (IntKind.i64.wrap ((IntKind.i64.wrap ((IntKind.i64.wrap (Int.tdiv a1 64)) + (s1.n : Int))) + 1)))) w2 fun s2 w3 =>
                J0 (IntKind.i64.wrap (Int.tdiv a1 64)) (IntKind.u64.wrap (Int.tmod a1 64)) s2 s1 (s1.n : Int) 0 w3)))))))
    (h0 : ∀ (t6 : Int) (t7 : Int) (t8 : Slc) (t38 : Slc) (t39 : Int) (t40 : Int) (w_ : World), J0 t6 t7 t8 t38 t39 t40 w_ → 
    br (decide (t40 < t39))
    (semA Try.prog (Instr.indexAt 24 t38.v (Value.int .i64 t40)) w_ fun ad1 w4 =>
      ldI .u64 ad1 w4 fun x2 =>
      semA Try.prog (Instr.indexAt 24 t8.v (Value.int .i64 (IntKind.i64.wrap (t6 + t40)))) w4 fun ad2 w5 =>
      ldI .u64 ad2 w5 fun x3 =>
      semI Try.prog .u64 (binOp .shl 49 (Value.int .u64 x2) (Value.int .u64 t7)) w5 fun x4 w6 =>
      semA Try.prog (Instr.indexAt 24 t8.v (Value.int .i64 (IntKind.i64.wrap (t6 + t40)))) w6 fun ad3 w7 =>
      stC ad3 (Value.int .u64 (orI .u64 x3 x4)) w7 fun w8 =>
      semA Try.prog (Instr.indexAt 24 t8.v (Value.int .i64 (IntKind.i64.wrap ((IntKind.i64.wrap (t6 + t40)) + 1)))) w8 fun ad4 w9 =>
      ldI .u64 ad4 w9 fun x5 =>
      semI Try.prog .u64 (binOp .shr 49 (Value.int .u64 (Int.fdiv x2 (2 ^ (1 : Nat)))) (Value.int .u64 (IntKind.u64.wrap (63 - t7)))) w9 fun x6 w10 =>
      semA Try.prog (Instr.indexAt 24 t8.v (Value.int .i64 (IntKind.i64.wrap ((IntKind.i64.wrap (t6 + t40)) + 1)))) w10 fun ad5 w11 =>
      stC ad5 (Value.int .u64 (orI .u64 x5 x6)) w11 fun w12 =>
      J0 t6 t7 t8 t38 t39 (IntKind.i64.wrap (t40 + 1)) w12 ∧
      m0 t6 t7 t8 t38 t39 (IntKind.i64.wrap (t40 + 1)) w12 < m0 t6 t7 t8 t38 t39 t40 w_)
    (Calls Try.prog 44 #[t8.v] w_ fun e3 w13 =>
      ∃ s3 : Slc, e3 = .returned s3.v ∧
      (R (.returned (Value.tuple #[s3.v, Value.int .i64 0])) w13))) :
    Calls Try.prog 24 #[a0.v, Value.int .i64 a1] w R := by
  refine calls_of_vc (nat_Left_cut J0 m0) (by kernel_rfl) Try.func24 rfl ?_ ?_
  · refine kcast h ?_; kernel_rfl
  · exact (obl_seq rfl (obl_reg (obl_seq rfl (obl_seq rfl (obl_reg (obl_cond (obl_seq rfl (obl_reg (obl_ret (obl_skip (obl_seq rfl (obl_reg (obl_seq rfl (obl_seq rfl (obl_reg (obl_cond (obl_seq rfl (obl_reg (obl_ret (obl_skip (obl_seq rfl (obl_seq rfl (obl_reg (obl_cond (obl_seq rfl (obl_reg (obl_ret (obl_skip (obl_seq rfl (obl_reg (obl_seq rfl (obl_reg (obl_seq rfl (obl_seq rfl (obl_reg (obl_loop _ rfl (fun a_ w_ hL_ => (by
    obtain ⟨hz_, hd_, hL_⟩ := atSz_out hL_
    obtain ⟨t6, h6_, hL_⟩ := atI_out hL_
    obtain ⟨t7, h7_, hL_⟩ := atI_out hL_
    obtain ⟨t8, h8_, hL_⟩ := atS_out hL_
    obtain ⟨t38, h38_, hL_⟩ := atS_out hL_
    obtain ⟨t39, h39_, hL_⟩ := atI_out hL_
    obtain ⟨t40, h40_, hL_⟩ := atI_out hL_
    obtain ⟨g0, rfl⟩ : ∃ g, a_ = Fr 73 [(6, Value.int .i64 t6), (7, Value.int .u64 t7), (8, t8.v), (38, t38.v), (39, Value.int .i64 t39), (40, Value.int .i64 t40)] g := ⟨_, fr_of hz_ hd_ [(6, Value.int .i64 t6), (7, Value.int .u64 t7), (8, t8.v), (38, t38.v), (39, Value.int .i64 t39), (40, Value.int .i64 t40)] (sel_cons h6_ (sel_cons h7_ (sel_cons h8_ (sel_cons h38_ (sel_cons h39_ (sel_cons h40_ sel_nil))))))⟩
    clear hz_ hd_ h6_ h7_ h8_ h38_ h39_ h40_
    have hJ0_ := hL_
    refine ⟨(fun _ => none), kcast (h0 t6 t7 t8 t38 t39 t40 w_ hJ0_) ?_, ?_⟩
    · kernel_rfl
    · exact (obl_seq rfl (obl_reg (obl_seq rfl (obl_cond (obl_skip (obl_exit (obl_seq rfl (obl_blk rfl (obl_seq rfl (obl_reg (obl_seq rfl (obl_reg (obl_reg (obl_reg trivial)))))))))))))))) (obl_seq rfl (obl_reg (obl_ret trivial)))))))))))))))))))))))))))))))))))))))

def nat_Right_cut (J0 : Slc → Int → Int → Slc → Int → Int → World → Prop) (m0 : Slc → Int → Int → Slc → Int → Int → World → Nat) : Nat → Option ((Act → World → Prop) × (Act → World → Nat))
  | 0 => some (fun a_ w_ => atSz a_ 77 (atS a_ 0 fun t0 => atI .i64 a_ 6 fun t6 => atI .u64 a_ 7 fun t7 => atS a_ 8 fun t8 => atI .i64 a_ 33 fun t33 => atI .i64 a_ 34 fun t34 => J0 t0 t6 t7 t8 t33 t34 w_), fun a_ w_ => mS a_ 0 fun t0 => mI a_ 6 fun t6 => mI a_ 7 fun t7 => mS a_ 8 fun t8 => mI a_ 33 fun t33 => mI a_ 34 fun t34 => m0 t0 t6 t7 t8 t33 t34 w_)
  | _ => none

set_option maxRecDepth 100000 in
/-- surd/nat.Right: function 25. -/
theorem nat_Right_vc (a0 : Slc) (a1 : Int) (w : World) (R : Ending → World → Prop)
    (J0 : Slc → Int → Int → Slc → Int → Int → World → Prop) (m0 : Slc → Int → Int → Slc → Int → Int → World → Nat)
    (h : br (decide (a1 < 0))
    (R (.returned (Value.tuple #[(⟨none, 0, 0⟩ : Slc).v, Value.int .i64 1])) w)
    (br (decide (a1 > 1099511627776))
      (R (.returned (Value.tuple #[(⟨none, 0, 0⟩ : Slc).v, Value.int .i64 1])) w)
      (Calls Try.prog 44 #[a0.v] w fun e1 w1 =>
        ∃ s1 : Slc, e1 = .returned s1.v ∧
        (br (decide ((IntKind.i64.wrap (Int.tdiv a1 64)) ≥ (s1.n : Int)))
          (R (.returned (Value.tuple #[(⟨none, 0, 0⟩ : Slc).v, Value.int .i64 0])) w1)
          (semS Try.prog (Instr.makeSlice 24 (Value.int .i64 (IntKind.i64.wrap ((s1.n : Int) - (IntKind.i64.wrap (Int.tdiv a1 64))))) (Value.int .i64 (IntKind.i64.wrap ((s1.n : Int) - (IntKind.i64.wrap (Int.tdiv a1 64)))))) w1 fun s2 w2 =>
            J0 s1 (IntKind.i64.wrap (Int.tdiv a1 64)) (IntKind.u64.wrap (Int.tmod a1 64)) s2 (s2.n : Int) 0 w2)))))
    (h0 : ∀ (t0 : Slc) (t6 : Int) (t7 : Int) (t8 : Slc) (t33 : Int) (t34 : Int) (w_ : World), J0 t0 t6 t7 t8 t33 t34 w_ → 
    br (decide (t34 < t33))
    (semA Try.prog (Instr.indexAt 24 t0.v (Value.int .i64 (IntKind.i64.wrap (t6 + t34)))) w_ fun ad1 w3 =>
      ldI .u64 ad1 w3 fun x1 =>
      semI Try.prog .u64 (binOp .shr 49 (Value.int .u64 x1) (Value.int .u64 t7)) w3 fun x2 w4 =>
      semA Try.prog (Instr.indexAt 24 t8.v (Value.int .i64 t34)) w4 fun ad2 w5 =>
      stC ad2 (Value.int .u64 x2) w5 fun w6 =>
      br (decide ((IntKind.i64.wrap ((IntKind.i64.wrap (t6 + t34)) + 1)) < (t0.n : Int)))
      (fixA Try.prog (Instr.indexAt 24 t8.v (Value.int .i64 t34)) w6 fun ad3 =>
        ldI .u64 ad3 w6 fun x3 =>
        fixA Try.prog (Instr.indexAt 24 t0.v (Value.int .i64 (IntKind.i64.wrap ((IntKind.i64.wrap (t6 + t34)) + 1)))) w6 fun ad4 =>
        ldI .u64 ad4 w6 fun x4 =>
        fixI Try.prog .u64 (binOp .shl 49 (Value.int .u64 (IntKind.u64.wrap (x4 * 2 ^ (1 : Nat)))) (Value.int .u64 (IntKind.u64.wrap (63 - t7)))) w6 fun x5 =>
        fixA Try.prog (Instr.indexAt 24 t8.v (Value.int .i64 t34)) w6 fun ad5 =>
        stC ad5 (Value.int .u64 (orI .u64 x3 x5)) w6.drew fun w7 =>
        J0 t0 t6 t7 t8 t33 (IntKind.i64.wrap (t34 + 1)) w7 ∧
        m0 t0 t6 t7 t8 t33 (IntKind.i64.wrap (t34 + 1)) w7 < m0 t0 t6 t7 t8 t33 t34 w_)
      (J0 t0 t6 t7 t8 t33 (IntKind.i64.wrap (t34 + 1)) w6 ∧
        m0 t0 t6 t7 t8 t33 (IntKind.i64.wrap (t34 + 1)) w6 < m0 t0 t6 t7 t8 t33 t34 w_))
    (Calls Try.prog 46 #[t8.v] w_ fun e2 w8 =>
      ∃ s3 : Slc, ∃ x6 : Int, e2 = .returned (Value.tuple #[s3.v, Value.int .i64 x6]) ∧
      (R (.returned (Value.tuple #[s3.v, Value.int .i64 x6])) w8))) :
    Calls Try.prog 25 #[a0.v, Value.int .i64 a1] w R := by
  refine calls_of_vc (nat_Right_cut J0 m0) (by kernel_rfl) Try.func25 rfl ?_ ?_
  · refine kcast h ?_; kernel_rfl
  · exact (obl_seq rfl (obl_reg (obl_seq rfl (obl_seq rfl (obl_reg (obl_cond (obl_seq rfl (obl_reg (obl_ret (obl_skip (obl_seq rfl (obl_reg (obl_seq rfl (obl_reg (obl_seq rfl (obl_seq rfl (obl_reg (obl_cond (obl_seq rfl (obl_reg (obl_ret (obl_skip (obl_seq rfl (obl_reg (obl_seq rfl (obl_seq rfl (obl_reg (obl_loop _ rfl (fun a_ w_ hL_ => (by
    obtain ⟨hz_, hd_, hL_⟩ := atSz_out hL_
    obtain ⟨t0, h0_, hL_⟩ := atS_out hL_
    obtain ⟨t6, h6_, hL_⟩ := atI_out hL_
    obtain ⟨t7, h7_, hL_⟩ := atI_out hL_
    obtain ⟨t8, h8_, hL_⟩ := atS_out hL_
    obtain ⟨t33, h33_, hL_⟩ := atI_out hL_
    obtain ⟨t34, h34_, hL_⟩ := atI_out hL_
    obtain ⟨g0, rfl⟩ : ∃ g, a_ = Fr 77 [(0, t0.v), (6, Value.int .i64 t6), (7, Value.int .u64 t7), (8, t8.v), (33, Value.int .i64 t33), (34, Value.int .i64 t34)] g := ⟨_, fr_of hz_ hd_ [(0, t0.v), (6, Value.int .i64 t6), (7, Value.int .u64 t7), (8, t8.v), (33, Value.int .i64 t33), (34, Value.int .i64 t34)] (sel_cons h0_ (sel_cons h6_ (sel_cons h7_ (sel_cons h8_ (sel_cons h33_ (sel_cons h34_ sel_nil))))))⟩
    clear hz_ hd_ h0_ h6_ h7_ h8_ h33_ h34_
    have hJ0_ := hL_
    refine ⟨(fun _ => none), kcast (h0 t0 t6 t7 t8 t33 t34 w_ hJ0_) ?_, ?_⟩
    · kernel_rfl
    · exact (obl_seq rfl (obl_reg (obl_seq rfl (obl_cond (obl_skip (obl_exit (obl_seq rfl (obl_blk rfl (obl_seq rfl (obl_reg (obl_seq rfl (obl_reg (obl_seq rfl (obl_reg (obl_cond (obl_tail 17 (by kernel_rfl) (by kernel_rfl) (by kernel_rfl) (by kernel_rfl) (by kernel_rfl) (obl_skip (obl_reg trivial)))))))))))))))))))) (obl_seq rfl (obl_reg (obl_ret trivial)))))))))))))))))))))))))))))))

set_option maxRecDepth 100000 in
/-- surd/nat.Length: function 23. -/
theorem nat_Length_vc (a0_a : Slc) (w : World) (R : Ending → World → Prop)
    
    (h : Calls Try.prog 44 #[a0_a.v] w fun e1 w1 =>
    ∃ s1 : Slc, e1 = .returned s1.v ∧
    (br ((s1.n : Int) == 0)
      (R (.returned (Value.int .i64 0)) w1)
      (semA Try.prog (Instr.indexAt 24 s1.v (Value.int .i64 (IntKind.i64.wrap ((s1.n : Int) - 1)))) w1 fun ad1 w2 =>
        ldI .u64 ad1 w2 fun x1 =>
        Calls Try.prog 49 #[Value.int .u64 x1] w2 fun e2 w3 =>
        ∃ x2 : Int, e2 = .returned (Value.int .i64 x2) ∧
        (R (.returned (Value.int .i64 (IntKind.i64.wrap ((IntKind.i64.wrap (64 * (IntKind.i64.wrap ((s1.n : Int) - 1)))) + x2)))) w3)))) :
    Calls Try.prog 23 #[a0_a.v] w R := by
  refine calls_of_vc (fun _ => none) (by kernel_rfl) Try.func23 rfl ?_ ?_
  · refine kcast h ?_; kernel_rfl
  · exact (obl_seq rfl (obl_reg (obl_seq rfl (obl_reg (obl_seq rfl (obl_seq rfl (obl_reg (obl_cond (obl_seq rfl (obl_reg (obl_ret (obl_skip (obl_seq rfl (obl_reg (obl_ret trivial)))))))))))))))

set_option maxRecDepth 100000 in
/-- surd/nat.Low: function 26. -/
theorem nat_Low_vc (a0_a : Slc) (a1_n : Int) (w : World) (R : Ending → World → Prop)
    
    (h : br (decide (a1_n < 0))
    (R (.returned (Value.tuple #[(⟨none, 0, 0⟩ : Slc).v, Value.int .i64 1])) w)
    (br (decide (a1_n > 1099511627776))
      (R (.returned (Value.tuple #[(⟨none, 0, 0⟩ : Slc).v, Value.int .i64 1])) w)
      (br (decide ((IntKind.i64.wrap (Int.tdiv a1_n 64)) ≥ (a0_a.n : Int)))
        (Calls Try.prog 50 #[a0_a.v] w fun e1 w1 =>
          ∃ s1 : Slc, e1 = .returned s1.v ∧
          (Calls Try.prog 46 #[s1.v] w1 fun e2 w2 =>
            ∃ s2 : Slc, ∃ x1 : Int, e2 = .returned (Value.tuple #[s2.v, Value.int .i64 x1]) ∧
            (R (.returned (Value.tuple #[s2.v, Value.int .i64 x1])) w2)))
        (semS Try.prog (Instr.sliceAt 24 a0_a.v none (some (Value.int .i64 (IntKind.i64.wrap ((IntKind.i64.wrap (Int.tdiv a1_n 64)) + 1)))) none) w fun s3 w3 =>
          semS Try.prog (Builtin.append_ #[24, 24] 24 #[(⟨none, 0, 0⟩ : Slc).v, s3.v]) w3 fun s4 w4 =>
          semA Try.prog (Instr.indexAt 24 s4.v (Value.int .i64 (IntKind.i64.wrap (Int.tdiv a1_n 64)))) w4 fun ad1 w5 =>
          ldI .u64 ad1 w5 fun x2 =>
          semI Try.prog .u64 (binOp .shl 49 (Value.int .u64 1) (Value.int .u64 (IntKind.u64.wrap (Int.tmod a1_n 64)))) w5 fun x3 w6 =>
          semA Try.prog (Instr.indexAt 24 s4.v (Value.int .i64 (IntKind.i64.wrap (Int.tdiv a1_n 64)))) w6 fun ad2 w7 =>
          stC ad2 (Value.int .u64 (andI .u64 x2 (IntKind.u64.wrap (x3 - 1)))) w7 fun w8 =>
          Calls Try.prog 46 #[s4.v] w8 fun e3 w9 =>
          ∃ s5 : Slc, ∃ x4 : Int, e3 = .returned (Value.tuple #[s5.v, Value.int .i64 x4]) ∧
          (R (.returned (Value.tuple #[s5.v, Value.int .i64 x4])) w9))))) :
    Calls Try.prog 26 #[a0_a.v, Value.int .i64 a1_n] w R := by
  refine calls_of_vc (fun _ => none) (by kernel_rfl) Try.func26 rfl ?_ ?_
  · refine kcast h ?_; kernel_rfl
  · exact (obl_seq rfl (obl_reg (obl_seq rfl (obl_seq rfl (obl_reg (obl_cond (obl_seq rfl (obl_reg (obl_ret (obl_skip (obl_seq rfl (obl_reg (obl_seq rfl (obl_seq rfl (obl_reg (obl_cond (obl_seq rfl (obl_reg (obl_ret (obl_skip (obl_seq rfl (obl_reg (obl_seq rfl (obl_reg (obl_seq rfl (obl_reg (obl_ret trivial)))))))))))))))))))))))))))

def nat_Count_cut (J0 : Int → Slc → Int → Int → World → Prop) (m0 : Int → Slc → Int → Int → World → Nat) : Nat → Option ((Act → World → Prop) × (Act → World → Nat))
  | 0 => some (fun a_ w_ => atSz a_ 18 (atI .i64 a_ 3 fun t3_n => atS a_ 6 fun t6 => atI .i64 a_ 7 fun t7 => atI .i64 a_ 8 fun t8 => J0 t3_n t6 t7 t8 w_), fun a_ w_ => mI a_ 3 fun t3_n => mS a_ 6 fun t6 => mI a_ 7 fun t7 => mI a_ 8 fun t8 => m0 t3_n t6 t7 t8 w_)
  | _ => none

set_option maxRecDepth 100000 in
/-- surd/nat.Count: function 37. -/
theorem nat_Count_vc (a0_a : Slc) (w : World) (R : Ending → World → Prop)
    (J0 : Int → Slc → Int → Int → World → Prop) (m0 : Int → Slc → Int → Int → World → Nat)
    (h : J0 0 a0_a (a0_a.n : Int) 0 w)
    (h0 : ∀ (t3_n : Int) (t6 : Slc) (t7 : Int) (t8 : Int) (w_ : World), J0 t3_n t6 t7 t8 w_ → 
    br (decide (t8 < t7))
    (semA Try.prog (Instr.indexAt 24 t6.v (Value.int .i64 t8)) w_ fun ad1 w1 =>
      ldI .u64 ad1 w1 fun x1 =>
      Calls Try.prog 56 #[Value.int .u64 x1] w1 fun e1 w2 =>
      ∃ x2 : Int, e1 = .returned (Value.int .i64 x2) ∧
      (J0 (IntKind.i64.wrap (t3_n + x2)) t6 t7 (IntKind.i64.wrap (t8 + 1)) w2 ∧
        m0 (IntKind.i64.wrap (t3_n + x2)) t6 t7 (IntKind.i64.wrap (t8 + 1)) w2 < m0 t3_n t6 t7 t8 w_))
    (R (.returned (Value.int .i64 t3_n)) w_)) :
    Calls Try.prog 37 #[a0_a.v] w R := by
  refine calls_of_vc (nat_Count_cut J0 m0) (by kernel_rfl) Try.func37 rfl ?_ ?_
  · refine kcast h ?_; kernel_rfl
  · exact (obl_seq rfl (obl_reg (obl_seq rfl (obl_reg (obl_seq rfl (obl_seq rfl (obl_reg (obl_loop _ rfl (fun a_ w_ hL_ => (by
    obtain ⟨hz_, hd_, hL_⟩ := atSz_out hL_
    obtain ⟨t3_n, h3_, hL_⟩ := atI_out hL_
    obtain ⟨t6, h6_, hL_⟩ := atS_out hL_
    obtain ⟨t7, h7_, hL_⟩ := atI_out hL_
    obtain ⟨t8, h8_, hL_⟩ := atI_out hL_
    obtain ⟨g0, rfl⟩ : ∃ g, a_ = Fr 18 [(3, Value.int .i64 t3_n), (6, t6.v), (7, Value.int .i64 t7), (8, Value.int .i64 t8)] g := ⟨_, fr_of hz_ hd_ [(3, Value.int .i64 t3_n), (6, t6.v), (7, Value.int .i64 t7), (8, Value.int .i64 t8)] (sel_cons h3_ (sel_cons h6_ (sel_cons h7_ (sel_cons h8_ sel_nil))))⟩
    clear hz_ hd_ h3_ h6_ h7_ h8_
    have hJ0_ := hL_
    refine ⟨(fun _ => none), kcast (h0 t3_n t6 t7 t8 w_ hJ0_) ?_, ?_⟩
    · kernel_rfl
    · exact (obl_seq rfl (obl_reg (obl_seq rfl (obl_cond (obl_skip (obl_exit (obl_seq rfl (obl_blk rfl (obl_seq rfl (obl_reg (obl_reg (obl_reg trivial)))))))))))))) (obl_seq rfl (obl_reg (obl_ret trivial)))))))))))

def nat_Times_cut (J0 : Slc → Int → Slc → Int → Slc → Int → Int → World → Prop) (m0 : Slc → Int → Slc → Int → Slc → Int → Int → World → Nat) : Nat → Option ((Act → World → Prop) × (Act → World → Nat))
  | 0 => some (fun a_ w_ => atSz a_ 56 (atS a_ 0 fun t0_a => atI .u64 a_ 1 fun t1_m => atS a_ 6 fun t6_c => atI .u64 a_ 7 fun t7_carry => atS a_ 20 fun t20 => atI .i64 a_ 21 fun t21 => atI .i64 a_ 22 fun t22 => J0 t0_a t1_m t6_c t7_carry t20 t21 t22 w_), fun a_ w_ => mS a_ 0 fun t0_a => mI a_ 1 fun t1_m => mS a_ 6 fun t6_c => mI a_ 7 fun t7_carry => mS a_ 20 fun t20 => mI a_ 21 fun t21 => mI a_ 22 fun t22 => m0 t0_a t1_m t6_c t7_carry t20 t21 t22 w_)
  | _ => none

set_option maxRecDepth 100000 in
/-- surd/nat.Times: function 38. -/
theorem nat_Times_vc (a0_a : Slc) (a1_m : Int) (w : World) (R : Ending → World → Prop)
    (J0 : Slc → Int → Slc → Int → Slc → Int → Int → World → Prop) (m0 : Slc → Int → Slc → Int → Slc → Int → Int → World → Nat)
    (h : Calls Try.prog 44 #[a0_a.v] w fun e1 w1 =>
    ∃ s1 : Slc, e1 = .returned s1.v ∧
    (semS Try.prog (Instr.makeSlice 24 (Value.int .i64 (IntKind.i64.wrap ((s1.n : Int) + 1))) (Value.int .i64 (IntKind.i64.wrap ((s1.n : Int) + 1)))) w1 fun s2 w2 =>
      J0 s1 a1_m s2 0 s1 (s1.n : Int) 0 w2))
    (h0 : ∀ (t0_a : Slc) (t1_m : Int) (t6_c : Slc) (t7_carry : Int) (t20 : Slc) (t21 : Int) (t22 : Int) (w_ : World), J0 t0_a t1_m t6_c t7_carry t20 t21 t22 w_ → 
    br (decide (t22 < t21))
    (semA Try.prog (Instr.indexAt 24 t20.v (Value.int .i64 t22)) w_ fun ad1 w3 =>
      ldI .u64 ad1 w3 fun x1 =>
      Calls Try.prog 57 #[Value.int .u64 x1, Value.int .u64 t1_m] w3 fun e2 w4 =>
      ∃ x2 : Int, ∃ x3 : Int, e2 = .returned (Value.tuple #[Value.int .u64 x2, Value.int .u64 x3]) ∧
      (Sem.wp Try.prog (callFunc 45 #[Value.int .u64 x3, Value.int .u64 t7_carry, Value.int .u64 0]) (fun n1 w5 =>
          ∃ x4 : Int, ∃ x5 : Int, n1 = .value (Value.tuple #[Value.int .u64 x4, Value.int .u64 x5]) ∧
          (semA Try.prog (Instr.indexAt 24 t6_c.v (Value.int .i64 t22)) w5 fun ad2 w6 =>
            stC ad2 (Value.int .u64 x4) w6 fun w7 =>
            J0 t0_a t1_m t6_c (IntKind.u64.wrap (x2 + x5)) t20 t21 (IntKind.i64.wrap (t22 + 1)) w7 ∧
            m0 t0_a t1_m t6_c (IntKind.u64.wrap (x2 + x5)) t20 t21 (IntKind.i64.wrap (t22 + 1)) w7 < m0 t0_a t1_m t6_c t7_carry t20 t21 t22 w_)) (fun _ _ => False) w4))
    (semA Try.prog (Instr.indexAt 24 t6_c.v (Value.int .i64 (t0_a.n : Int))) w_ fun ad3 w8 =>
      stC ad3 (Value.int .u64 t7_carry) w8 fun w9 =>
      Calls Try.prog 46 #[t6_c.v] w9 fun e3 w10 =>
      ∃ s3 : Slc, ∃ x6 : Int, e3 = .returned (Value.tuple #[s3.v, Value.int .i64 x6]) ∧
      (R (.returned (Value.tuple #[s3.v, Value.int .i64 x6])) w10))) :
    Calls Try.prog 38 #[a0_a.v, Value.int .u64 a1_m] w R := by
  refine calls_of_vc (nat_Times_cut J0 m0) (by kernel_rfl) Try.func38 rfl ?_ ?_
  · refine kcast h ?_; kernel_rfl
  · exact (obl_seq rfl (obl_reg (obl_seq rfl (obl_reg (obl_seq rfl (obl_reg (obl_seq rfl (obl_reg (obl_seq rfl (obl_seq rfl (obl_reg (obl_loop _ rfl (fun a_ w_ hL_ => (by
    obtain ⟨hz_, hd_, hL_⟩ := atSz_out hL_
    obtain ⟨t0_a, h0_, hL_⟩ := atS_out hL_
    obtain ⟨t1_m, h1_, hL_⟩ := atI_out hL_
    obtain ⟨t6_c, h6_, hL_⟩ := atS_out hL_
    obtain ⟨t7_carry, h7_, hL_⟩ := atI_out hL_
    obtain ⟨t20, h20_, hL_⟩ := atS_out hL_
    obtain ⟨t21, h21_, hL_⟩ := atI_out hL_
    obtain ⟨t22, h22_, hL_⟩ := atI_out hL_
    obtain ⟨g0, rfl⟩ : ∃ g, a_ = Fr 56 [(0, t0_a.v), (1, Value.int .u64 t1_m), (6, t6_c.v), (7, Value.int .u64 t7_carry), (20, t20.v), (21, Value.int .i64 t21), (22, Value.int .i64 t22)] g := ⟨_, fr_of hz_ hd_ [(0, t0_a.v), (1, Value.int .u64 t1_m), (6, t6_c.v), (7, Value.int .u64 t7_carry), (20, t20.v), (21, Value.int .i64 t21), (22, Value.int .i64 t22)] (sel_cons h0_ (sel_cons h1_ (sel_cons h6_ (sel_cons h7_ (sel_cons h20_ (sel_cons h21_ (sel_cons h22_ sel_nil)))))))⟩
    clear hz_ hd_ h0_ h1_ h6_ h7_ h20_ h21_ h22_
    have hJ0_ := hL_
    refine ⟨(fun _ => none), kcast (h0 t0_a t1_m t6_c t7_carry t20 t21 t22 w_ hJ0_) ?_, ?_⟩
    · kernel_rfl
    · exact (obl_seq rfl (obl_reg (obl_seq rfl (obl_cond (obl_skip (obl_exit (obl_seq rfl (obl_blk rfl (obl_seq rfl (obl_reg (obl_seq rfl (obl_reg (obl_seq rfl (obl_reg (obl_seq rfl (obl_reg (obl_reg (obl_reg trivial)))))))))))))))))))) (obl_seq rfl (obl_reg (obl_seq rfl (obl_reg (obl_ret trivial)))))))))))))))))

def nat_Through_cut (J0 : Slc → Int → Slc → Int → Int → World → Prop) (m0 : Slc → Int → Slc → Int → Int → World → Nat) : Nat → Option ((Act → World → Prop) × (Act → World → Nat))
  | 0 => some (fun a_ w_ => atSz a_ 48 (atS a_ 0 fun t0_a => atI .u64 a_ 1 fun t1_d => atS a_ 7 fun t7_c => atI .u64 a_ 8 fun t8_rest => atI .i64 a_ 9 fun t9_i => J0 t0_a t1_d t7_c t8_rest t9_i w_), fun a_ w_ => mS a_ 0 fun t0_a => mI a_ 1 fun t1_d => mS a_ 7 fun t7_c => mI a_ 8 fun t8_rest => mI a_ 9 fun t9_i => m0 t0_a t1_d t7_c t8_rest t9_i w_)
  | _ => none

set_option maxRecDepth 100000 in
/-- surd/nat.Through: function 39. -/
theorem nat_Through_vc (a0_a : Slc) (a1_d : Int) (w : World) (R : Ending → World → Prop)
    (J0 : Slc → Int → Slc → Int → Int → World → Prop) (m0 : Slc → Int → Slc → Int → Int → World → Nat)
    (h : br (a1_d == 0)
    (R (.returned (Value.tuple #[(⟨none, 0, 0⟩ : Slc).v, Value.int .u64 0, Value.int .i64 1])) w)
    (Calls Try.prog 44 #[a0_a.v] w fun e1 w1 =>
      ∃ s1 : Slc, e1 = .returned s1.v ∧
      (semS Try.prog (Instr.makeSlice 24 (Value.int .i64 (s1.n : Int)) (Value.int .i64 (s1.n : Int))) w1 fun s2 w2 =>
        J0 s1 a1_d s2 0 (IntKind.i64.wrap ((s1.n : Int) - 1)) w2)))
    (h0 : ∀ (t0_a : Slc) (t1_d : Int) (t7_c : Slc) (t8_rest : Int) (t9_i : Int) (w_ : World), J0 t0_a t1_d t7_c t8_rest t9_i w_ → 
    br (decide (t9_i ≥ 0))
    (semA Try.prog (Instr.indexAt 24 t0_a.v (Value.int .i64 t9_i)) w_ fun ad1 w3 =>
      ldI .u64 ad1 w3 fun x1 =>
      Calls Try.prog 58 #[Value.int .u64 t8_rest, Value.int .u64 x1, Value.int .u64 t1_d] w3 fun e2 w4 =>
      ∃ x2 : Int, ∃ x3 : Int, e2 = .returned (Value.tuple #[Value.int .u64 x2, Value.int .u64 x3]) ∧
      (semA Try.prog (Instr.indexAt 24 t7_c.v (Value.int .i64 t9_i)) w4 fun ad2 w5 =>
        stC ad2 (Value.int .u64 x2) w5 fun w6 =>
        J0 t0_a t1_d t7_c x3 (IntKind.i64.wrap (t9_i - 1)) w6 ∧
        m0 t0_a t1_d t7_c x3 (IntKind.i64.wrap (t9_i - 1)) w6 < m0 t0_a t1_d t7_c t8_rest t9_i w_))
    (Calls Try.prog 46 #[t7_c.v] w_ fun e3 w7 =>
      ∃ s3 : Slc, ∃ x4 : Int, e3 = .returned (Value.tuple #[s3.v, Value.int .i64 x4]) ∧
      (br (x4 != 0)
        (R (.returned (Value.tuple #[(⟨none, 0, 0⟩ : Slc).v, Value.int .u64 0, Value.int .i64 x4])) w7)
        (R (.returned (Value.tuple #[s3.v, Value.int .u64 t8_rest, Value.int .i64 0])) w7)))) :
    Calls Try.prog 39 #[a0_a.v, Value.int .u64 a1_d] w R := by
  refine calls_of_vc (nat_Through_cut J0 m0) (by kernel_rfl) Try.func39 rfl ?_ ?_
  · refine kcast h ?_; kernel_rfl
  · exact (obl_seq rfl (obl_reg (obl_seq rfl (obl_seq rfl (obl_reg (obl_cond (obl_seq rfl (obl_reg (obl_ret (obl_skip (obl_seq rfl (obl_reg (obl_seq rfl (obl_reg (obl_seq rfl (obl_reg (obl_seq rfl (obl_seq rfl (obl_reg (obl_loop _ rfl (fun a_ w_ hL_ => (by
    obtain ⟨hz_, hd_, hL_⟩ := atSz_out hL_
    obtain ⟨t0_a, h0_, hL_⟩ := atS_out hL_
    obtain ⟨t1_d, h1_, hL_⟩ := atI_out hL_
    obtain ⟨t7_c, h7_, hL_⟩ := atS_out hL_
    obtain ⟨t8_rest, h8_, hL_⟩ := atI_out hL_
    obtain ⟨t9_i, h9_, hL_⟩ := atI_out hL_
    obtain ⟨g0, rfl⟩ : ∃ g, a_ = Fr 48 [(0, t0_a.v), (1, Value.int .u64 t1_d), (7, t7_c.v), (8, Value.int .u64 t8_rest), (9, Value.int .i64 t9_i)] g := ⟨_, fr_of hz_ hd_ [(0, t0_a.v), (1, Value.int .u64 t1_d), (7, t7_c.v), (8, Value.int .u64 t8_rest), (9, Value.int .i64 t9_i)] (sel_cons h0_ (sel_cons h1_ (sel_cons h7_ (sel_cons h8_ (sel_cons h9_ sel_nil)))))⟩
    clear hz_ hd_ h0_ h1_ h7_ h8_ h9_
    have hJ0_ := hL_
    refine ⟨(fun _ => none), kcast (h0 t0_a t1_d t7_c t8_rest t9_i w_ hJ0_) ?_, ?_⟩
    · kernel_rfl
    · exact (obl_seq rfl (obl_seq rfl (obl_reg (obl_cond (obl_skip (obl_exit (obl_seq rfl (obl_blk rfl (obl_reg (obl_reg trivial)))))))))))) (obl_seq rfl (obl_reg (obl_seq rfl (obl_seq rfl (obl_reg (obl_cond (obl_seq rfl (obl_reg (obl_ret (obl_skip (obl_seq rfl (obl_reg (obl_ret trivial)))))))))))))))))))))))))))))))))

set_option maxRecDepth 100000 in
/-- math/bits.OnesCount64: function 56. -/
theorem bits_OnesCount64_vc (a0_x : Int) (w : World) (R : Ending → World → Prop)
    
    (h : R (.returned (Value.int .i64 (andI .i64 (IntKind.i64.wrap (IntKind.u64.wrap ((IntKind.u64.wrap ((IntKind.u64.wrap ((andI .u64 (IntKind.u64.wrap ((Int.fdiv (IntKind.u64.wrap ((andI .u64 (Int.fdiv (IntKind.u64.wrap ((andI .u64 (Int.fdiv a0_x (2 ^ (1 : Nat))) 6148914691236517205) + (andI .u64 a0_x 6148914691236517205))) (2 ^ (2 : Nat))) 3689348814741910323) + (andI .u64 (IntKind.u64.wrap ((andI .u64 (Int.fdiv a0_x (2 ^ (1 : Nat))) 6148914691236517205) + (andI .u64 a0_x 6148914691236517205))) 3689348814741910323))) (2 ^ (4 : Nat))) + (IntKind.u64.wrap ((andI .u64 (Int.fdiv (IntKind.u64.wrap ((andI .u64 (Int.fdiv a0_x (2 ^ (1 : Nat))) 6148914691236517205) + (andI .u64 a0_x 6148914691236517205))) (2 ^ (2 : Nat))) 3689348814741910323) + (andI .u64 (IntKind.u64.wrap ((andI .u64 (Int.fdiv a0_x (2 ^ (1 : Nat))) 6148914691236517205) + (andI .u64 a0_x 6148914691236517205))) 3689348814741910323))))) 1085102592571150095) + (Int.fdiv (andI .u64 (IntKind.u64.wrap ((Int.fdiv (IntKind.u64.wrap ((andI .u64 (Int.fdiv (IntKind.u64.wrap ((andI .u64 (Int.fdiv a0_x (2 ^ (1 : Nat))) 6148914691236517205) + (andI .u64 a0_x 6148914691236517205))) (2 ^ (2 : Nat))) 3689348814741910323) + (andI .u64 (IntKind.u64.wrap ((andI .u64 (Int.fdiv a0_x (2 ^ (1 : Nat))) 6148914691236517205) + (andI .u64 a0_x 6148914691236517205))) 3689348814741910323))) (2 ^ (4 : Nat))) + (IntKind.u64.wrap ((andI .u64 (Int.fdiv (IntKind.u64.wrap ((andI .u64 (Int.fdiv a0_x (2 ^ (1 : Nat))) 6148914691236517205) + (andI .u64 a0_x 6148914691236517205))) (2 ^ (2 : Nat))) 3689348814741910323) + (andI .u64 (IntKind.u64.wrap ((andI .u64 (Int.fdiv a0_x (2 ^ (1 : Nat))) 6148914691236517205) + (andI .u64 a0_x 6148914691236517205))) 3689348814741910323))))) 1085102592571150095) (2 ^ (8 : Nat))))) + (Int.fdiv (IntKind.u64.wrap ((andI .u64 (IntKind.u64.wrap ((Int.fdiv (IntKind.u64.wrap ((andI .u64 (Int.fdiv (IntKind.u64.wrap ((andI .u64 (Int.fdiv a0_x (2 ^ (1 : Nat))) 6148914691236517205) + (andI .u64 a0_x 6148914691236517205))) (2 ^ (2 : Nat))) 3689348814741910323) + (andI .u64 (IntKind.u64.wrap ((andI .u64 (Int.fdiv a0_x (2 ^ (1 : Nat))) 6148914691236517205) + (andI .u64 a0_x 6148914691236517205))) 3689348814741910323))) (2 ^ (4 : Nat))) + (IntKind.u64.wrap ((andI .u64 (Int.fdiv (IntKind.u64.wrap ((andI .u64 (Int.fdiv a0_x (2 ^ (1 : Nat))) 6148914691236517205) + (andI .u64 a0_x 6148914691236517205))) (2 ^ (2 : Nat))) 3689348814741910323) + (andI .u64 (IntKind.u64.wrap ((andI .u64 (Int.fdiv a0_x (2 ^ (1 : Nat))) 6148914691236517205) + (andI .u64 a0_x 6148914691236517205))) 3689348814741910323))))) 1085102592571150095) + (Int.fdiv (andI .u64 (IntKind.u64.wrap ((Int.fdiv (IntKind.u64.wrap ((andI .u64 (Int.fdiv (IntKind.u64.wrap ((andI .u64 (Int.fdiv a0_x (2 ^ (1 : Nat))) 6148914691236517205) + (andI .u64 a0_x 6148914691236517205))) (2 ^ (2 : Nat))) 3689348814741910323) + (andI .u64 (IntKind.u64.wrap ((andI .u64 (Int.fdiv a0_x (2 ^ (1 : Nat))) 6148914691236517205) + (andI .u64 a0_x 6148914691236517205))) 3689348814741910323))) (2 ^ (4 : Nat))) + (IntKind.u64.wrap ((andI .u64 (Int.fdiv (IntKind.u64.wrap ((andI .u64 (Int.fdiv a0_x (2 ^ (1 : Nat))) 6148914691236517205) + (andI .u64 a0_x 6148914691236517205))) (2 ^ (2 : Nat))) 3689348814741910323) + (andI .u64 (IntKind.u64.wrap ((andI .u64 (Int.fdiv a0_x (2 ^ (1 : Nat))) 6148914691236517205) + (andI .u64 a0_x 6148914691236517205))) 3689348814741910323))))) 1085102592571150095) (2 ^ (8 : Nat))))) (2 ^ (16 : Nat))))) + (Int.fdiv (IntKind.u64.wrap ((IntKind.u64.wrap ((andI .u64 (IntKind.u64.wrap ((Int.fdiv (IntKind.u64.wrap ((andI .u64 (Int.fdiv (IntKind.u64.wrap ((andI .u64 (Int.fdiv a0_x (2 ^ (1 : Nat))) 6148914691236517205) + (andI .u64 a0_x 6148914691236517205))) (2 ^ (2 : Nat))) 3689348814741910323) + (andI .u64 (IntKind.u64.wrap ((andI .u64 (Int.fdiv a0_x (2 ^ (1 : Nat))) 6148914691236517205) + (andI .u64 a0_x 6148914691236517205))) 3689348814741910323))) (2 ^ (4 : Nat))) + (IntKind.u64.wrap ((andI .u64 (Int.fdiv (IntKind.u64.wrap ((andI .u64 (Int.fdiv a0_x (2 ^ (1 : Nat))) 6148914691236517205) + (andI .u64 a0_x 6148914691236517205))) (2 ^ (2 : Nat))) 3689348814741910323) + (andI .u64 (IntKind.u64.wrap ((andI .u64 (Int.fdiv a0_x (2 ^ (1 : Nat))) 6148914691236517205) + (andI .u64 a0_x 6148914691236517205))) 3689348814741910323))))) 1085102592571150095) + (Int.fdiv (andI .u64 (IntKind.u64.wrap ((Int.fdiv (IntKind.u64.wrap ((andI .u64 (Int.fdiv (IntKind.u64.wrap ((andI .u64 (Int.fdiv a0_x (2 ^ (1 : Nat))) 6148914691236517205) + (andI .u64 a0_x 6148914691236517205))) (2 ^ (2 : Nat))) 3689348814741910323) + (andI .u64 (IntKind.u64.wrap ((andI .u64 (Int.fdiv a0_x (2 ^ (1 : Nat))) 6148914691236517205) + (andI .u64 a0_x 6148914691236517205))) 3689348814741910323))) (2 ^ (4 : Nat))) + (IntKind.u64.wrap ((andI .u64 (Int.fdiv (IntKind.u64.wrap ((andI .u64 (Int.fdiv a0_x (2 ^ (1 : Nat))) 6148914691236517205) + (andI .u64 a0_x 6148914691236517205))) (2 ^ (2 : Nat))) 3689348814741910323) + (andI .u64 (IntKind.u64.wrap ((andI .u64 (Int.fdiv a0_x (2 ^ (1 : Nat))) 6148914691236517205) + (andI .u64 a0_x 6148914691236517205))) 3689348814741910323))))) 1085102592571150095) (2 ^ (8 : Nat))))) + (Int.fdiv (IntKind.u64.wrap ((andI .u64 (IntKind.u64.wrap ((Int.fdiv (IntKind.u64.wrap ((andI .u64 (Int.fdiv (IntKind.u64.wrap ((andI .u64 (Int.fdiv a0_x (2 ^ (1 : Nat))) 6148914691236517205) + (andI .u64 a0_x 6148914691236517205))) (2 ^ (2 : Nat))) 3689348814741910323) + (andI .u64 (IntKind.u64.wrap ((andI .u64 (Int.fdiv a0_x (2 ^ (1 : Nat))) 6148914691236517205) + (andI .u64 a0_x 6148914691236517205))) 3689348814741910323))) (2 ^ (4 : Nat))) + (IntKind.u64.wrap ((andI .u64 (Int.fdiv (IntKind.u64.wrap ((andI .u64 (Int.fdiv a0_x (2 ^ (1 : Nat))) 6148914691236517205) + (andI .u64 a0_x 6148914691236517205))) (2 ^ (2 : Nat))) 3689348814741910323) + (andI .u64 (IntKind.u64.wrap ((andI .u64 (Int.fdiv a0_x (2 ^ (1 : Nat))) 6148914691236517205) + (andI .u64 a0_x 6148914691236517205))) 3689348814741910323))))) 1085102592571150095) + (Int.fdiv (andI .u64 (IntKind.u64.wrap ((Int.fdiv (IntKind.u64.wrap ((andI .u64 (Int.fdiv (IntKind.u64.wrap ((andI .u64 (Int.fdiv a0_x (2 ^ (1 : Nat))) 6148914691236517205) + (andI .u64 a0_x 6148914691236517205))) (2 ^ (2 : Nat))) 3689348814741910323) + (andI .u64 (IntKind.u64.wrap ((andI .u64 (Int.fdiv a0_x (2 ^ (1 : Nat))) 6148914691236517205) + (andI .u64 a0_x 6148914691236517205))) 3689348814741910323))) (2 ^ (4 : Nat))) + (IntKind.u64.wrap ((andI .u64 (Int.fdiv (IntKind.u64.wrap ((andI .u64 (Int.fdiv a0_x (2 ^ (1 : Nat))) 6148914691236517205) + (andI .u64 a0_x 6148914691236517205))) (2 ^ (2 : Nat))) 3689348814741910323) + (andI .u64 (IntKind.u64.wrap ((andI .u64 (Int.fdiv a0_x (2 ^ (1 : Nat))) 6148914691236517205) + (andI .u64 a0_x 6148914691236517205))) 3689348814741910323))))) 1085102592571150095) (2 ^ (8 : Nat))))) (2 ^ (16 : Nat))))) (2 ^ (32 : Nat)))))) 127))) w) :
    Calls Try.prog 56 #[Value.int .u64 a0_x] w R := by
  refine calls_of_vc (fun _ => none) (by kernel_rfl) Try.func56 rfl ?_ ?_
  · refine kcast h ?_; kernel_rfl
  · exact (obl_seq rfl (obl_reg (obl_seq rfl (obl_reg (obl_seq rfl (obl_reg (obl_seq rfl (obl_reg (obl_seq rfl (obl_reg (obl_seq rfl (obl_reg (obl_seq rfl (obl_reg (obl_seq rfl (obl_reg (obl_ret trivial)))))))))))))))))

end Go.Proofs.Ytaflfjbhlgbmdaa
