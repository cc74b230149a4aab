/- Verification conditions of some of the program's functions, printed by a program of this session. No condition. -/
import Derived.Test.YthhbjhdnaopcnaaDoorProg
import Derived.Test.YthhbjhdnaopcnaaDoorEng
namespace Go.Proofs.YthhbjhdnaopcnaaDoor
open Go Go.RowKit Eng
set_option linter.unusedVariables false

def nat_trim_cut (J0 : Slc → World → Prop) (m0 : Slc → World → Nat) : Nat → Option ((Act → World → Prop) × (Act → World → Nat))
  | 0 => some (fun a_ w_ => atSz a_ 21 (atS a_ 0 fun t0_a => J0 t0_a w_), fun a_ w_ => mS a_ 0 fun t0_a => m0 t0_a w_)
  | _ => none

set_option maxRecDepth 100000 in
/-- surd/nat.trim: function 127. -/
theorem nat_trim_vc (a0_a : Slc) (w : World) (R : Ending → World → Prop)
    (J0 : Slc → World → Prop) (m0 : Slc → World → Nat)
    (h : J0 a0_a w)
    (h0 : ∀ (t0_a : Slc) (w_ : World), J0 t0_a w_ → 
    br (decide ((t0_a.n : Int) > 0))
    (semA Tryd.prog (Instr.indexAt 29 t0_a.v (Value.int .i64 (IntKind.i64.wrap ((t0_a.n : Int) - 1)))) w_ fun ad1 w1 =>
      ldI .u64 ad1 w1 fun x1 =>
      br (x1 == 0)
      (semS Tryd.prog (Instr.sliceAt 29 t0_a.v none (some (Value.int .i64 (IntKind.i64.wrap ((t0_a.n : Int) - 1)))) none) w1 fun s1 w2 =>
        J0 s1 w2 ∧
        m0 s1 w2 < m0 t0_a w_)
      (R (.returned t0_a.v) w1))
    (R (.returned t0_a.v) w_)) :
    Calls Tryd.prog 127 #[a0_a.v] w R := by
  refine calls_of_vc (nat_trim_cut J0 m0) (by kernel_rfl) Tryd.func127 rfl ?_ ?_
  · refine kcast h ?_; kernel_rfl
  · exact (obl_seq rfl (obl_reg (obl_seq rfl (obl_loop _ rfl (fun a_ w_ hL_ => (by
    obtain ⟨hz_, hd_, hL_⟩ := atSz_out hL_
    obtain ⟨t0_a, h0_, hL_⟩ := atS_out hL_
    obtain ⟨g0, rfl⟩ : ∃ g, a_ = Fr 21 [(0, t0_a.v)] g := ⟨_, fr_of hz_ hd_ [(0, t0_a.v)] (sel_cons h0_ sel_nil)⟩
    clear hz_ hd_ h0_
    have hJ0_ := hL_
    refine ⟨(fun _ => none), kcast (h0 t0_a w_ hJ0_) ?_, ?_⟩
    · kernel_rfl
    · exact (obl_seq rfl (obl_seq rfl (obl_reg (obl_cond (obl_skip (obl_exit (obl_blk rfl (obl_reg trivial)))))))))) (obl_seq rfl (obl_reg (obl_ret trivial)))))))

set_option maxRecDepth 100000 in
/-- surd/nat.told: function 134. -/
theorem nat_told_vc (a0_a : Slc) (w : World) (R : Ending → World → Prop)
    
    (h : Calls Tryd.prog 127 #[a0_a.v] w fun e1 w1 =>
    ∃ s1 : Slc, e1 = .returned s1.v ∧
    (Calls Tryd.prog 102 #[s1.v] w1 fun e2 w2 =>
      ∃ x1 : Int, e2 = .returned (Value.int .i64 x1) ∧
      (br (decide (x1 > 67108864))
        (R (.returned (Value.tuple #[(⟨none, 0, 0⟩ : Slc).v, Value.int .i64 3])) w2)
        (R (.returned (Value.tuple #[s1.v, Value.int .i64 0])) w2)))) :
    Calls Tryd.prog 134 #[a0_a.v] w R := by
  refine calls_of_vc (fun _ => none) (by kernel_rfl) Tryd.func134 rfl ?_ ?_
  · refine kcast h ?_; kernel_rfl
  · exact (obl_seq rfl (obl_reg (obl_seq rfl (obl_reg (obl_seq rfl (obl_seq rfl (obl_reg (obl_cond (obl_seq rfl (obl_reg (obl_ret (obl_skip (obl_seq rfl (obl_reg (obl_ret trivial)))))))))))))))

set_option maxRecDepth 100000 in
/-- surd/nat.Norm: function 126. -/
theorem nat_Norm_vc (a0_a : Slc) (w : World) (R : Ending → World → Prop)
    
    (h : Calls Tryd.prog 127 #[a0_a.v] w fun e1 w1 =>
    ∃ s1 : Slc, e1 = .returned s1.v ∧
    (semS Tryd.prog (Builtin.append_ #[29, 29] 29 #[(⟨none, 0, 0⟩ : Slc).v, s1.v]) w1 fun s2 w2 =>
      R (.returned s2.v) w2)) :
    Calls Tryd.prog 126 #[a0_a.v] w R := by
  refine calls_of_vc (fun _ => none) (by kernel_rfl) Tryd.func126 rfl ?_ ?_
  · refine kcast h ?_; kernel_rfl
  · exact (obl_seq rfl (obl_reg (obl_seq rfl (obl_reg (obl_ret trivial)))))

set_option maxRecDepth 100000 in
/-- surd/nat.From: function 101. -/
theorem nat_From_vc (a0_v : Int) (w : World) (R : Ending → World → Prop)
    
    (h : br (a0_v == 0)
    (R (.returned ((⟨none, 0, 0⟩ : Slc).v)) w)
    (newC w #[Value.int .u64 a0_v] 94 fun ad1 w1 =>
      R (.returned ((⟨some ad1, 1, 1⟩ : Slc).v)) w1)) :
    Calls Tryd.prog 101 #[Value.int .u64 a0_v] w R := by
  refine calls_of_vc (fun _ => none) (by kernel_rfl) Tryd.func101 rfl ?_ ?_
  · refine kcast h ?_; kernel_rfl
  · exact (obl_seq rfl (obl_reg (obl_seq rfl (obl_seq rfl (obl_reg (obl_cond (obl_seq rfl (obl_reg (obl_ret (obl_skip (obl_seq rfl (obl_reg (obl_ret trivial)))))))))))))

def nat_Compare_cut (J0 : Slc → Slc → Int → World → Prop) (m0 : Slc → Slc → Int → World → Nat) : Nat → Option ((Act → World → Prop) × (Act → World → Nat))
  | 0 => some (fun a_ w_ => atSz a_ 45 (atS a_ 0 fun t0_a => atS a_ 1 fun t1_b => atI .i64 a_ 5 fun t5_i => J0 t0_a t1_b t5_i w_), fun a_ w_ => mS a_ 0 fun t0_a => mS a_ 1 fun t1_b => mI a_ 5 fun t5_i => m0 t0_a t1_b t5_i w_)
  | _ => none

set_option maxRecDepth 100000 in
/-- surd/nat.Compare: function 113. -/
theorem nat_Compare_vc (a0_a : Slc) (a1_b : Slc) (w : World) (R : Ending → World → Prop)
    (J0 : Slc → Slc → Int → World → Prop) (m0 : Slc → Slc → Int → World → Nat)
    (h : Calls Tryd.prog 127 #[a0_a.v] w fun e1 w1 =>
    ∃ s1 : Slc, e1 = .returned s1.v ∧
    (Calls Tryd.prog 127 #[a1_b.v] w1 fun e2 w2 =>
      ∃ s2 : Slc, e2 = .returned s2.v ∧
      (br ((s1.n : Int) != (s2.n : Int))
        (br (decide ((s1.n : Int) < (s2.n : Int)))
          (R (.returned (Value.int .i64 (-1))) w2)
          (R (.returned (Value.int .i64 1)) w2))
        (J0 s1 s2 (IntKind.i64.wrap ((s1.n : Int) - 1)) w2))))
    (h0 : ∀ (t0_a : Slc) (t1_b : Slc) (t5_i : Int) (w_ : World), J0 t0_a t1_b t5_i w_ → 
    br (decide (t5_i ≥ 0))
    (fixA Tryd.prog (Instr.indexAt 29 t0_a.v (Value.int .i64 t5_i)) w_ fun ad1 =>
      ldI .u64 ad1 w_ fun x1 =>
      fixA Tryd.prog (Instr.indexAt 29 t1_b.v (Value.int .i64 t5_i)) w_ fun ad2 =>
      ldI .u64 ad2 w_ fun x2 =>
      ∀ w3, Ahead w_ w3 →
      (br (decide (x1 < x2))
        (R (.returned (Value.int .i64 (-1))) w3)
        (fixA Tryd.prog (Instr.indexAt 29 t0_a.v (Value.int .i64 t5_i)) w3 fun ad3 =>
          ldI .u64 ad3 w3 fun x3 =>
          fixA Tryd.prog (Instr.indexAt 29 t1_b.v (Value.int .i64 t5_i)) w3 fun ad4 =>
          ldI .u64 ad4 w3 fun x4 =>
          ∀ w4, Ahead w3 w4 →
          (br (decide (x3 > x4))
            (R (.returned (Value.int .i64 1)) w4)
            (J0 t0_a t1_b (IntKind.i64.wrap (t5_i - 1)) w4 ∧
              m0 t0_a t1_b (IntKind.i64.wrap (t5_i - 1)) w4 < m0 t0_a t1_b t5_i w_)))))
    (R (.returned (Value.int .i64 0)) w_)) :
    Calls Tryd.prog 113 #[a0_a.v, a1_b.v] w R := by
  refine calls_of_vc (nat_Compare_cut J0 m0) (by kernel_rfl) Tryd.func113 rfl ?_ ?_
  · refine kcast h ?_; kernel_rfl
  · exact (obl_seq rfl (obl_reg (obl_seq rfl (obl_reg (obl_seq rfl (obl_seq rfl (obl_reg (obl_cond (obl_seq rfl (obl_seq rfl (obl_reg (obl_cond (obl_seq rfl (obl_reg (obl_ret (obl_skip (obl_seq rfl (obl_reg (obl_ret (obl_skip (obl_seq rfl (obl_seq rfl (obl_reg (obl_loop _ rfl (fun a_ w_ hL_ => (by
    obtain ⟨hz_, hd_, hL_⟩ := atSz_out hL_
    obtain ⟨t0_a, h0_, hL_⟩ := atS_out hL_
    obtain ⟨t1_b, h1_, hL_⟩ := atS_out hL_
    obtain ⟨t5_i, h5_, hL_⟩ := atI_out hL_
    obtain ⟨g0, rfl⟩ : ∃ g, a_ = Fr 45 [(0, t0_a.v), (1, t1_b.v), (5, Value.int .i64 t5_i)] g := ⟨_, fr_of hz_ hd_ [(0, t0_a.v), (1, t1_b.v), (5, Value.int .i64 t5_i)] (sel_cons h0_ (sel_cons h1_ (sel_cons h5_ sel_nil)))⟩
    clear hz_ hd_ h0_ h1_ h5_
    have hJ0_ := hL_
    refine ⟨(fun _ => none), kcast (h0 t0_a t1_b t5_i w_ hJ0_) ?_, ?_⟩
    · kernel_rfl
    · exact (obl_seq rfl (obl_seq rfl (obl_reg (obl_cond (obl_skip (obl_exit (obl_seq rfl (obl_blk rfl (obl_seq rfl (obl_seq rfl (obl_quiet (by kernel_rfl) (by kernel_rfl) (by kernel_rfl) (by kernel_rfl) (obl_cond (obl_seq rfl (obl_reg (obl_ret (obl_skip (obl_seq rfl (obl_quiet (by kernel_rfl) (by kernel_rfl) (by kernel_rfl) (by kernel_rfl) (obl_cond (obl_seq rfl (obl_reg (obl_ret (obl_skip (obl_reg trivial)))))))))))))))))))))))))) (obl_seq rfl (obl_reg (obl_ret trivial)))))))))))))))))))))))))))

def nat_Add_cut (J0 : Slc → Slc → Slc → Int → Int → Int → World → Prop) (m0 : Slc → Slc → Slc → Int → Int → Int → World → Nat) : Nat → Option ((Act → World → Prop) × (Act → World → Nat))
  | 0 => some (fun a_ w_ => atSz a_ 61 (atS a_ 0 fun t0_a => atS a_ 1 fun t1_b => atS a_ 6 fun t6_c => atI .u64 a_ 7 fun t7_carry => atI .i64 a_ 26 fun t26 => atI .i64 a_ 27 fun t27 => J0 t0_a t1_b t6_c t7_carry t26 t27 w_), fun a_ w_ => mS a_ 0 fun t0_a => mS a_ 1 fun t1_b => mS a_ 6 fun t6_c => mI a_ 7 fun t7_carry => mI a_ 26 fun t26 => mI a_ 27 fun t27 => m0 t0_a t1_b t6_c t7_carry t26 t27 w_)
  | _ => none

set_option maxRecDepth 100000 in
/-- surd/nat.Add: function 122. -/
theorem nat_Add_vc (a0_a : Slc) (a1_b : Slc) (w : World) (R : Ending → World → Prop)
    (J0 : Slc → Slc → Slc → Int → Int → Int → World → Prop) (m0 : Slc → Slc → Slc → Int → Int → Int → World → Nat)
    (h : Calls Tryd.prog 127 #[a0_a.v] w fun e1 w1 =>
    ∃ s1 : Slc, e1 = .returned s1.v ∧
    (Calls Tryd.prog 127 #[a1_b.v] w1 fun e2 w2 =>
      ∃ s2 : Slc, e2 = .returned s2.v ∧
      (br (decide ((s1.n : Int) < (s2.n : Int)))
        (semS Tryd.prog (Instr.makeSlice 29 (Value.int .i64 (IntKind.i64.wrap ((s2.n : Int) + 1))) (Value.int .i64 (IntKind.i64.wrap ((s2.n : Int) + 1)))) w2 fun s3 w3 =>
          J0 s2 s1 s3 0 (s2.n : Int) 0 w3)
        (semS Tryd.prog (Instr.makeSlice 29 (Value.int .i64 (IntKind.i64.wrap ((s1.n : Int) + 1))) (Value.int .i64 (IntKind.i64.wrap ((s1.n : Int) + 1)))) w2 fun s5 w16 =>
          J0 s1 s2 s5 0 (s1.n : Int) 0 w16))))
    (h0 : ∀ (t0_a : Slc) (t1_b : Slc) (t6_c : Slc) (t7_carry : Int) (t26 : Int) (t27 : Int) (w_ : World), J0 t0_a t1_b t6_c t7_carry t26 t27 w_ → 
    br (decide (t27 < t26))
    (br (decide (t27 < (t1_b.n : Int)))
      (semA Tryd.prog (Instr.indexAt 29 t1_b.v (Value.int .i64 t27)) w_ fun ad1 w4 =>
        ldI .u64 ad1 w4 fun x1 =>
        semA Tryd.prog (Instr.indexAt 29 t0_a.v (Value.int .i64 t27)) w4 fun ad2 w5 =>
        ldI .u64 ad2 w5 fun x2 =>
        Sem.wp Tryd.prog (callFunc 135 #[Value.int .u64 x2, Value.int .u64 x1, Value.int .u64 t7_carry]) (fun n1 w6 =>
          ∃ x3 : Int, ∃ x4 : Int, n1 = .value (Value.tuple #[Value.int .u64 x3, Value.int .u64 x4]) ∧
          (semA Tryd.prog (Instr.indexAt 29 t6_c.v (Value.int .i64 t27)) w6 fun ad3 w7 =>
            stC ad3 (Value.int .u64 x3) w7 fun w8 =>
            J0 t0_a t1_b t6_c x4 t26 (IntKind.i64.wrap (t27 + 1)) w8 ∧
            m0 t0_a t1_b t6_c x4 t26 (IntKind.i64.wrap (t27 + 1)) w8 < m0 t0_a t1_b t6_c t7_carry t26 t27 w_)) (fun _ _ => False) w5)
      (semA Tryd.prog (Instr.indexAt 29 t0_a.v (Value.int .i64 t27)) w_ fun ad4 w9 =>
        ldI .u64 ad4 w9 fun x5 =>
        Sem.wp Tryd.prog (callFunc 135 #[Value.int .u64 x5, Value.int .u64 0, Value.int .u64 t7_carry]) (fun n2 w10 =>
          ∃ x6 : Int, ∃ x7 : Int, n2 = .value (Value.tuple #[Value.int .u64 x6, Value.int .u64 x7]) ∧
          (semA Tryd.prog (Instr.indexAt 29 t6_c.v (Value.int .i64 t27)) w10 fun ad5 w11 =>
            stC ad5 (Value.int .u64 x6) w11 fun w12 =>
            J0 t0_a t1_b t6_c x7 t26 (IntKind.i64.wrap (t27 + 1)) w12 ∧
            m0 t0_a t1_b t6_c x7 t26 (IntKind.i64.wrap (t27 + 1)) w12 < m0 t0_a t1_b t6_c t7_carry t26 t27 w_)) (fun _ _ => False) w9))
    (semA Tryd.prog (Instr.indexAt 29 t6_c.v (Value.int .i64 (t0_a.n : Int))) w_ fun ad6 w13 =>
      stC ad6 (Value.int .u64 t7_carry) w13 fun w14 =>
      Calls Tryd.prog 134 #[t6_c.v] w14 fun e3 w15 =>
      ∃ s4 : Slc, ∃ x8 : Int, e3 = .returned (Value.tuple #[s4.v, Value.int .i64 x8]) ∧
      (R (.returned (Value.tuple #[s4.v, Value.int .i64 x8])) w15))) :
    Calls Tryd.prog 122 #[a0_a.v, a1_b.v] w R := by
  refine calls_of_vc (nat_Add_cut J0 m0) (by kernel_rfl) Tryd.func122 rfl ?_ ?_
  · refine kcast h ?_; kernel_rfl
  · exact (obl_seq rfl (obl_reg (obl_seq rfl (obl_reg (obl_seq rfl (obl_seq rfl (obl_reg (obl_cond (obl_reg (obl_skip (obl_seq rfl (obl_reg (obl_seq rfl (obl_reg (obl_seq rfl (obl_seq rfl (obl_reg (obl_loop _ rfl (fun a_ w_ hL_ => (by
    obtain ⟨hz_, hd_, hL_⟩ := atSz_out hL_
    obtain ⟨t0_a, h0_, hL_⟩ := atS_out hL_
    obtain ⟨t1_b, h1_, hL_⟩ := atS_out hL_
    obtain ⟨t6_c, h6_, hL_⟩ := atS_out hL_
    obtain ⟨t7_carry, h7_, hL_⟩ := atI_out hL_
    obtain ⟨t26, h26_, hL_⟩ := atI_out hL_
    obtain ⟨t27, h27_, hL_⟩ := atI_out hL_
    obtain ⟨g0, rfl⟩ : ∃ g, a_ = Fr 61 [(0, t0_a.v), (1, t1_b.v), (6, t6_c.v), (7, Value.int .u64 t7_carry), (26, Value.int .i64 t26), (27, Value.int .i64 t27)] g := ⟨_, fr_of hz_ hd_ [(0, t0_a.v), (1, t1_b.v), (6, t6_c.v), (7, Value.int .u64 t7_carry), (26, Value.int .i64 t26), (27, Value.int .i64 t27)] (sel_cons h0_ (sel_cons h1_ (sel_cons h6_ (sel_cons h7_ (sel_cons h26_ (sel_cons h27_ sel_nil))))))⟩
    clear hz_ hd_ h0_ h1_ h6_ h7_ h26_ h27_
    have hJ0_ := hL_
    refine ⟨(fun _ => none), kcast (h0 t0_a t1_b t6_c t7_carry t26 t27 w_ hJ0_) ?_, ?_⟩
    · kernel_rfl
    · exact (obl_seq rfl (obl_reg (obl_seq rfl (obl_cond (obl_skip (obl_exit (obl_seq rfl (obl_blk rfl (obl_seq rfl (obl_reg (obl_seq rfl (obl_reg (obl_seq rfl (obl_seq rfl (obl_reg (obl_cond (obl_reg (obl_skip (obl_reg (obl_reg trivial)))))))))))))))))))))) (obl_seq rfl (obl_reg (obl_seq rfl (obl_reg (obl_ret trivial)))))))))))))))))))))))

def nat_Sub_cut (J0 : Slc → Slc → Slc → Int → Int → Int → World → Prop) (m0 : Slc → Slc → Slc → Int → Int → Int → World → Nat) : Nat → Option ((Act → World → Prop) × (Act → World → Nat))
  | 0 => some (fun a_ w_ => atSz a_ 52 (atS a_ 0 fun t0_a => atS a_ 1 fun t1_b => atS a_ 6 fun t6_c => atI .u64 a_ 7 fun t7_borrow => atI .i64 a_ 22 fun t22 => atI .i64 a_ 23 fun t23 => J0 t0_a t1_b t6_c t7_borrow t22 t23 w_), fun a_ w_ => mS a_ 0 fun t0_a => mS a_ 1 fun t1_b => mS a_ 6 fun t6_c => mI a_ 7 fun t7_borrow => mI a_ 22 fun t22 => mI a_ 23 fun t23 => m0 t0_a t1_b t6_c t7_borrow t22 t23 w_)
  | _ => none

set_option maxRecDepth 100000 in
/-- surd/nat.Sub: function 133. -/
theorem nat_Sub_vc (a0_a : Slc) (a1_b : Slc) (w : World) (R : Ending → World → Prop)
    (J0 : Slc → Slc → Slc → Int → Int → Int → World → Prop) (m0 : Slc → Slc → Slc → Int → Int → Int → World → Nat)
    (h : Calls Tryd.prog 113 #[a0_a.v, a1_b.v] w fun e1 w1 =>
    ∃ x1 : Int, e1 = .returned (Value.int .i64 x1) ∧
    (br (decide (x1 < 0))
      (R (.returned (Value.tuple #[(⟨none, 0, 0⟩ : Slc).v, Value.int .i64 10])) w1)
      (Calls Tryd.prog 127 #[a0_a.v] w1 fun e2 w2 =>
        ∃ s1 : Slc, e2 = .returned s1.v ∧
        (Calls Tryd.prog 127 #[a1_b.v] w2 fun e3 w3 =>
          ∃ s2 : Slc, e3 = .returned s2.v ∧
          (semS Tryd.prog (Instr.makeSlice 29 (Value.int .i64 (s1.n : Int)) (Value.int .i64 (s1.n : Int))) w3 fun s3 w4 =>
            J0 s1 s2 s3 0 (s1.n : Int) 0 w4)))))
    (h0 : ∀ (t0_a : Slc) (t1_b : Slc) (t6_c : Slc) (t7_borrow : Int) (t22 : Int) (t23 : Int) (w_ : World), J0 t0_a t1_b t6_c t7_borrow t22 t23 w_ → 
    br (decide (t23 < t22))
    (br (decide (t23 < (t1_b.n : Int)))
      (semA Tryd.prog (Instr.indexAt 29 t1_b.v (Value.int .i64 t23)) w_ fun ad1 w5 =>
        ldI .u64 ad1 w5 fun x2 =>
        semA Tryd.prog (Instr.indexAt 29 t0_a.v (Value.int .i64 t23)) w5 fun ad2 w6 =>
        ldI .u64 ad2 w6 fun x3 =>
        Sem.wp Tryd.prog (callFunc 137 #[Value.int .u64 x3, Value.int .u64 x2, Value.int .u64 t7_borrow]) (fun n1 w7 =>
          ∃ x4 : Int, ∃ x5 : Int, n1 = .value (Value.tuple #[Value.int .u64 x4, Value.int .u64 x5]) ∧
          (semA Tryd.prog (Instr.indexAt 29 t6_c.v (Value.int .i64 t23)) w7 fun ad3 w8 =>
            stC ad3 (Value.int .u64 x4) w8 fun w9 =>
            J0 t0_a t1_b t6_c x5 t22 (IntKind.i64.wrap (t23 + 1)) w9 ∧
            m0 t0_a t1_b t6_c x5 t22 (IntKind.i64.wrap (t23 + 1)) w9 < m0 t0_a t1_b t6_c t7_borrow t22 t23 w_)) (fun _ _ => False) w6)
      (semA Tryd.prog (Instr.indexAt 29 t0_a.v (Value.int .i64 t23)) w_ fun ad4 w10 =>
        ldI .u64 ad4 w10 fun x6 =>
        Sem.wp Tryd.prog (callFunc 137 #[Value.int .u64 x6, Value.int .u64 0, Value.int .u64 t7_borrow]) (fun n2 w11 =>
          ∃ x7 : Int, ∃ x8 : Int, n2 = .value (Value.tuple #[Value.int .u64 x7, Value.int .u64 x8]) ∧
          (semA Tryd.prog (Instr.indexAt 29 t6_c.v (Value.int .i64 t23)) w11 fun ad5 w12 =>
            stC ad5 (Value.int .u64 x7) w12 fun w13 =>
            J0 t0_a t1_b t6_c x8 t22 (IntKind.i64.wrap (t23 + 1)) w13 ∧
            m0 t0_a t1_b t6_c x8 t22 (IntKind.i64.wrap (t23 + 1)) w13 < m0 t0_a t1_b t6_c t7_borrow t22 t23 w_)) (fun _ _ => False) w10))
    (Calls Tryd.prog 134 #[t6_c.v] w_ fun e4 w14 =>
      ∃ s4 : Slc, ∃ x9 : Int, e4 = .returned (Value.tuple #[s4.v, Value.int .i64 x9]) ∧
      (R (.returned (Value.tuple #[s4.v, Value.int .i64 x9])) w14))) :
    Calls Tryd.prog 133 #[a0_a.v, a1_b.v] w R := by
  refine calls_of_vc (nat_Sub_cut J0 m0) (by kernel_rfl) Tryd.func133 rfl ?_ ?_
  · refine kcast h ?_; kernel_rfl
  · exact (obl_seq rfl (obl_reg (obl_seq rfl (obl_seq rfl (obl_reg (obl_cond (obl_seq rfl (obl_reg (obl_ret (obl_skip (obl_seq rfl (obl_reg (obl_seq rfl (obl_reg (obl_seq rfl (obl_reg (obl_seq rfl (obl_seq rfl (obl_reg (obl_loop _ rfl (fun a_ w_ hL_ => (by
    obtain ⟨hz_, hd_, hL_⟩ := atSz_out hL_
    obtain ⟨t0_a, h0_, hL_⟩ := atS_out hL_
    obtain ⟨t1_b, h1_, hL_⟩ := atS_out hL_
    obtain ⟨t6_c, h6_, hL_⟩ := atS_out hL_
    obtain ⟨t7_borrow, h7_, hL_⟩ := atI_out hL_
    obtain ⟨t22, h22_, hL_⟩ := atI_out hL_
    obtain ⟨t23, h23_, hL_⟩ := atI_out hL_
    obtain ⟨g0, rfl⟩ : ∃ g, a_ = Fr 52 [(0, t0_a.v), (1, t1_b.v), (6, t6_c.v), (7, Value.int .u64 t7_borrow), (22, Value.int .i64 t22), (23, Value.int .i64 t23)] g := ⟨_, fr_of hz_ hd_ [(0, t0_a.v), (1, t1_b.v), (6, t6_c.v), (7, Value.int .u64 t7_borrow), (22, Value.int .i64 t22), (23, Value.int .i64 t23)] (sel_cons h0_ (sel_cons h1_ (sel_cons h6_ (sel_cons h7_ (sel_cons h22_ (sel_cons h23_ sel_nil))))))⟩
    clear hz_ hd_ h0_ h1_ h6_ h7_ h22_ h23_
    have hJ0_ := hL_
    refine ⟨(fun _ => none), kcast (h0 t0_a t1_b t6_c t7_borrow t22 t23 w_ hJ0_) ?_, ?_⟩
    · kernel_rfl
    · exact (obl_seq rfl (obl_reg (obl_seq rfl (obl_cond (obl_skip (obl_exit (obl_seq rfl (obl_blk rfl (obl_seq rfl (obl_reg (obl_seq rfl (obl_reg (obl_seq rfl (obl_seq rfl (obl_reg (obl_cond (obl_reg (obl_skip (obl_reg (obl_reg trivial)))))))))))))))))))))) (obl_seq rfl (obl_reg (obl_ret trivial)))))))))))))))))))))))

def nat_Left_cut (J0 : Int → Int → Slc → Slc → Int → Int → World → Prop) (m0 : Int → Int → Slc → Slc → Int → Int → World → Nat) : Nat → Option ((Act → World → Prop) × (Act → World → Nat))
  | 0 => some (fun a_ w_ => atSz a_ 73 (atI .i64 a_ 6 fun t6 => atI .u64 a_ 7 fun t7 => atS a_ 8 fun t8 => atS a_ 38 fun t38 => atI .i64 a_ 39 fun t39 => atI .i64 a_ 40 fun t40 => J0 t6 t7 t8 t38 t39 t40 w_), fun a_ w_ => mI a_ 6 fun t6 => mI a_ 7 fun t7 => mS a_ 8 fun t8 => mS a_ 38 fun t38 => mI a_ 39 fun t39 => mI a_ 40 fun t40 => m0 t6 t7 t8 t38 t39 t40 w_)
  | _ => none

set_option maxRecDepth 100000 in
/-- surd/nat.Left: function 119. -/
theorem nat_Left_vc (a0 : Slc) (a1 : Int) (w : World) (R : Ending → World → Prop)
    (J0 : Int → Int → Slc → Slc → Int → Int → World → Prop) (m0 : Int → Int → Slc → Slc → Int → Int → World → Nat)
    (h : br (decide (a1 < 0))
    (R (.returned (Value.tuple #[(⟨none, 0, 0⟩ : Slc).v, Value.int .i64 1])) w)
    (br (decide (a1 > 1099511627776))
      (R (.returned (Value.tuple #[(⟨none, 0, 0⟩ : Slc).v, Value.int .i64 1])) w)
      (Calls Tryd.prog 127 #[a0.v] w fun e1 w1 =>
        ∃ s1 : Slc, e1 = .returned s1.v ∧
        (br ((s1.n : Int) == 0)
          (R (.returned (Value.tuple #[(⟨none, 0, 0⟩ : Slc).v, Value.int .i64 0])) w1)
          (Calls Tryd.prog 102 #[s1.v] w1 fun e2 w2 =>
            ∃ x1 : Int, e2 = .returned (Value.int .i64 x1) ∧
            (br (decide ((IntKind.i64.wrap (x1 + a1)) > 67108864))
              (R (.returned (Value.tuple #[(⟨none, 0, 0⟩ : Slc).v, Value.int .i64 3])) w2)
              (semS Tryd.prog (Instr.makeSlice 29 (Value.int .i64 (IntKind.i64.wrap ((IntKind.i64.wrap ((IntKind.i64.wrap (Int.tdiv a1 64)) + (s1.n : Int))) + 1))) (Value.int .i64 (IntKind.i64.wrap ((IntKind.i64.wrap ((IntKind.i64.wrap (Int.tdiv a1 64)) + (s1.n : Int))) + 1)))) w2 fun s2 w3 =>
                J0 (IntKind.i64.wrap (Int.tdiv a1 64)) (IntKind.u64.wrap (Int.tmod a1 64)) s2 s1 (s1.n : Int) 0 w3)))))))
    (h0 : ∀ (t6 : Int) (t7 : Int) (t8 : Slc) (t38 : Slc) (t39 : Int) (t40 : Int) (w_ : World), J0 t6 t7 t8 t38 t39 t40 w_ → 
    br (decide (t40 < t39))
    (semA Tryd.prog (Instr.indexAt 29 t38.v (Value.int .i64 t40)) w_ fun ad1 w4 =>
      ldI .u64 ad1 w4 fun x2 =>
      semA Tryd.prog (Instr.indexAt 29 t8.v (Value.int .i64 (IntKind.i64.wrap (t6 + t40)))) w4 fun ad2 w5 =>
      ldI .u64 ad2 w5 fun x3 =>
      semI Tryd.prog .u64 (binOp .shl 94 (Value.int .u64 x2) (Value.int .u64 t7)) w5 fun x4 w6 =>
      semA Tryd.prog (Instr.indexAt 29 t8.v (Value.int .i64 (IntKind.i64.wrap (t6 + t40)))) w6 fun ad3 w7 =>
      stC ad3 (Value.int .u64 (orI .u64 x3 x4)) w7 fun w8 =>
      semA Tryd.prog (Instr.indexAt 29 t8.v (Value.int .i64 (IntKind.i64.wrap ((IntKind.i64.wrap (t6 + t40)) + 1)))) w8 fun ad4 w9 =>
      ldI .u64 ad4 w9 fun x5 =>
      semI Tryd.prog .u64 (binOp .shr 94 (Value.int .u64 (Int.fdiv x2 (2 ^ (1 : Nat)))) (Value.int .u64 (IntKind.u64.wrap (63 - t7)))) w9 fun x6 w10 =>
      semA Tryd.prog (Instr.indexAt 29 t8.v (Value.int .i64 (IntKind.i64.wrap ((IntKind.i64.wrap (t6 + t40)) + 1)))) w10 fun ad5 w11 =>
      stC ad5 (Value.int .u64 (orI .u64 x5 x6)) w11 fun w12 =>
      J0 t6 t7 t8 t38 t39 (IntKind.i64.wrap (t40 + 1)) w12 ∧
      m0 t6 t7 t8 t38 t39 (IntKind.i64.wrap (t40 + 1)) w12 < m0 t6 t7 t8 t38 t39 t40 w_)
    (Calls Tryd.prog 127 #[t8.v] w_ fun e3 w13 =>
      ∃ s3 : Slc, e3 = .returned s3.v ∧
      (R (.returned (Value.tuple #[s3.v, Value.int .i64 0])) w13))) :
    Calls Tryd.prog 119 #[a0.v, Value.int .i64 a1] w R := by
  refine calls_of_vc (nat_Left_cut J0 m0) (by kernel_rfl) Tryd.func119 rfl ?_ ?_
  · refine kcast h ?_; kernel_rfl
  · exact (obl_seq rfl (obl_reg (obl_seq rfl (obl_seq rfl (obl_reg (obl_cond (obl_seq rfl (obl_reg (obl_ret (obl_skip (obl_seq rfl (obl_reg (obl_seq rfl (obl_seq rfl (obl_reg (obl_cond (obl_seq rfl (obl_reg (obl_ret (obl_skip (obl_seq rfl (obl_seq rfl (obl_reg (obl_cond (obl_seq rfl (obl_reg (obl_ret (obl_skip (obl_seq rfl (obl_reg (obl_seq rfl (obl_reg (obl_seq rfl (obl_seq rfl (obl_reg (obl_loop _ rfl (fun a_ w_ hL_ => (by
    obtain ⟨hz_, hd_, hL_⟩ := atSz_out hL_
    obtain ⟨t6, h6_, hL_⟩ := atI_out hL_
    obtain ⟨t7, h7_, hL_⟩ := atI_out hL_
    obtain ⟨t8, h8_, hL_⟩ := atS_out hL_
    obtain ⟨t38, h38_, hL_⟩ := atS_out hL_
    obtain ⟨t39, h39_, hL_⟩ := atI_out hL_
    obtain ⟨t40, h40_, hL_⟩ := atI_out hL_
    obtain ⟨g0, rfl⟩ : ∃ g, a_ = Fr 73 [(6, Value.int .i64 t6), (7, Value.int .u64 t7), (8, t8.v), (38, t38.v), (39, Value.int .i64 t39), (40, Value.int .i64 t40)] g := ⟨_, fr_of hz_ hd_ [(6, Value.int .i64 t6), (7, Value.int .u64 t7), (8, t8.v), (38, t38.v), (39, Value.int .i64 t39), (40, Value.int .i64 t40)] (sel_cons h6_ (sel_cons h7_ (sel_cons h8_ (sel_cons h38_ (sel_cons h39_ (sel_cons h40_ sel_nil))))))⟩
    clear hz_ hd_ h6_ h7_ h8_ h38_ h39_ h40_
    have hJ0_ := hL_
    refine ⟨(fun _ => none), kcast (h0 t6 t7 t8 t38 t39 t40 w_ hJ0_) ?_, ?_⟩
    · kernel_rfl
    · exact (obl_seq rfl (obl_reg (obl_seq rfl (obl_cond (obl_skip (obl_exit (obl_seq rfl (obl_blk rfl (obl_seq rfl (obl_reg (obl_seq rfl (obl_reg (obl_reg (obl_reg trivial)))))))))))))))) (obl_seq rfl (obl_reg (obl_ret trivial)))))))))))))))))))))))))))))))))))))))

def nat_Right_cut (J0 : Slc → Int → Int → Slc → Int → Int → World → Prop) (m0 : Slc → Int → Int → Slc → Int → Int → World → Nat) : Nat → Option ((Act → World → Prop) × (Act → World → Nat))
  | 0 => some (fun a_ w_ => atSz a_ 77 (atS a_ 0 fun t0 => atI .i64 a_ 6 fun t6 => atI .u64 a_ 7 fun t7 => atS a_ 8 fun t8 => atI .i64 a_ 33 fun t33 => atI .i64 a_ 34 fun t34 => J0 t0 t6 t7 t8 t33 t34 w_), fun a_ w_ => mS a_ 0 fun t0 => mI a_ 6 fun t6 => mI a_ 7 fun t7 => mS a_ 8 fun t8 => mI a_ 33 fun t33 => mI a_ 34 fun t34 => m0 t0 t6 t7 t8 t33 t34 w_)
  | _ => none

set_option maxRecDepth 100000 in
/-- surd/nat.Right: function 121. -/
theorem nat_Right_vc (a0 : Slc) (a1 : Int) (w : World) (R : Ending → World → Prop)
    (J0 : Slc → Int → Int → Slc → Int → Int → World → Prop) (m0 : Slc → Int → Int → Slc → Int → Int → World → Nat)
    (h : br (decide (a1 < 0))
    (R (.returned (Value.tuple #[(⟨none, 0, 0⟩ : Slc).v, Value.int .i64 1])) w)
    (br (decide (a1 > 1099511627776))
      (R (.returned (Value.tuple #[(⟨none, 0, 0⟩ : Slc).v, Value.int .i64 1])) w)
      (Calls Tryd.prog 127 #[a0.v] w fun e1 w1 =>
        ∃ s1 : Slc, e1 = .returned s1.v ∧
        (br (decide ((IntKind.i64.wrap (Int.tdiv a1 64)) ≥ (s1.n : Int)))
          (R (.returned (Value.tuple #[(⟨none, 0, 0⟩ : Slc).v, Value.int .i64 0])) w1)
          (semS Tryd.prog (Instr.makeSlice 29 (Value.int .i64 (IntKind.i64.wrap ((s1.n : Int) - (IntKind.i64.wrap (Int.tdiv a1 64))))) (Value.int .i64 (IntKind.i64.wrap ((s1.n : Int) - (IntKind.i64.wrap (Int.tdiv a1 64)))))) w1 fun s2 w2 =>
            J0 s1 (IntKind.i64.wrap (Int.tdiv a1 64)) (IntKind.u64.wrap (Int.tmod a1 64)) s2 (s2.n : Int) 0 w2)))))
    (h0 : ∀ (t0 : Slc) (t6 : Int) (t7 : Int) (t8 : Slc) (t33 : Int) (t34 : Int) (w_ : World), J0 t0 t6 t7 t8 t33 t34 w_ → 
    br (decide (t34 < t33))
    (semA Tryd.prog (Instr.indexAt 29 t0.v (Value.int .i64 (IntKind.i64.wrap (t6 + t34)))) w_ fun ad1 w3 =>
      ldI .u64 ad1 w3 fun x1 =>
      semI Tryd.prog .u64 (binOp .shr 94 (Value.int .u64 x1) (Value.int .u64 t7)) w3 fun x2 w4 =>
      semA Tryd.prog (Instr.indexAt 29 t8.v (Value.int .i64 t34)) w4 fun ad2 w5 =>
      stC ad2 (Value.int .u64 x2) w5 fun w6 =>
      br (decide ((IntKind.i64.wrap ((IntKind.i64.wrap (t6 + t34)) + 1)) < (t0.n : Int)))
      (fixA Tryd.prog (Instr.indexAt 29 t8.v (Value.int .i64 t34)) w6 fun ad3 =>
        ldI .u64 ad3 w6 fun x3 =>
        fixA Tryd.prog (Instr.indexAt 29 t0.v (Value.int .i64 (IntKind.i64.wrap ((IntKind.i64.wrap (t6 + t34)) + 1)))) w6 fun ad4 =>
        ldI .u64 ad4 w6 fun x4 =>
        fixI Tryd.prog .u64 (binOp .shl 94 (Value.int .u64 (IntKind.u64.wrap (x4 * 2 ^ (1 : Nat)))) (Value.int .u64 (IntKind.u64.wrap (63 - t7)))) w6 fun x5 =>
        fixA Tryd.prog (Instr.indexAt 29 t8.v (Value.int .i64 t34)) w6 fun ad5 =>
        stC ad5 (Value.int .u64 (orI .u64 x3 x5)) w6.drew fun w7 =>
        J0 t0 t6 t7 t8 t33 (IntKind.i64.wrap (t34 + 1)) w7 ∧
        m0 t0 t6 t7 t8 t33 (IntKind.i64.wrap (t34 + 1)) w7 < m0 t0 t6 t7 t8 t33 t34 w_)
      (J0 t0 t6 t7 t8 t33 (IntKind.i64.wrap (t34 + 1)) w6 ∧
        m0 t0 t6 t7 t8 t33 (IntKind.i64.wrap (t34 + 1)) w6 < m0 t0 t6 t7 t8 t33 t34 w_))
    (Calls Tryd.prog 134 #[t8.v] w_ fun e2 w8 =>
      ∃ s3 : Slc, ∃ x6 : Int, e2 = .returned (Value.tuple #[s3.v, Value.int .i64 x6]) ∧
      (R (.returned (Value.tuple #[s3.v, Value.int .i64 x6])) w8))) :
    Calls Tryd.prog 121 #[a0.v, Value.int .i64 a1] w R := by
  refine calls_of_vc (nat_Right_cut J0 m0) (by kernel_rfl) Tryd.func121 rfl ?_ ?_
  · refine kcast h ?_; kernel_rfl
  · exact (obl_seq rfl (obl_reg (obl_seq rfl (obl_seq rfl (obl_reg (obl_cond (obl_seq rfl (obl_reg (obl_ret (obl_skip (obl_seq rfl (obl_reg (obl_seq rfl (obl_reg (obl_seq rfl (obl_seq rfl (obl_reg (obl_cond (obl_seq rfl (obl_reg (obl_ret (obl_skip (obl_seq rfl (obl_reg (obl_seq rfl (obl_seq rfl (obl_reg (obl_loop _ rfl (fun a_ w_ hL_ => (by
    obtain ⟨hz_, hd_, hL_⟩ := atSz_out hL_
    obtain ⟨t0, h0_, hL_⟩ := atS_out hL_
    obtain ⟨t6, h6_, hL_⟩ := atI_out hL_
    obtain ⟨t7, h7_, hL_⟩ := atI_out hL_
    obtain ⟨t8, h8_, hL_⟩ := atS_out hL_
    obtain ⟨t33, h33_, hL_⟩ := atI_out hL_
    obtain ⟨t34, h34_, hL_⟩ := atI_out hL_
    obtain ⟨g0, rfl⟩ : ∃ g, a_ = Fr 77 [(0, t0.v), (6, Value.int .i64 t6), (7, Value.int .u64 t7), (8, t8.v), (33, Value.int .i64 t33), (34, Value.int .i64 t34)] g := ⟨_, fr_of hz_ hd_ [(0, t0.v), (6, Value.int .i64 t6), (7, Value.int .u64 t7), (8, t8.v), (33, Value.int .i64 t33), (34, Value.int .i64 t34)] (sel_cons h0_ (sel_cons h6_ (sel_cons h7_ (sel_cons h8_ (sel_cons h33_ (sel_cons h34_ sel_nil))))))⟩
    clear hz_ hd_ h0_ h6_ h7_ h8_ h33_ h34_
    have hJ0_ := hL_
    refine ⟨(fun _ => none), kcast (h0 t0 t6 t7 t8 t33 t34 w_ hJ0_) ?_, ?_⟩
    · kernel_rfl
    · exact (obl_seq rfl (obl_reg (obl_seq rfl (obl_cond (obl_skip (obl_exit (obl_seq rfl (obl_blk rfl (obl_seq rfl (obl_reg (obl_seq rfl (obl_reg (obl_seq rfl (obl_reg (obl_cond (obl_tail 17 (by kernel_rfl) (by kernel_rfl) (by kernel_rfl) (by kernel_rfl) (by kernel_rfl) (obl_skip (obl_reg trivial)))))))))))))))))))) (obl_seq rfl (obl_reg (obl_ret trivial)))))))))))))))))))))))))))))))

set_option maxRecDepth 100000 in
/-- surd/nat.Length: function 102. -/
theorem nat_Length_vc (a0_a : Slc) (w : World) (R : Ending → World → Prop)
    
    (h : Calls Tryd.prog 127 #[a0_a.v] w fun e1 w1 =>
    ∃ s1 : Slc, e1 = .returned s1.v ∧
    (br ((s1.n : Int) == 0)
      (R (.returned (Value.int .i64 0)) w1)
      (semA Tryd.prog (Instr.indexAt 29 s1.v (Value.int .i64 (IntKind.i64.wrap ((s1.n : Int) - 1)))) w1 fun ad1 w2 =>
        ldI .u64 ad1 w2 fun x1 =>
        Calls Tryd.prog 128 #[Value.int .u64 x1] w2 fun e2 w3 =>
        ∃ x2 : Int, e2 = .returned (Value.int .i64 x2) ∧
        (R (.returned (Value.int .i64 (IntKind.i64.wrap ((IntKind.i64.wrap (64 * (IntKind.i64.wrap ((s1.n : Int) - 1)))) + x2)))) w3)))) :
    Calls Tryd.prog 102 #[a0_a.v] w R := by
  refine calls_of_vc (fun _ => none) (by kernel_rfl) Tryd.func102 rfl ?_ ?_
  · refine kcast h ?_; kernel_rfl
  · exact (obl_seq rfl (obl_reg (obl_seq rfl (obl_reg (obl_seq rfl (obl_seq rfl (obl_reg (obl_cond (obl_seq rfl (obl_reg (obl_ret (obl_skip (obl_seq rfl (obl_reg (obl_ret trivial)))))))))))))))

end Go.Proofs.YthhbjhdnaopcnaaDoor
