/- Verification conditions of some of the program's functions, printed by a program of this session. No condition. -/
import Derived.Test.YthhbjhdnaopcnaaDoorProg
import Derived.Test.YthhbjhdnaopcnaaDoorEng
namespace Go.Proofs.YthhbjhdnaopcnaaDoor
open Go Go.RowKit Eng
set_option linter.unusedVariables false

set_option maxRecDepth 100000 in
/-- surd/surdlaw08.num: function 13. -/
theorem surdlaw08_num_vc (a0_e : Int) (w : World) (R : Ending → World → Prop)
    
    (h : R (.returned (Value.int .i64 a0_e)) w) :
    Calls Tryd.prog 13 #[Value.int .i64 a0_e] w R := by
  refine calls_of_vc (fun _ => none) (by kernel_rfl) Tryd.func13 rfl ?_ ?_
  · refine kcast h ?_; kernel_rfl
  · exact (obl_seq (obl_reg (obl_seq (obl_reg (obl_ret trivial)))))

set_option maxRecDepth 100000 in
/-- surd/surdlaw08.awake: function 14. -/
theorem surdlaw08_awake_vc  (w : World) (R : Ending → World → Prop)
    
    (h : newC w #[Value.int .u64 12] 94 fun ad1 w1 =>
    Calls Tryd.prog 20 #[Value.agg #[Value.bool false, (⟨some ad1, 1, 1⟩ : Slc).v], Value.int .i64 (-3)] w1 fun e1 w2 =>
    ∃ b1 : Bool, ∃ s1 : Slc, ∃ x1 : Int, ∃ x2 : Int, e1 = .returned (Value.tuple #[Value.agg #[Value.bool b1, s1.v, Value.int .i64 x1], Value.int .i64 x2]) ∧
    (newC w2 #[Value.bool false, (⟨none, 0, 0⟩ : Slc).v, Value.int .i64 0] 33 fun ad2 w3 =>
      stC ad2 (Value.bool b1) w3 fun w4 =>
      stC (ad2.add 1) s1.v w4 fun w5 =>
      stC (ad2.add 2) (Value.int .i64 x1) w5 fun w6 =>
      Calls Tryd.prog 13 #[Value.int .i64 x2] w6.drew fun e2 w7 =>
      ∃ x3 : Int, e2 = .returned (Value.int .i64 x3) ∧
      (Ahead w6.drew w7 ∧
        (br (x3 == 0)
          (ldB ad2 w7 fun b2 =>
            ldS (ad2.add 1) w7 fun s2 =>
            ldI .i64 (ad2.add 2) w7 fun x4 =>
            Calls Tryd.prog 29 #[Value.int .i64 3, Value.int .i64 (-1)] w7 fun e3 w8 =>
            ∃ b3 : Bool, ∃ s3 : Slc, ∃ x5 : Int, e3 = .returned (Value.agg #[Value.bool b3, s3.v, Value.int .i64 x5]) ∧
            (Ahead w7 w8 ∧
              (Calls Tryd.prog 30 #[Value.agg #[Value.bool b3, s3.v, Value.int .i64 x5], Value.bool b2, s2.v, Value.int .i64 x4] w8 fun e4 w9 =>
                ∃ b4 : Bool, e4 = .returned (Value.bool b4) ∧
                (Ahead w8 w9 ∧
                  (R (.returned (Value.bool b4)) w9)))))
          (R (.returned (Value.bool false)) w7))))) :
    Calls Tryd.prog 14 #[] w R := by
  refine calls_of_vc (fun _ => none) (by kernel_rfl) Tryd.func14 rfl ?_ ?_
  · refine kcast h ?_; kernel_rfl
  · exact (obl_seq (obl_reg (obl_seq (obl_reg (obl_seq (obl_held (by kernel_rfl) (by kernel_rfl) (obl_ret trivial)))))))

set_option maxRecDepth 100000 in
/-- surd/surdlaw08.alike: function 26. -/
theorem surdlaw08_alike_vc (a0_a_0 : Bool) (a0_a_1 : Slc) (a0_a_2 : Int) (a1_e : Int) (a2_want_0 : Bool) (a2_want_1 : Slc) (a2_want_2 : Int) (a3_f : Int) (w : World) (R : Ending → World → Prop)
    
    (h : newC w #[Value.bool a0_a_0, a0_a_1.v, Value.int .i64 a0_a_2] 33 fun ad1 w1 =>
    newC w1 #[Value.bool a2_want_0, a2_want_1.v, Value.int .i64 a2_want_2] 47 fun ad2 w2 =>
    br (a3_f == 0)
    (ldB ad2 w2 fun b1 =>
      ldS (ad2.add 1) w2 fun s1 =>
      ldI .i64 (ad2.add 2) w2 fun x1 =>
      Calls Tryd.prog 74 #[Value.agg #[Value.bool b1, s1.v, Value.int .i64 x1]] w2 fun e1 w3 =>
      ∃ b2 : Bool, ∃ s2 : Slc, ∃ x2 : Int, ∃ x3 : Int, e1 = .returned (Value.tuple #[Value.agg #[Value.bool b2, s2.v, Value.int .i64 x2], Value.int .i64 x3]) ∧
      (stC ad2 (Value.bool b2) w3 fun w4 =>
        stC (ad2.add 1) s2.v w4 fun w5 =>
        stC (ad2.add 2) (Value.int .i64 x2) w5 fun w6 =>
        br (x3 != 0)
        (Calls Tryd.prog 13 #[Value.int .i64 a1_e] w6 fun e2 w7 =>
          ∃ x4 : Int, e2 = .returned (Value.int .i64 x4) ∧
          (br (x4 == x3)
            (ldB ad1 w7 fun b3 =>
              br (!b3)
              (ldS (ad1.add 1) w7 fun s3 =>
                br ((s3.n : Int) == 0)
                (ldI .i64 (ad1.add 2) w7 fun x5 =>
                  R (.returned (Value.bool (x5 == 0))) w7)
                (R (.returned (Value.bool false)) w7))
              (R (.returned (Value.bool false)) w7))
            (R (.returned (Value.bool false)) w7)))
        (Calls Tryd.prog 13 #[Value.int .i64 a1_e] w6 fun e3 w8 =>
          ∃ x6 : Int, e3 = .returned (Value.int .i64 x6) ∧
          (br (x6 == 0)
            (ldB ad2 w8 fun b4 =>
              ldS (ad2.add 1) w8 fun s4 =>
              ldI .i64 (ad2.add 2) w8 fun x7 =>
              ldB ad1 w8 fun b5 =>
              ldS (ad1.add 1) w8 fun s5 =>
              ldI .i64 (ad1.add 2) w8 fun x8 =>
              Calls Tryd.prog 30 #[Value.agg #[Value.bool b4, s4.v, Value.int .i64 x7], Value.bool b5, s5.v, Value.int .i64 x8] w8 fun e4 w9 =>
              ∃ b6 : Bool, e4 = .returned (Value.bool b6) ∧
              (R (.returned (Value.bool b6)) w9))
            (R (.returned (Value.bool false)) w8)))))
    (br (a3_f != 0)
      (Calls Tryd.prog 13 #[Value.int .i64 a1_e] w2 fun e5 w10 =>
        ∃ x9 : Int, e5 = .returned (Value.int .i64 x9) ∧
        (br (x9 == a3_f)
          (ldB ad1 w10 fun b7 =>
            br (!b7)
            (ldS (ad1.add 1) w10 fun s6 =>
              br ((s6.n : Int) == 0)
              (ldI .i64 (ad1.add 2) w10 fun x10 =>
                R (.returned (Value.bool (x10 == 0))) w10)
              (R (.returned (Value.bool false)) w10))
            (R (.returned (Value.bool false)) w10))
          (R (.returned (Value.bool false)) w10)))
      (Calls Tryd.prog 13 #[Value.int .i64 a1_e] w2 fun e6 w11 =>
        ∃ x11 : Int, e6 = .returned (Value.int .i64 x11) ∧
        (br (x11 == 0)
          (ldB ad2 w11 fun b8 =>
            ldS (ad2.add 1) w11 fun s7 =>
            ldI .i64 (ad2.add 2) w11 fun x12 =>
            ldB ad1 w11 fun b9 =>
            ldS (ad1.add 1) w11 fun s8 =>
            ldI .i64 (ad1.add 2) w11 fun x13 =>
            Calls Tryd.prog 30 #[Value.agg #[Value.bool b8, s7.v, Value.int .i64 x12], Value.bool b9, s8.v, Value.int .i64 x13] w11 fun e7 w12 =>
            ∃ b10 : Bool, e7 = .returned (Value.bool b10) ∧
            (R (.returned (Value.bool b10)) w12))
          (R (.returned (Value.bool false)) w11))))) :
    Calls Tryd.prog 26 #[Value.agg #[Value.bool a0_a_0, a0_a_1.v, Value.int .i64 a0_a_2], Value.int .i64 a1_e, Value.agg #[Value.bool a2_want_0, a2_want_1.v, Value.int .i64 a2_want_2], Value.int .i64 a3_f] w R := by
  refine calls_of_vc (fun _ => none) (by kernel_rfl) Tryd.func26 rfl ?_ ?_
  · refine kcast h ?_; kernel_rfl
  · exact (obl_seq (obl_reg (obl_seq (obl_seq (obl_reg (obl_cond (obl_reg (obl_skip (obl_seq (obl_seq (obl_reg (obl_cond (obl_seq (obl_reg (obl_ret (obl_skip (obl_seq (obl_reg (obl_ret trivial)))))))))))))))))))

set_option maxRecDepth 100000 in
/-- surd/surdlaw08.lent: function 19. -/
theorem surdlaw08_lent_vc (a0_a_0 : Bool) (a0_a_1 : Slc) (a0_a_2 : Int) (w : World) (R : Ending → World → Prop)
    
    (h : newC w #[Value.bool a0_a_0, a0_a_1.v, Value.int .i64 a0_a_2] 27 fun ad1 w1 =>
    newC w1 #[Value.bool false, (⟨none, 0, 0⟩ : Slc).v, Value.int .i64 0] 33 fun ad2 w2 =>
    ldS (ad1.add 1) w2 fun s1 =>
    Calls Tryd.prog 65 #[s1.v] w2 fun e1 w3 =>
    ∃ s2 : Slc, ∃ s3 : Slc, e1 = .returned (Value.tuple #[s2.v, s3.v]) ∧
    (ldB ad1 w3 fun b1 =>
      ldI .i64 (ad1.add 2) w3 fun x1 =>
      stC ad2 (Value.bool b1) w3.drew fun w4 =>
      stC (ad2.add 1) s3.v w4 fun w5 =>
      stC (ad2.add 2) (Value.int .i64 x1) w5 fun w6 =>
      ldB ad2 w6 fun b2 =>
      ldS (ad2.add 1) w6 fun s4 =>
      ldI .i64 (ad2.add 2) w6 fun x2 =>
      R (.returned (Value.tuple #[s2.v, Value.agg #[Value.bool b2, s4.v, Value.int .i64 x2]])) w6)) :
    Calls Tryd.prog 19 #[Value.agg #[Value.bool a0_a_0, a0_a_1.v, Value.int .i64 a0_a_2]] w R := by
  refine calls_of_vc (fun _ => none) (by kernel_rfl) Tryd.func19 rfl ?_ ?_
  · refine kcast h ?_; kernel_rfl
  · exact (obl_seq (obl_reg (obl_seq (obl_reg (obl_seq (obl_tail 9 (by kernel_rfl) (by kernel_rfl) (by kernel_rfl) (by kernel_rfl) (obl_ret trivial)))))))

set_option maxRecDepth 100000 in
/-- surd/surdlaw08.of: function 35. -/
theorem surdlaw08_of_vc (a0_a_0 : Bool) (a0_a_1 : Slc) (a0_a_2 : Int) (w : World) (R : Ending → World → Prop)
    
    (h : newC w #[Value.bool a0_a_0, a0_a_1.v, Value.int .i64 a0_a_2] 27 fun ad1 w1 =>
    newC w1 #[Value.bool false, (⟨none, 0, 0⟩ : Slc).v, Value.int .i64 0] 47 fun ad2 w2 =>
    ldI .i64 (ad1.add 2) w2 fun x1 =>
    Calls Tryd.prog 78 #[Value.int .i64 x1] w2 fun e1 w3 =>
    ∃ b1 : Bool, e1 = .returned (Value.bool b1) ∧
    (br (!b1)
      (stC ad2 (Value.bool false) w3 fun w4 =>
        stC (ad2.add 1) ((⟨none, 0, 0⟩ : Slc).v) w4 fun w5 =>
        stC (ad2.add 2) (Value.int .i64 0) w5 fun w6 =>
        ldB ad2 w6 fun b2 =>
        ldS (ad2.add 1) w6 fun s1 =>
        ldI .i64 (ad2.add 2) w6 fun x2 =>
        R (.returned (Value.tuple #[Value.agg #[Value.bool b2, s1.v, Value.int .i64 x2], Value.bool false])) w6)
      (ldB ad1 w3.drew fun b3 =>
        ldS (ad1.add 1) w3.drew fun s2 =>
        ldI .i64 (ad1.add 2) w3.drew fun x3 =>
        Calls Tryd.prog 21 #[Value.bool b3, s2.v] w3.drew fun e2 w7 =>
        ∃ b4 : Bool, ∃ s3 : Slc, e2 = .returned (Value.agg #[Value.bool b4, s3.v]) ∧
        (Ahead w3.drew w7 ∧
          (Calls Tryd.prog 22 #[Value.agg #[Value.bool b4, s3.v], Value.int .i64 x3] w7 fun e3 w8 =>
            ∃ b5 : Bool, ∃ s4 : Slc, ∃ x4 : Int, e3 = .returned (Value.agg #[Value.bool b5, s4.v, Value.int .i64 x4]) ∧
            (Ahead w7 w8 ∧
              (stC ad2 (Value.bool b5) w8 fun w9 =>
                stC (ad2.add 1) s4.v w9 fun w10 =>
                stC (ad2.add 2) (Value.int .i64 x4) w10 fun w11 =>
                ldB ad2 w11 fun b6 =>
                ldS (ad2.add 1) w11 fun s5 =>
                ldI .i64 (ad2.add 2) w11 fun x5 =>
                R (.returned (Value.tuple #[Value.agg #[Value.bool b6, s5.v, Value.int .i64 x5], Value.bool true])) w11))))))) :
    Calls Tryd.prog 35 #[Value.agg #[Value.bool a0_a_0, a0_a_1.v, Value.int .i64 a0_a_2]] w R := by
  refine calls_of_vc (fun _ => none) (by kernel_rfl) Tryd.func35 rfl ?_ ?_
  · refine kcast h ?_; kernel_rfl
  · exact (obl_seq (obl_reg (obl_seq (obl_seq (obl_reg (obl_cond (obl_seq (obl_reg (obl_ret (obl_skip (obl_seq (obl_held (by kernel_rfl) (by kernel_rfl) (obl_ret trivial)))))))))))))

set_option maxRecDepth 100000 in
/-- surd/surdlaw08.fit: function 15. -/
theorem surdlaw08_fit_vc (a0_k : Int) (w : World) (R : Ending → World → Prop)
    
    (h : br (decide (a0_k ≥ (-1099511627776)))
    (R (.returned (Value.bool (decide (a0_k ≤ 1099511627776)))) w)
    (R (.returned (Value.bool false)) w)) :
    Calls Tryd.prog 15 #[Value.int .i64 a0_k] w R := by
  refine calls_of_vc (fun _ => none) (by kernel_rfl) Tryd.func15 rfl ?_ ?_
  · refine kcast h ?_; kernel_rfl
  · exact (obl_seq (obl_reg (obl_seq (obl_reg (obl_ret trivial)))))

set_option maxRecDepth 100000 in
/-- surd/surdlaw08.mode: function 37. -/
theorem surdlaw08_mode_vc (a0_m : Int) (w : World) (R : Ending → World → Prop)
    
    (h : br (decide (a0_m ≥ 0))
    (R (.returned (Value.bool (decide (a0_m ≤ 2)))) w)
    (R (.returned (Value.bool false)) w)) :
    Calls Tryd.prog 37 #[Value.int .i64 a0_m] w R := by
  refine calls_of_vc (fun _ => none) (by kernel_rfl) Tryd.func37 rfl ?_ ?_
  · refine kcast h ?_; kernel_rfl
  · exact (obl_seq (obl_reg (obl_seq (obl_reg (obl_ret trivial)))))

set_option maxRecDepth 100000 in
/-- surd/surdlaw08.in: function 17. -/
theorem surdlaw08_in_vc (a0_a_0 : Bool) (a0_a_1 : Slc) (a0_a_2 : Int) (w : World) (R : Ending → World → Prop)
    
    (h : newC w #[Value.bool a0_a_0, a0_a_1.v, Value.int .i64 a0_a_2] 27 fun ad1 w1 =>
    newC w1 #[Value.bool false, (⟨none, 0, 0⟩ : Slc).v, Value.int .i64 0] 33 fun ad2 w2 =>
    ldB ad1 w2 fun b1 =>
    ldS (ad1.add 1) w2 fun s1 =>
    ldI .i64 (ad1.add 2) w2 fun x1 =>
    stC ad2 (Value.bool b1) w2 fun w3 =>
    stC (ad2.add 1) s1.v w3 fun w4 =>
    stC (ad2.add 2) (Value.int .i64 x1) w4 fun w5 =>
    ldB ad2 w5 fun b2 =>
    ldS (ad2.add 1) w5 fun s2 =>
    ldI .i64 (ad2.add 2) w5 fun x2 =>
    R (.returned (Value.agg #[Value.bool b2, s2.v, Value.int .i64 x2])) w5) :
    Calls Tryd.prog 17 #[Value.agg #[Value.bool a0_a_0, a0_a_1.v, Value.int .i64 a0_a_2]] w R := by
  refine calls_of_vc (fun _ => none) (by kernel_rfl) Tryd.func17 rfl ?_ ?_
  · refine kcast h ?_; kernel_rfl
  · exact (obl_seq (obl_reg (obl_seq (obl_reg (obl_ret trivial)))))

set_option maxRecDepth 100000 in
/-- surd/surdlaw08.read: function 58. -/
theorem surdlaw08_read_vc (a0_a_0 : Bool) (a0_a_1 : Slc) (a0_a_2 : Int) (w : World) (R : Ending → World → Prop)
    
    (h : newC w #[Value.bool a0_a_0, a0_a_1.v, Value.int .i64 a0_a_2] 33 fun ad1 w1 =>
    newC w1 #[Value.bool false, (⟨none, 0, 0⟩ : Slc).v, Value.int .i64 0] 47 fun ad2 w2 =>
    ldB ad1 w2.drew fun b1 =>
    ldS (ad1.add 1) w2.drew fun s1 =>
    ldI .i64 (ad1.add 2) w2.drew fun x1 =>
    Calls Tryd.prog 21 #[Value.bool b1, s1.v] w2.drew fun e1 w3 =>
    ∃ b2 : Bool, ∃ s2 : Slc, e1 = .returned (Value.agg #[Value.bool b2, s2.v]) ∧
    (Ahead w2.drew w3 ∧
      (Calls Tryd.prog 22 #[Value.agg #[Value.bool b2, s2.v], Value.int .i64 x1] w3 fun e2 w4 =>
        ∃ b3 : Bool, ∃ s3 : Slc, ∃ x2 : Int, e2 = .returned (Value.agg #[Value.bool b3, s3.v, Value.int .i64 x2]) ∧
        (Ahead w3 w4 ∧
          (stC ad2 (Value.bool b3) w4 fun w5 =>
            stC (ad2.add 1) s3.v w5 fun w6 =>
            stC (ad2.add 2) (Value.int .i64 x2) w6 fun w7 =>
            ldB ad2 w7 fun b4 =>
            ldS (ad2.add 1) w7 fun s4 =>
            ldI .i64 (ad2.add 2) w7 fun x3 =>
            R (.returned (Value.agg #[Value.bool b4, s4.v, Value.int .i64 x3])) w7))))) :
    Calls Tryd.prog 58 #[Value.agg #[Value.bool a0_a_0, a0_a_1.v, Value.int .i64 a0_a_2]] w R := by
  refine calls_of_vc (fun _ => none) (by kernel_rfl) Tryd.func58 rfl ?_ ?_
  · refine kcast h ?_; kernel_rfl
  · exact (obl_seq (obl_reg (obl_seq (obl_held (by kernel_rfl) (by kernel_rfl) (obl_ret trivial)))))

set_option maxRecDepth 100000 in
/-- surd/surdlaw08.same: function 18. -/
theorem surdlaw08_same_vc (a0_a_0 : Bool) (a0_a_1 : Slc) (a0_a_2 : Int) (a1_b_0 : Bool) (a1_b_1 : Slc) (a1_b_2 : Int) (w : World) (R : Ending → World → Prop)
    
    (h : newC w #[Value.bool a0_a_0, a0_a_1.v, Value.int .i64 a0_a_2] 33 fun ad1 w1 =>
    newC w1 #[Value.bool a1_b_0, a1_b_1.v, Value.int .i64 a1_b_2] 33 fun ad2 w2 =>
    ldB ad1 w2.drew fun b1 =>
    ldS (ad1.add 1) w2.drew fun s1 =>
    ldB ad2 w2.drew fun b2 =>
    ldS (ad2.add 1) w2.drew fun s2 =>
    Calls Tryd.prog 21 #[Value.bool b1, s1.v] w2.drew fun e1 w3 =>
    ∃ b3 : Bool, ∃ s3 : Slc, e1 = .returned (Value.agg #[Value.bool b3, s3.v]) ∧
    (Ahead w2.drew w3 ∧
      (Calls Tryd.prog 43 #[Value.agg #[Value.bool b3, s3.v], Value.bool b2, s2.v] w3 fun e2 w4 =>
        ∃ b4 : Bool, e2 = .returned (Value.bool b4) ∧
        (Ahead w3 w4 ∧
          (br b4
            (ldI .i64 (ad1.add 2) w4 fun x1 =>
              ldI .i64 (ad2.add 2) w4 fun x2 =>
              R (.returned (Value.bool (x1 == x2))) w4)
            (R (.returned (Value.bool false)) w4)))))) :
    Calls Tryd.prog 18 #[Value.agg #[Value.bool a0_a_0, a0_a_1.v, Value.int .i64 a0_a_2], Value.agg #[Value.bool a1_b_0, a1_b_1.v, Value.int .i64 a1_b_2]] w R := by
  refine calls_of_vc (fun _ => none) (by kernel_rfl) Tryd.func18 rfl ?_ ?_
  · refine kcast h ?_; kernel_rfl
  · exact (obl_seq (obl_reg (obl_seq (obl_held (by kernel_rfl) (by kernel_rfl) (obl_ret trivial)))))

def surdlaw08_all_cut (J0 : Slc → Int → Int → World → Prop) (m0 : Slc → Int → Int → World → Nat) : Nat → Option ((Act → World → Prop) × (Act → World → Nat))
  | 0 => some (fun a_ w_ => atSz a_ 15 (atS a_ 5 fun t5 => atI .i64 a_ 6 fun t6 => atI .i64 a_ 7 fun t7 => J0 t5 t6 t7 w_), fun a_ w_ => mS a_ 5 fun t5 => mI a_ 6 fun t6 => mI a_ 7 fun t7 => m0 t5 t6 t7 w_)
  | _ => none

set_option maxRecDepth 100000 in
/-- surd/surdlaw08.all: function 57. -/
theorem surdlaw08_all_vc (a0_l : Slc) (w : World) (R : Ending → World → Prop)
    (J0 : Slc → Int → Int → World → Prop) (m0 : Slc → Int → Int → World → Nat)
    (h : J0 a0_l (a0_l.n : Int) 0 w)
    (h0 : ∀ (t5 : Slc) (t6 : Int) (t7 : Int) (w_ : World), J0 t5 t6 t7 w_ → 
    br (decide (t7 < t6))
    (semA Tryd.prog (Instr.indexAt 128 t5.v (Value.int .i64 t7)) w_ fun ad1 w1 =>
      ldI .i64 ad1 w1 fun x1 =>
      Calls Tryd.prog 13 #[Value.int .i64 x1] w1 fun e1 w2 =>
      ∃ x2 : Int, e1 = .returned (Value.int .i64 x2) ∧
      (br (x2 != 0)
        (R (.returned (Value.bool false)) w2)
        (J0 t5 t6 (IntKind.i64.wrap (t7 + 1)) w2 ∧
          m0 t5 t6 (IntKind.i64.wrap (t7 + 1)) w2 < m0 t5 t6 t7 w_)))
    (R (.returned (Value.bool true)) w_)) :
    Calls Tryd.prog 57 #[a0_l.v] w R := by
  refine calls_of_vc (surdlaw08_all_cut J0 m0) (by kernel_rfl) Tryd.func57 rfl ?_ ?_
  · refine kcast h ?_; kernel_rfl
  · exact (obl_seq (obl_reg (obl_seq (obl_seq (obl_reg (obl_loop _ rfl (fun a_ w_ hL_ => (by
    obtain ⟨hz_, hd_, hL_⟩ := atSz_out hL_
    obtain ⟨t5, h5_, hL_⟩ := atS_out hL_
    obtain ⟨t6, h6_, hL_⟩ := atI_out hL_
    obtain ⟨t7, h7_, hL_⟩ := atI_out hL_
    obtain ⟨g0, rfl⟩ : ∃ g, a_ = Fr 15 [(5, t5.v), (6, Value.int .i64 t6), (7, Value.int .i64 t7)] g := ⟨_, fr_of hz_ hd_ [(5, t5.v), (6, Value.int .i64 t6), (7, Value.int .i64 t7)] (sel_cons h5_ (sel_cons h6_ (sel_cons h7_ sel_nil)))⟩
    clear hz_ hd_ h5_ h6_ h7_
    have hJ0_ := hL_
    refine ⟨(fun _ => none), kcast (h0 t5 t6 t7 w_ hJ0_) ?_, ?_⟩
    · kernel_rfl
    · exact (obl_seq (obl_reg (obl_seq (obl_cond (obl_skip (obl_exit (obl_seq (obl_blk rfl (obl_seq (obl_reg (obl_seq (obl_reg (obl_cond (obl_seq (obl_reg (obl_ret (obl_skip (obl_reg trivial)))))))))))))))))))) (obl_seq (obl_reg (obl_ret trivial)))))))))

set_option maxRecDepth 100000 in
/-- surd/surdlaw08.at: function 59. -/
theorem surdlaw08_at_vc (a0_d_0 : Bool) (a0_d_1 : Slc) (a0_d_2 : Int) (a1_pos : Int) (w : World) (R : Ending → World → Prop)
    
    (h : newC w #[Value.bool a0_d_0, a0_d_1.v, Value.int .i64 a0_d_2] 47 fun ad1 w1 =>
    ldB ad1 w1 fun b1 =>
    ldS (ad1.add 1) w1 fun s1 =>
    Calls Tryd.prog 28 #[Value.agg #[Value.bool b1, s1.v]] w1 fun e1 w2 =>
    ∃ x1 : Int, e1 = .returned (Value.int .i64 x1) ∧
    (br (x1 == 0)
      (R (.returned (Value.bool true)) w2)
      (ldI .i64 (ad1.add 2) w2 fun x2 =>
        R (.returned (Value.bool (decide (x2 ≥ a1_pos)))) w2))) :
    Calls Tryd.prog 59 #[Value.agg #[Value.bool a0_d_0, a0_d_1.v, Value.int .i64 a0_d_2], Value.int .i64 a1_pos] w R := by
  refine calls_of_vc (fun _ => none) (by kernel_rfl) Tryd.func59 rfl ?_ ?_
  · refine kcast h ?_; kernel_rfl
  · exact (obl_seq (obl_reg (obl_seq (obl_reg (obl_ret trivial)))))

set_option maxRecDepth 100000 in
/-- surd/surdlaw08.DyadicNames: function 3. -/
theorem surdlaw08_DyadicNames_vc  (w : World) (R : Ending → World → Prop)
    
    (h : Calls Tryd.prog 13 #[Value.int .i64 80] w fun e1 w1 =>
    ∃ x1 : Int, e1 = .returned (Value.int .i64 x1) ∧
    (br (x1 == 80)
      (Calls Tryd.prog 13 #[Value.int .i64 81] w1 fun e2 w2 =>
        ∃ x2 : Int, e2 = .returned (Value.int .i64 x2) ∧
        (br (x2 == 81)
          (Calls Tryd.prog 13 #[Value.int .i64 82] w2 fun e3 w3 =>
            ∃ x3 : Int, e3 = .returned (Value.int .i64 x3) ∧
            (br (x3 == 82)
              (Calls Tryd.prog 14 #[] w3 fun e4 w4 =>
                ∃ b1 : Bool, e4 = .returned (Value.bool b1) ∧
                (R (.returned (Value.bool b1)) w4))
              (R (.returned (Value.bool false)) w3)))
          (R (.returned (Value.bool false)) w2)))
      (R (.returned (Value.bool false)) w1))) :
    Calls Tryd.prog 3 #[] w R := by
  refine calls_of_vc (fun _ => none) (by kernel_rfl) Tryd.func3 rfl ?_ ?_
  · refine kcast h ?_; kernel_rfl
  · exact (obl_seq (obl_reg (obl_seq (obl_reg (obl_ret trivial)))))

set_option maxRecDepth 100000 in
/-- surd/surdlaw08.DyadicScales: function 4. -/
theorem surdlaw08_DyadicScales_vc (a0_0 : Bool) (a0_1 : Slc) (a0_2 : Int) (a1 : Int) (a2 : Int) (w : World) (R : Ending → World → Prop)
    
    (h : newC w #[Value.bool a0_0, a0_1.v, Value.int .i64 a0_2] 27 fun ad1 w1 =>
    Calls Tryd.prog 15 #[Value.int .i64 a1] w1 fun e1 w2 =>
    ∃ b1 : Bool, e1 = .returned (Value.bool b1) ∧
    (br (!b1)
      (Calls Tryd.prog 14 #[] w2 fun e2 w3 =>
        ∃ b2 : Bool, e2 = .returned (Value.bool b2) ∧
        (R (.returned (Value.bool b2)) w3))
      (Calls Tryd.prog 15 #[Value.int .i64 a2] w2 fun e3 w4 =>
        ∃ b3 : Bool, e3 = .returned (Value.bool b3) ∧
        (br (!b3)
          (Calls Tryd.prog 14 #[] w4 fun e4 w5 =>
            ∃ b4 : Bool, e4 = .returned (Value.bool b4) ∧
            (R (.returned (Value.bool b4)) w5))
          (Calls Tryd.prog 15 #[Value.int .i64 (IntKind.i64.wrap (a1 + a2))] w4 fun e5 w6 =>
            ∃ b5 : Bool, e5 = .returned (Value.bool b5) ∧
            (br (!b5)
              (Calls Tryd.prog 14 #[] w6 fun e6 w7 =>
                ∃ b6 : Bool, e6 = .returned (Value.bool b6) ∧
                (R (.returned (Value.bool b6)) w7))
              (ldB ad1 w6 fun b7 =>
                ldS (ad1.add 1) w6 fun s1 =>
                ldI .i64 (ad1.add 2) w6 fun x1 =>
                Calls Tryd.prog 17 #[Value.agg #[Value.bool b7, s1.v, Value.int .i64 x1]] w6 fun e7 w8 =>
                ∃ b8 : Bool, ∃ s2 : Slc, ∃ x2 : Int, e7 = .returned (Value.agg #[Value.bool b8, s2.v, Value.int .i64 x2]) ∧
                (Calls Tryd.prog 16 #[Value.agg #[Value.bool b8, s2.v, Value.int .i64 x2], Value.int .i64 a1] w8 fun e8 w9 =>
                  ∃ b9 : Bool, ∃ s3 : Slc, ∃ x3 : Int, ∃ x4 : Int, e8 = .returned (Value.tuple #[Value.agg #[Value.bool b9, s3.v, Value.int .i64 x3], Value.int .i64 x4]) ∧
                  (newC w9 #[Value.bool false, (⟨none, 0, 0⟩ : Slc).v, Value.int .i64 0] 33 fun ad2 w10 =>
                    stC ad2 (Value.bool b9) w10 fun w11 =>
                    stC (ad2.add 1) s3.v w11 fun w12 =>
                    stC (ad2.add 2) (Value.int .i64 x3) w12 fun w13 =>
                    Calls Tryd.prog 13 #[Value.int .i64 x4] w13 fun e9 w14 =>
                    ∃ x5 : Int, e9 = .returned (Value.int .i64 x5) ∧
                    (br (x5 != 0)
                      (Calls Tryd.prog 14 #[] w14 fun e10 w15 =>
                        ∃ b10 : Bool, e10 = .returned (Value.bool b10) ∧
                        (R (.returned (Value.bool b10)) w15))
                      (ldB ad2 w14 fun b11 =>
                        ldS (ad2.add 1) w14 fun s4 =>
                        ldI .i64 (ad2.add 2) w14 fun x6 =>
                        Calls Tryd.prog 16 #[Value.agg #[Value.bool b11, s4.v, Value.int .i64 x6], Value.int .i64 a2] w14 fun e11 w16 =>
                        ∃ b12 : Bool, ∃ s5 : Slc, ∃ x7 : Int, ∃ x8 : Int, e11 = .returned (Value.tuple #[Value.agg #[Value.bool b12, s5.v, Value.int .i64 x7], Value.int .i64 x8]) ∧
                        (newC w16 #[Value.bool false, (⟨none, 0, 0⟩ : Slc).v, Value.int .i64 0] 33 fun ad3 w17 =>
                          stC ad3 (Value.bool b12) w17 fun w18 =>
                          stC (ad3.add 1) s5.v w18 fun w19 =>
                          stC (ad3.add 2) (Value.int .i64 x7) w19 fun w20 =>
                          ldB ad1 w20 fun b13 =>
                          ldS (ad1.add 1) w20 fun s6 =>
                          ldI .i64 (ad1.add 2) w20 fun x9 =>
                          Calls Tryd.prog 17 #[Value.agg #[Value.bool b13, s6.v, Value.int .i64 x9]] w20 fun e12 w21 =>
                          ∃ b14 : Bool, ∃ s7 : Slc, ∃ x10 : Int, e12 = .returned (Value.agg #[Value.bool b14, s7.v, Value.int .i64 x10]) ∧
                          (Calls Tryd.prog 16 #[Value.agg #[Value.bool b14, s7.v, Value.int .i64 x10], Value.int .i64 (IntKind.i64.wrap (a1 + a2))] w21 fun e13 w22 =>
                            ∃ b15 : Bool, ∃ s8 : Slc, ∃ x11 : Int, ∃ x12 : Int, e13 = .returned (Value.tuple #[Value.agg #[Value.bool b15, s8.v, Value.int .i64 x11], Value.int .i64 x12]) ∧
                            (newC w22 #[Value.bool false, (⟨none, 0, 0⟩ : Slc).v, Value.int .i64 0] 33 fun ad4 w23 =>
                              stC ad4 (Value.bool b15) w23 fun w24 =>
                              stC (ad4.add 1) s8.v w24 fun w25 =>
                              stC (ad4.add 2) (Value.int .i64 x11) w25 fun w26 =>
                              Calls Tryd.prog 13 #[Value.int .i64 x8] w26 fun e14 w27 =>
                              ∃ x13 : Int, e14 = .returned (Value.int .i64 x13) ∧
                              (Calls Tryd.prog 13 #[Value.int .i64 x12] w27 fun e15 w28 =>
                                ∃ x14 : Int, e15 = .returned (Value.int .i64 x14) ∧
                                (br (x13 == x14)
                                  (ldB ad3 w28 fun b16 =>
                                    ldS (ad3.add 1) w28 fun s9 =>
                                    ldI .i64 (ad3.add 2) w28 fun x15 =>
                                    ldB ad4 w28 fun b17 =>
                                    ldS (ad4.add 1) w28 fun s10 =>
                                    ldI .i64 (ad4.add 2) w28 fun x16 =>
                                    Calls Tryd.prog 18 #[Value.agg #[Value.bool b16, s9.v, Value.int .i64 x15], Value.agg #[Value.bool b17, s10.v, Value.int .i64 x16]] w28 fun e16 w29 =>
                                    ∃ b18 : Bool, e16 = .returned (Value.bool b18) ∧
                                    (br b18
                                      (Calls Tryd.prog 14 #[] w29 fun e17 w30 =>
                                        ∃ b19 : Bool, e17 = .returned (Value.bool b19) ∧
                                        (R (.returned (Value.bool b19)) w30))
                                      (R (.returned (Value.bool false)) w29)))
                                  (R (.returned (Value.bool false)) w28))))))))))))))))) :
    Calls Tryd.prog 4 #[Value.agg #[Value.bool a0_0, a0_1.v, Value.int .i64 a0_2], Value.int .i64 a1, Value.int .i64 a2] w R := by
  refine calls_of_vc (fun _ => none) (by kernel_rfl) Tryd.func4 rfl ?_ ?_
  · refine kcast h ?_; kernel_rfl
  · exact (obl_seq (obl_reg (obl_seq (obl_seq (obl_reg (obl_cond (obl_seq (obl_reg (obl_ret (obl_skip (obl_seq (obl_reg (obl_seq (obl_seq (obl_reg (obl_cond (obl_seq (obl_reg (obl_ret (obl_skip (obl_seq (obl_reg (obl_seq (obl_reg (obl_seq (obl_reg (obl_ret trivial)))))))))))))))))))))))))))

set_option maxRecDepth 100000 in
/-- surd/surdlaw08.DyadicMakes: function 5. -/
theorem surdlaw08_DyadicMakes_vc (a0_0 : Bool) (a0_1 : Slc) (a0_2 : Int) (a1 : Int) (w : World) (R : Ending → World → Prop)
    
    (h : newC w #[Value.bool a0_0, a0_1.v, Value.int .i64 a0_2] 27 fun ad1 w1 =>
    ldB ad1 w1 fun b1 =>
    ldS (ad1.add 1) w1 fun s1 =>
    ldI .i64 (ad1.add 2) w1 fun x1 =>
    Calls Tryd.prog 19 #[Value.agg #[Value.bool b1, s1.v, Value.int .i64 x1]] w1 fun e1 w2 =>
    ∃ s2 : Slc, ∃ b2 : Bool, ∃ s3 : Slc, ∃ x2 : Int, e1 = .returned (Value.tuple #[s2.v, Value.agg #[Value.bool b2, s3.v, Value.int .i64 x2]]) ∧
    (newC w2 #[Value.bool false, (⟨none, 0, 0⟩ : Slc).v, Value.int .i64 0] 33 fun ad2 w3 =>
      stC ad2 (Value.bool b2) w3 fun w4 =>
      stC (ad2.add 1) s3.v w4 fun w5 =>
      stC (ad2.add 2) (Value.int .i64 x2) w5 fun w6 =>
      ldB ad2 w6 fun b3 =>
      ldS (ad2.add 1) w6 fun s4 =>
      ldI .i64 (ad1.add 2) w6 fun x3 =>
      Calls Tryd.prog 20 #[Value.agg #[Value.bool b3, s4.v], Value.int .i64 x3] w6 fun e2 w7 =>
      ∃ b4 : Bool, ∃ s5 : Slc, ∃ x4 : Int, ∃ x5 : Int, e2 = .returned (Value.tuple #[Value.agg #[Value.bool b4, s5.v, Value.int .i64 x4], Value.int .i64 x5]) ∧
      (newC w7 #[Value.bool false, (⟨none, 0, 0⟩ : Slc).v, Value.int .i64 0] 33 fun ad3 w8 =>
        stC ad3 (Value.bool b4) w8 fun w9 =>
        stC (ad3.add 1) s5.v w9 fun w10 =>
        stC (ad3.add 2) (Value.int .i64 x4) w10 fun w11 =>
        ldB ad1 w11 fun b5 =>
        ldS (ad1.add 1) w11 fun s6 =>
        Calls Tryd.prog 21 #[Value.bool b5, s6.v] w11 fun e3 w12 =>
        ∃ b6 : Bool, ∃ s7 : Slc, e3 = .returned (Value.agg #[Value.bool b6, s7.v]) ∧
        (newC w12 #[Value.bool false, (⟨none, 0, 0⟩ : Slc).v] 44 fun ad4 w13 =>
          stC ad4 (Value.bool b6) w13 fun w14 =>
          stC (ad4.add 1) s7.v w14 fun w15 =>
          ldI .i64 (ad1.add 2) w15 fun x6 =>
          Calls Tryd.prog 15 #[Value.int .i64 x6] w15 fun e4 w16 =>
          ∃ b7 : Bool, e4 = .returned (Value.bool b7) ∧
          (br (!b7)
            (newC w16 #[Value.bool false, (⟨none, 0, 0⟩ : Slc).v, Value.int .i64 0] 47 fun ad5 w17 =>
              stC ad5 (Value.bool false) w17 fun w18 =>
              stC (ad5.add 1) ((⟨none, 0, 0⟩ : Slc).v) w18 fun w19 =>
              stC (ad5.add 2) (Value.int .i64 0) w19 fun w20 =>
              br (1 == 0)
              (ldB ad4 w20 fun b8 =>
                ldS (ad4.add 1) w20 fun s8 =>
                ldI .i64 (ad1.add 2) w20 fun x7 =>
                Calls Tryd.prog 22 #[Value.agg #[Value.bool b8, s8.v], Value.int .i64 x7] w20 fun e5 w21 =>
                ∃ b9 : Bool, ∃ s9 : Slc, ∃ x8 : Int, e5 = .returned (Value.agg #[Value.bool b9, s9.v, Value.int .i64 x8]) ∧
                (stC ad5 (Value.bool b9) w21 fun w22 =>
                  stC (ad5.add 1) s9.v w22 fun w23 =>
                  stC (ad5.add 2) (Value.int .i64 x8) w23 fun w24 =>
                  Calls Tryd.prog 23 #[Value.int .i64 a1] w24 fun e6 w25 =>
                  ∃ b10 : Bool, ∃ s10 : Slc, ∃ x9 : Int, e6 = .returned (Value.agg #[Value.bool b10, s10.v, Value.int .i64 x9]) ∧
                  (newC w25 #[Value.bool false, (⟨none, 0, 0⟩ : Slc).v, Value.int .i64 0] 33 fun ad6 w26 =>
                    stC ad6 (Value.bool b10) w26 fun w27 =>
                    stC (ad6.add 1) s10.v w27 fun w28 =>
                    stC (ad6.add 2) (Value.int .i64 x9) w28 fun w29 =>
                    ldB ad2 w29 fun b11 =>
                    ldS (ad2.add 1) w29 fun s11 =>
                    ldI .i64 (ad2.add 2) w29 fun x10 =>
                    Calls Tryd.prog 24 #[Value.agg #[Value.bool b11, s11.v, Value.int .i64 x10]] w29 fun e7 w30 =>
                    ∃ x11 : Int, ∃ x12 : Int, e7 = .returned (Value.tuple #[Value.int .i64 x11, Value.int .i64 x12]) ∧
                    (ldB ad2 w30 fun b12 =>
                      ldS (ad2.add 1) w30 fun s12 =>
                      ldI .i64 (ad2.add 2) w30 fun x13 =>
                      Calls Tryd.prog 25 #[Value.agg #[Value.bool b12, s12.v, Value.int .i64 x13]] w30 fun e8 w31 =>
                      ∃ x14 : Int, ∃ x15 : Int, e8 = .returned (Value.tuple #[Value.int .i64 x14, Value.int .i64 x15]) ∧
                      (ldB ad3 w31.drew fun b13 =>
                        ldS (ad3.add 1) w31.drew fun s13 =>
                        ldI .i64 (ad3.add 2) w31.drew fun x16 =>
                        ldB ad5 w31.drew fun b14 =>
                        ldS (ad5.add 1) w31.drew fun s14 =>
                        ldI .i64 (ad5.add 2) w31.drew fun x17 =>
                        Calls Tryd.prog 26 #[Value.agg #[Value.bool b13, s13.v, Value.int .i64 x16], Value.int .i64 x5, Value.agg #[Value.bool b14, s14.v, Value.int .i64 x17], Value.int .i64 1] w31.drew fun e9 w32 =>
                        ∃ b15 : Bool, e9 = .returned (Value.bool b15) ∧
                        (Ahead w31.drew w32 ∧
                          (br (!b15)
                            (R (.returned (Value.bool false)) w32)
                            (ldB ad2 w32 fun b16 =>
                              ldS (ad2.add 1) w32 fun s15 =>
                              ldI .i64 (ad2.add 2) w32 fun x18 =>
                              ldB ad4 w32 fun b17 =>
                              ldS (ad4.add 1) w32 fun s16 =>
                              Calls Tryd.prog 27 #[Value.agg #[Value.bool b16, s15.v, Value.int .i64 x18]] w32 fun e10 w33 =>
                              ∃ x19 : Int, e10 = .returned (Value.int .i64 x19) ∧
                              (Ahead w32 w33 ∧
                                (Calls Tryd.prog 28 #[Value.agg #[Value.bool b17, s16.v]] w33 fun e11 w34 =>
                                  ∃ x20 : Int, e11 = .returned (Value.int .i64 x20) ∧
                                  (Ahead w33 w34 ∧
                                    (br (x19 != x20)
                                      (R (.returned (Value.bool false)) w34)
                                      (ldB ad6 w34 fun b18 =>
                                        ldS (ad6.add 1) w34 fun s17 =>
                                        ldI .i64 (ad6.add 2) w34 fun x21 =>
                                        Calls Tryd.prog 29 #[Value.int .i64 a1, Value.int .i64 0] w34 fun e12 w35 =>
                                        ∃ b19 : Bool, ∃ s18 : Slc, ∃ x22 : Int, e12 = .returned (Value.agg #[Value.bool b19, s18.v, Value.int .i64 x22]) ∧
                                        (Ahead w34 w35 ∧
                                          (Calls Tryd.prog 30 #[Value.agg #[Value.bool b19, s18.v, Value.int .i64 x22], Value.bool b18, s17.v, Value.int .i64 x21] w35 fun e13 w36 =>
                                            ∃ b20 : Bool, e13 = .returned (Value.bool b20) ∧
                                            (Ahead w35 w36 ∧
                                              (br (!b20)
                                                (R (.returned (Value.bool false)) w36)
                                                (ldS (ad3.add 1) w36 fun s19 =>
                                                  ldS (ad6.add 1) w36 fun s20 =>
                                                  newC w36 #[s19.v, s20.v] 25 fun ad7 w37 =>
                                                  Ahead w36 w37 ∧
                                                  (Calls Tryd.prog 31 #[(⟨some ad7, 2, 2⟩ : Slc).v] w37 fun e14 w38 =>
                                                    ∃ b21 : Bool, e14 = .returned (Value.bool b21) ∧
                                                    (Ahead w37 w38 ∧
                                                      (br (!b21)
                                                        (R (.returned (Value.bool false)) w38)
                                                        (ldS (ad1.add 1) w38 fun s21 =>
                                                          Calls Tryd.prog 32 #[s2.v, s21.v] w38 fun e15 w39 =>
                                                          ∃ b22 : Bool, e15 = .returned (Value.bool b22) ∧
                                                          (Ahead w38 w39 ∧
                                                            (br (!b22)
                                                              (R (.returned (Value.bool false)) w39)
                                                              (br (1 != 0)
                                                                (Calls Tryd.prog 13 #[Value.int .i64 x12] w39 fun e16 w40 =>
                                                                  ∃ x23 : Int, e16 = .returned (Value.int .i64 x23) ∧
                                                                  (br (x23 == 80)
                                                                    (Calls Tryd.prog 13 #[Value.int .i64 x15] w40 fun e17 w41 =>
                                                                      ∃ x24 : Int, e17 = .returned (Value.int .i64 x24) ∧
                                                                      (br (x24 == 80)
                                                                        (br (x11 == 0)
                                                                          (br (x14 == 0)
                                                                            (Calls Tryd.prog 14 #[] w41 fun e18 w42 =>
                                                                              ∃ b23 : Bool, e18 = .returned (Value.bool b23) ∧
                                                                              (R (.returned (Value.bool b23)) w42))
                                                                            (R (.returned (Value.bool false)) w41))
                                                                          (R (.returned (Value.bool false)) w41))
                                                                        (R (.returned (Value.bool false)) w41)))
                                                                    (R (.returned (Value.bool false)) w40)))
                                                                (ldB ad4 w39 fun b24 =>
                                                                  ldS (ad4.add 1) w39 fun s22 =>
                                                                  Calls Tryd.prog 28 #[Value.agg #[Value.bool b24, s22.v]] w39 fun e19 w43 =>
                                                                  ∃ x25 : Int, e19 = .returned (Value.int .i64 x25) ∧
                                                                  (br (x25 == 0)
                                                                    (Calls Tryd.prog 13 #[Value.int .i64 x12] w43 fun e20 w44 =>
                                                                      ∃ x26 : Int, e20 = .returned (Value.int .i64 x26) ∧
                                                                      (br (x26 == 1)
                                                                        (br (x11 == 0)
                                                                          (Calls Tryd.prog 13 #[Value.int .i64 x15] w44 fun e21 w45 =>
                                                                            ∃ x27 : Int, e21 = .returned (Value.int .i64 x27) ∧
                                                                            (br (x27 == 0)
                                                                              (br (x14 == 0)
                                                                                (Calls Tryd.prog 14 #[] w45 fun e22 w46 =>
                                                                                  ∃ b25 : Bool, e22 = .returned (Value.bool b25) ∧
                                                                                  (R (.returned (Value.bool b25)) w46))
                                                                                (R (.returned (Value.bool false)) w45))
                                                                              (R (.returned (Value.bool false)) w45)))
                                                                          (R (.returned (Value.bool false)) w44))
                                                                        (R (.returned (Value.bool false)) w44)))
                                                                    (Calls Tryd.prog 13 #[Value.int .i64 x12] w43 fun e23 w47 =>
                                                                      ∃ x28 : Int, e23 = .returned (Value.int .i64 x28) ∧
                                                                      (br (x28 == 0)
                                                                        (ldB ad5 w47 fun b26 =>
                                                                          ldS (ad5.add 1) w47 fun s23 =>
                                                                          ldI .i64 (ad5.add 2) w47 fun x29 =>
                                                                          Calls Tryd.prog 33 #[Value.agg #[Value.bool b26, s23.v, Value.int .i64 x29]] w47 fun e24 w48 =>
                                                                          ∃ x30 : Int, e24 = .returned (Value.int .i64 x30) ∧
                                                                          (br (x11 == x30)
                                                                            (Calls Tryd.prog 13 #[Value.int .i64 x15] w48 fun e25 w49 =>
                                                                              ∃ x31 : Int, e25 = .returned (Value.int .i64 x31) ∧
                                                                              (br (x31 == 0)
                                                                                (ldS (ad5.add 1) w49 fun s24 =>
                                                                                  Calls Tryd.prog 34 #[s24.v] w49 fun e26 w50 =>
                                                                                  ∃ x32 : Int, e26 = .returned (Value.int .i64 x32) ∧
                                                                                  (br (x14 == x32)
                                                                                    (Calls Tryd.prog 14 #[] w50 fun e27 w51 =>
                                                                                      ∃ b27 : Bool, e27 = .returned (Value.bool b27) ∧
                                                                                      (R (.returned (Value.bool b27)) w51))
                                                                                    (R (.returned (Value.bool false)) w50)))
                                                                                (R (.returned (Value.bool false)) w49)))
                                                                            (R (.returned (Value.bool false)) w48)))
                                                                        (R (.returned (Value.bool false)) w47))))))))))))))))))))))))))))))
              (Calls Tryd.prog 23 #[Value.int .i64 a1] w20 fun e28 w52 =>
                ∃ b28 : Bool, ∃ s25 : Slc, ∃ x33 : Int, e28 = .returned (Value.agg #[Value.bool b28, s25.v, Value.int .i64 x33]) ∧
                (newC w52 #[Value.bool false, (⟨none, 0, 0⟩ : Slc).v, Value.int .i64 0] 33 fun ad8 w53 =>
                  stC ad8 (Value.bool b28) w53 fun w54 =>
                  stC (ad8.add 1) s25.v w54 fun w55 =>
                  stC (ad8.add 2) (Value.int .i64 x33) w55 fun w56 =>
                  ldB ad2 w56 fun b29 =>
                  ldS (ad2.add 1) w56 fun s26 =>
                  ldI .i64 (ad2.add 2) w56 fun x34 =>
                  Calls Tryd.prog 24 #[Value.agg #[Value.bool b29, s26.v, Value.int .i64 x34]] w56 fun e29 w57 =>
                  ∃ x35 : Int, ∃ x36 : Int, e29 = .returned (Value.tuple #[Value.int .i64 x35, Value.int .i64 x36]) ∧
                  (ldB ad2 w57 fun b30 =>
                    ldS (ad2.add 1) w57 fun s27 =>
                    ldI .i64 (ad2.add 2) w57 fun x37 =>
                    Calls Tryd.prog 25 #[Value.agg #[Value.bool b30, s27.v, Value.int .i64 x37]] w57 fun e30 w58 =>
                    ∃ x38 : Int, ∃ x39 : Int, e30 = .returned (Value.tuple #[Value.int .i64 x38, Value.int .i64 x39]) ∧
                    (ldB ad3 w58.drew fun b31 =>
                      ldS (ad3.add 1) w58.drew fun s28 =>
                      ldI .i64 (ad3.add 2) w58.drew fun x40 =>
                      ldB ad5 w58.drew fun b32 =>
                      ldS (ad5.add 1) w58.drew fun s29 =>
                      ldI .i64 (ad5.add 2) w58.drew fun x41 =>
                      Calls Tryd.prog 26 #[Value.agg #[Value.bool b31, s28.v, Value.int .i64 x40], Value.int .i64 x5, Value.agg #[Value.bool b32, s29.v, Value.int .i64 x41], Value.int .i64 1] w58.drew fun e31 w59 =>
                      ∃ b33 : Bool, e31 = .returned (Value.bool b33) ∧
                      (Ahead w58.drew w59 ∧
                        (br (!b33)
                          (R (.returned (Value.bool false)) w59)
                          (ldB ad2 w59 fun b34 =>
                            ldS (ad2.add 1) w59 fun s30 =>
                            ldI .i64 (ad2.add 2) w59 fun x42 =>
                            ldB ad4 w59 fun b35 =>
                            ldS (ad4.add 1) w59 fun s31 =>
                            Calls Tryd.prog 27 #[Value.agg #[Value.bool b34, s30.v, Value.int .i64 x42]] w59 fun e32 w60 =>
                            ∃ x43 : Int, e32 = .returned (Value.int .i64 x43) ∧
                            (Ahead w59 w60 ∧
                              (Calls Tryd.prog 28 #[Value.agg #[Value.bool b35, s31.v]] w60 fun e33 w61 =>
                                ∃ x44 : Int, e33 = .returned (Value.int .i64 x44) ∧
                                (Ahead w60 w61 ∧
                                  (br (x43 != x44)
                                    (R (.returned (Value.bool false)) w61)
                                    (ldB ad8 w61 fun b36 =>
                                      ldS (ad8.add 1) w61 fun s32 =>
                                      ldI .i64 (ad8.add 2) w61 fun x45 =>
                                      Calls Tryd.prog 29 #[Value.int .i64 a1, Value.int .i64 0] w61 fun e34 w62 =>
                                      ∃ b37 : Bool, ∃ s33 : Slc, ∃ x46 : Int, e34 = .returned (Value.agg #[Value.bool b37, s33.v, Value.int .i64 x46]) ∧
                                      (Ahead w61 w62 ∧
                                        (Calls Tryd.prog 30 #[Value.agg #[Value.bool b37, s33.v, Value.int .i64 x46], Value.bool b36, s32.v, Value.int .i64 x45] w62 fun e35 w63 =>
                                          ∃ b38 : Bool, e35 = .returned (Value.bool b38) ∧
                                          (Ahead w62 w63 ∧
                                            (br (!b38)
                                              (R (.returned (Value.bool false)) w63)
                                              (ldS (ad3.add 1) w63 fun s34 =>
                                                ldS (ad8.add 1) w63 fun s35 =>
                                                newC w63 #[s34.v, s35.v] 25 fun ad9 w64 =>
                                                Ahead w63 w64 ∧
                                                (Calls Tryd.prog 31 #[(⟨some ad9, 2, 2⟩ : Slc).v] w64 fun e36 w65 =>
                                                  ∃ b39 : Bool, e36 = .returned (Value.bool b39) ∧
                                                  (Ahead w64 w65 ∧
                                                    (br (!b39)
                                                      (R (.returned (Value.bool false)) w65)
                                                      (ldS (ad1.add 1) w65 fun s36 =>
                                                        Calls Tryd.prog 32 #[s2.v, s36.v] w65 fun e37 w66 =>
                                                        ∃ b40 : Bool, e37 = .returned (Value.bool b40) ∧
                                                        (Ahead w65 w66 ∧
                                                          (br (!b40)
                                                            (R (.returned (Value.bool false)) w66)
                                                            (br (1 != 0)
                                                              (Calls Tryd.prog 13 #[Value.int .i64 x36] w66 fun e38 w67 =>
                                                                ∃ x47 : Int, e38 = .returned (Value.int .i64 x47) ∧
                                                                (br (x47 == 80)
                                                                  (Calls Tryd.prog 13 #[Value.int .i64 x39] w67 fun e39 w68 =>
                                                                    ∃ x48 : Int, e39 = .returned (Value.int .i64 x48) ∧
                                                                    (br (x48 == 80)
                                                                      (br (x35 == 0)
                                                                        (br (x38 == 0)
                                                                          (Calls Tryd.prog 14 #[] w68 fun e40 w69 =>
                                                                            ∃ b41 : Bool, e40 = .returned (Value.bool b41) ∧
                                                                            (R (.returned (Value.bool b41)) w69))
                                                                          (R (.returned (Value.bool false)) w68))
                                                                        (R (.returned (Value.bool false)) w68))
                                                                      (R (.returned (Value.bool false)) w68)))
                                                                  (R (.returned (Value.bool false)) w67)))
                                                              (ldB ad4 w66 fun b42 =>
                                                                ldS (ad4.add 1) w66 fun s37 =>
                                                                Calls Tryd.prog 28 #[Value.agg #[Value.bool b42, s37.v]] w66 fun e41 w70 =>
                                                                ∃ x49 : Int, e41 = .returned (Value.int .i64 x49) ∧
                                                                (br (x49 == 0)
                                                                  (Calls Tryd.prog 13 #[Value.int .i64 x36] w70 fun e42 w71 =>
                                                                    ∃ x50 : Int, e42 = .returned (Value.int .i64 x50) ∧
                                                                    (br (x50 == 1)
                                                                      (br (x35 == 0)
                                                                        (Calls Tryd.prog 13 #[Value.int .i64 x39] w71 fun e43 w72 =>
                                                                          ∃ x51 : Int, e43 = .returned (Value.int .i64 x51) ∧
                                                                          (br (x51 == 0)
                                                                            (br (x38 == 0)
                                                                              (Calls Tryd.prog 14 #[] w72 fun e44 w73 =>
                                                                                ∃ b43 : Bool, e44 = .returned (Value.bool b43) ∧
                                                                                (R (.returned (Value.bool b43)) w73))
                                                                              (R (.returned (Value.bool false)) w72))
                                                                            (R (.returned (Value.bool false)) w72)))
                                                                        (R (.returned (Value.bool false)) w71))
                                                                      (R (.returned (Value.bool false)) w71)))
                                                                  (Calls Tryd.prog 13 #[Value.int .i64 x36] w70 fun e45 w74 =>
                                                                    ∃ x52 : Int, e45 = .returned (Value.int .i64 x52) ∧
                                                                    (br (x52 == 0)
                                                                      (ldB ad5 w74 fun b44 =>
                                                                        ldS (ad5.add 1) w74 fun s38 =>
                                                                        ldI .i64 (ad5.add 2) w74 fun x53 =>
                                                                        Calls Tryd.prog 33 #[Value.agg #[Value.bool b44, s38.v, Value.int .i64 x53]] w74 fun e46 w75 =>
                                                                        ∃ x54 : Int, e46 = .returned (Value.int .i64 x54) ∧
                                                                        (br (x35 == x54)
                                                                          (Calls Tryd.prog 13 #[Value.int .i64 x39] w75 fun e47 w76 =>
                                                                            ∃ x55 : Int, e47 = .returned (Value.int .i64 x55) ∧
                                                                            (br (x55 == 0)
                                                                              (ldS (ad5.add 1) w76 fun s39 =>
                                                                                Calls Tryd.prog 34 #[s39.v] w76 fun e48 w77 =>
                                                                                ∃ x56 : Int, e48 = .returned (Value.int .i64 x56) ∧
                                                                                (br (x38 == x56)
                                                                                  (Calls Tryd.prog 14 #[] w77 fun e49 w78 =>
                                                                                    ∃ b45 : Bool, e49 = .returned (Value.bool b45) ∧
                                                                                    (R (.returned (Value.bool b45)) w78))
                                                                                  (R (.returned (Value.bool false)) w77)))
                                                                              (R (.returned (Value.bool false)) w76)))
                                                                          (R (.returned (Value.bool false)) w75)))
                                                                      (R (.returned (Value.bool false)) w74))))))))))))))))))))))))))))))
            (newC w16 #[Value.bool false, (⟨none, 0, 0⟩ : Slc).v, Value.int .i64 0] 47 fun ad10 w79 =>
              stC ad10 (Value.bool false) w79 fun w80 =>
              stC (ad10.add 1) ((⟨none, 0, 0⟩ : Slc).v) w80 fun w81 =>
              stC (ad10.add 2) (Value.int .i64 0) w81 fun w82 =>
              br (0 == 0)
              (ldB ad4 w82 fun b46 =>
                ldS (ad4.add 1) w82 fun s40 =>
                ldI .i64 (ad1.add 2) w82 fun x57 =>
                Calls Tryd.prog 22 #[Value.agg #[Value.bool b46, s40.v], Value.int .i64 x57] w82 fun e50 w83 =>
                ∃ b47 : Bool, ∃ s41 : Slc, ∃ x58 : Int, e50 = .returned (Value.agg #[Value.bool b47, s41.v, Value.int .i64 x58]) ∧
                (stC ad10 (Value.bool b47) w83 fun w84 =>
                  stC (ad10.add 1) s41.v w84 fun w85 =>
                  stC (ad10.add 2) (Value.int .i64 x58) w85 fun w86 =>
                  Calls Tryd.prog 23 #[Value.int .i64 a1] w86 fun e51 w87 =>
                  ∃ b48 : Bool, ∃ s42 : Slc, ∃ x59 : Int, e51 = .returned (Value.agg #[Value.bool b48, s42.v, Value.int .i64 x59]) ∧
                  (newC w87 #[Value.bool false, (⟨none, 0, 0⟩ : Slc).v, Value.int .i64 0] 33 fun ad11 w88 =>
                    stC ad11 (Value.bool b48) w88 fun w89 =>
                    stC (ad11.add 1) s42.v w89 fun w90 =>
                    stC (ad11.add 2) (Value.int .i64 x59) w90 fun w91 =>
                    ldB ad2 w91 fun b49 =>
                    ldS (ad2.add 1) w91 fun s43 =>
                    ldI .i64 (ad2.add 2) w91 fun x60 =>
                    Calls Tryd.prog 24 #[Value.agg #[Value.bool b49, s43.v, Value.int .i64 x60]] w91 fun e52 w92 =>
                    ∃ x61 : Int, ∃ x62 : Int, e52 = .returned (Value.tuple #[Value.int .i64 x61, Value.int .i64 x62]) ∧
                    (ldB ad2 w92 fun b50 =>
                      ldS (ad2.add 1) w92 fun s44 =>
                      ldI .i64 (ad2.add 2) w92 fun x63 =>
                      Calls Tryd.prog 25 #[Value.agg #[Value.bool b50, s44.v, Value.int .i64 x63]] w92 fun e53 w93 =>
                      ∃ x64 : Int, ∃ x65 : Int, e53 = .returned (Value.tuple #[Value.int .i64 x64, Value.int .i64 x65]) ∧
                      (ldB ad3 w93.drew fun b51 =>
                        ldS (ad3.add 1) w93.drew fun s45 =>
                        ldI .i64 (ad3.add 2) w93.drew fun x66 =>
                        ldB ad10 w93.drew fun b52 =>
                        ldS (ad10.add 1) w93.drew fun s46 =>
                        ldI .i64 (ad10.add 2) w93.drew fun x67 =>
                        Calls Tryd.prog 26 #[Value.agg #[Value.bool b51, s45.v, Value.int .i64 x66], Value.int .i64 x5, Value.agg #[Value.bool b52, s46.v, Value.int .i64 x67], Value.int .i64 0] w93.drew fun e54 w94 =>
                        ∃ b53 : Bool, e54 = .returned (Value.bool b53) ∧
                        (Ahead w93.drew w94 ∧
                          (br (!b53)
                            (R (.returned (Value.bool false)) w94)
                            (ldB ad2 w94 fun b54 =>
                              ldS (ad2.add 1) w94 fun s47 =>
                              ldI .i64 (ad2.add 2) w94 fun x68 =>
                              ldB ad4 w94 fun b55 =>
                              ldS (ad4.add 1) w94 fun s48 =>
                              Calls Tryd.prog 27 #[Value.agg #[Value.bool b54, s47.v, Value.int .i64 x68]] w94 fun e55 w95 =>
                              ∃ x69 : Int, e55 = .returned (Value.int .i64 x69) ∧
                              (Ahead w94 w95 ∧
                                (Calls Tryd.prog 28 #[Value.agg #[Value.bool b55, s48.v]] w95 fun e56 w96 =>
                                  ∃ x70 : Int, e56 = .returned (Value.int .i64 x70) ∧
                                  (Ahead w95 w96 ∧
                                    (br (x69 != x70)
                                      (R (.returned (Value.bool false)) w96)
                                      (ldB ad11 w96 fun b56 =>
                                        ldS (ad11.add 1) w96 fun s49 =>
                                        ldI .i64 (ad11.add 2) w96 fun x71 =>
                                        Calls Tryd.prog 29 #[Value.int .i64 a1, Value.int .i64 0] w96 fun e57 w97 =>
                                        ∃ b57 : Bool, ∃ s50 : Slc, ∃ x72 : Int, e57 = .returned (Value.agg #[Value.bool b57, s50.v, Value.int .i64 x72]) ∧
                                        (Ahead w96 w97 ∧
                                          (Calls Tryd.prog 30 #[Value.agg #[Value.bool b57, s50.v, Value.int .i64 x72], Value.bool b56, s49.v, Value.int .i64 x71] w97 fun e58 w98 =>
                                            ∃ b58 : Bool, e58 = .returned (Value.bool b58) ∧
                                            (Ahead w97 w98 ∧
                                              (br (!b58)
                                                (R (.returned (Value.bool false)) w98)
                                                (ldS (ad3.add 1) w98 fun s51 =>
                                                  ldS (ad11.add 1) w98 fun s52 =>
                                                  newC w98 #[s51.v, s52.v] 25 fun ad12 w99 =>
                                                  Ahead w98 w99 ∧
                                                  (Calls Tryd.prog 31 #[(⟨some ad12, 2, 2⟩ : Slc).v] w99 fun e59 w100 =>
                                                    ∃ b59 : Bool, e59 = .returned (Value.bool b59) ∧
                                                    (Ahead w99 w100 ∧
                                                      (br (!b59)
                                                        (R (.returned (Value.bool false)) w100)
                                                        (ldS (ad1.add 1) w100 fun s53 =>
                                                          Calls Tryd.prog 32 #[s2.v, s53.v] w100 fun e60 w101 =>
                                                          ∃ b60 : Bool, e60 = .returned (Value.bool b60) ∧
                                                          (Ahead w100 w101 ∧
                                                            (br (!b60)
                                                              (R (.returned (Value.bool false)) w101)
                                                              (br (0 != 0)
                                                                (Calls Tryd.prog 13 #[Value.int .i64 x62] w101 fun e61 w102 =>
                                                                  ∃ x73 : Int, e61 = .returned (Value.int .i64 x73) ∧
                                                                  (br (x73 == 80)
                                                                    (Calls Tryd.prog 13 #[Value.int .i64 x65] w102 fun e62 w103 =>
                                                                      ∃ x74 : Int, e62 = .returned (Value.int .i64 x74) ∧
                                                                      (br (x74 == 80)
                                                                        (br (x61 == 0)
                                                                          (br (x64 == 0)
                                                                            (Calls Tryd.prog 14 #[] w103 fun e63 w104 =>
                                                                              ∃ b61 : Bool, e63 = .returned (Value.bool b61) ∧
                                                                              (R (.returned (Value.bool b61)) w104))
                                                                            (R (.returned (Value.bool false)) w103))
                                                                          (R (.returned (Value.bool false)) w103))
                                                                        (R (.returned (Value.bool false)) w103)))
                                                                    (R (.returned (Value.bool false)) w102)))
                                                                (ldB ad4 w101 fun b62 =>
                                                                  ldS (ad4.add 1) w101 fun s54 =>
                                                                  Calls Tryd.prog 28 #[Value.agg #[Value.bool b62, s54.v]] w101 fun e64 w105 =>
                                                                  ∃ x75 : Int, e64 = .returned (Value.int .i64 x75) ∧
                                                                  (br (x75 == 0)
                                                                    (Calls Tryd.prog 13 #[Value.int .i64 x62] w105 fun e65 w106 =>
                                                                      ∃ x76 : Int, e65 = .returned (Value.int .i64 x76) ∧
                                                                      (br (x76 == 1)
                                                                        (br (x61 == 0)
                                                                          (Calls Tryd.prog 13 #[Value.int .i64 x65] w106 fun e66 w107 =>
                                                                            ∃ x77 : Int, e66 = .returned (Value.int .i64 x77) ∧
                                                                            (br (x77 == 0)
                                                                              (br (x64 == 0)
                                                                                (Calls Tryd.prog 14 #[] w107 fun e67 w108 =>
                                                                                  ∃ b63 : Bool, e67 = .returned (Value.bool b63) ∧
                                                                                  (R (.returned (Value.bool b63)) w108))
                                                                                (R (.returned (Value.bool false)) w107))
                                                                              (R (.returned (Value.bool false)) w107)))
                                                                          (R (.returned (Value.bool false)) w106))
                                                                        (R (.returned (Value.bool false)) w106)))
                                                                    (Calls Tryd.prog 13 #[Value.int .i64 x62] w105 fun e68 w109 =>
                                                                      ∃ x78 : Int, e68 = .returned (Value.int .i64 x78) ∧
                                                                      (br (x78 == 0)
                                                                        (ldB ad10 w109 fun b64 =>
                                                                          ldS (ad10.add 1) w109 fun s55 =>
                                                                          ldI .i64 (ad10.add 2) w109 fun x79 =>
                                                                          Calls Tryd.prog 33 #[Value.agg #[Value.bool b64, s55.v, Value.int .i64 x79]] w109 fun e69 w110 =>
                                                                          ∃ x80 : Int, e69 = .returned (Value.int .i64 x80) ∧
                                                                          (br (x61 == x80)
                                                                            (Calls Tryd.prog 13 #[Value.int .i64 x65] w110 fun e70 w111 =>
                                                                              ∃ x81 : Int, e70 = .returned (Value.int .i64 x81) ∧
                                                                              (br (x81 == 0)
                                                                                (ldS (ad10.add 1) w111 fun s56 =>
                                                                                  Calls Tryd.prog 34 #[s56.v] w111 fun e71 w112 =>
                                                                                  ∃ x82 : Int, e71 = .returned (Value.int .i64 x82) ∧
                                                                                  (br (x64 == x82)
                                                                                    (Calls Tryd.prog 14 #[] w112 fun e72 w113 =>
                                                                                      ∃ b65 : Bool, e72 = .returned (Value.bool b65) ∧
                                                                                      (R (.returned (Value.bool b65)) w113))
                                                                                    (R (.returned (Value.bool false)) w112)))
                                                                                (R (.returned (Value.bool false)) w111)))
                                                                            (R (.returned (Value.bool false)) w110)))
                                                                        (R (.returned (Value.bool false)) w109))))))))))))))))))))))))))))))
              (Calls Tryd.prog 23 #[Value.int .i64 a1] w82 fun e73 w114 =>
                ∃ b66 : Bool, ∃ s57 : Slc, ∃ x83 : Int, e73 = .returned (Value.agg #[Value.bool b66, s57.v, Value.int .i64 x83]) ∧
                (newC w114 #[Value.bool false, (⟨none, 0, 0⟩ : Slc).v, Value.int .i64 0] 33 fun ad13 w115 =>
                  stC ad13 (Value.bool b66) w115 fun w116 =>
                  stC (ad13.add 1) s57.v w116 fun w117 =>
                  stC (ad13.add 2) (Value.int .i64 x83) w117 fun w118 =>
                  ldB ad2 w118 fun b67 =>
                  ldS (ad2.add 1) w118 fun s58 =>
                  ldI .i64 (ad2.add 2) w118 fun x84 =>
                  Calls Tryd.prog 24 #[Value.agg #[Value.bool b67, s58.v, Value.int .i64 x84]] w118 fun e74 w119 =>
                  ∃ x85 : Int, ∃ x86 : Int, e74 = .returned (Value.tuple #[Value.int .i64 x85, Value.int .i64 x86]) ∧
                  (ldB ad2 w119 fun b68 =>
                    ldS (ad2.add 1) w119 fun s59 =>
                    ldI .i64 (ad2.add 2) w119 fun x87 =>
                    Calls Tryd.prog 25 #[Value.agg #[Value.bool b68, s59.v, Value.int .i64 x87]] w119 fun e75 w120 =>
                    ∃ x88 : Int, ∃ x89 : Int, e75 = .returned (Value.tuple #[Value.int .i64 x88, Value.int .i64 x89]) ∧
                    (ldB ad3 w120.drew fun b69 =>
                      ldS (ad3.add 1) w120.drew fun s60 =>
                      ldI .i64 (ad3.add 2) w120.drew fun x90 =>
                      ldB ad10 w120.drew fun b70 =>
                      ldS (ad10.add 1) w120.drew fun s61 =>
                      ldI .i64 (ad10.add 2) w120.drew fun x91 =>
                      Calls Tryd.prog 26 #[Value.agg #[Value.bool b69, s60.v, Value.int .i64 x90], Value.int .i64 x5, Value.agg #[Value.bool b70, s61.v, Value.int .i64 x91], Value.int .i64 0] w120.drew fun e76 w121 =>
                      ∃ b71 : Bool, e76 = .returned (Value.bool b71) ∧
                      (Ahead w120.drew w121 ∧
                        (br (!b71)
                          (R (.returned (Value.bool false)) w121)
                          (ldB ad2 w121 fun b72 =>
                            ldS (ad2.add 1) w121 fun s62 =>
                            ldI .i64 (ad2.add 2) w121 fun x92 =>
                            ldB ad4 w121 fun b73 =>
                            ldS (ad4.add 1) w121 fun s63 =>
                            Calls Tryd.prog 27 #[Value.agg #[Value.bool b72, s62.v, Value.int .i64 x92]] w121 fun e77 w122 =>
                            ∃ x93 : Int, e77 = .returned (Value.int .i64 x93) ∧
                            (Ahead w121 w122 ∧
                              (Calls Tryd.prog 28 #[Value.agg #[Value.bool b73, s63.v]] w122 fun e78 w123 =>
                                ∃ x94 : Int, e78 = .returned (Value.int .i64 x94) ∧
                                (Ahead w122 w123 ∧
                                  (br (x93 != x94)
                                    (R (.returned (Value.bool false)) w123)
                                    (ldB ad13 w123 fun b74 =>
                                      ldS (ad13.add 1) w123 fun s64 =>
                                      ldI .i64 (ad13.add 2) w123 fun x95 =>
                                      Calls Tryd.prog 29 #[Value.int .i64 a1, Value.int .i64 0] w123 fun e79 w124 =>
                                      ∃ b75 : Bool, ∃ s65 : Slc, ∃ x96 : Int, e79 = .returned (Value.agg #[Value.bool b75, s65.v, Value.int .i64 x96]) ∧
                                      (Ahead w123 w124 ∧
                                        (Calls Tryd.prog 30 #[Value.agg #[Value.bool b75, s65.v, Value.int .i64 x96], Value.bool b74, s64.v, Value.int .i64 x95] w124 fun e80 w125 =>
                                          ∃ b76 : Bool, e80 = .returned (Value.bool b76) ∧
                                          (Ahead w124 w125 ∧
                                            (br (!b76)
                                              (R (.returned (Value.bool false)) w125)
                                              (ldS (ad3.add 1) w125 fun s66 =>
                                                ldS (ad13.add 1) w125 fun s67 =>
                                                newC w125 #[s66.v, s67.v] 25 fun ad14 w126 =>
                                                Ahead w125 w126 ∧
                                                (Calls Tryd.prog 31 #[(⟨some ad14, 2, 2⟩ : Slc).v] w126 fun e81 w127 =>
                                                  ∃ b77 : Bool, e81 = .returned (Value.bool b77) ∧
                                                  (Ahead w126 w127 ∧
                                                    (br (!b77)
                                                      (R (.returned (Value.bool false)) w127)
                                                      (ldS (ad1.add 1) w127 fun s68 =>
                                                        Calls Tryd.prog 32 #[s2.v, s68.v] w127 fun e82 w128 =>
                                                        ∃ b78 : Bool, e82 = .returned (Value.bool b78) ∧
                                                        (Ahead w127 w128 ∧
                                                          (br (!b78)
                                                            (R (.returned (Value.bool false)) w128)
                                                            (br (0 != 0)
                                                              (Calls Tryd.prog 13 #[Value.int .i64 x86] w128 fun e83 w129 =>
                                                                ∃ x97 : Int, e83 = .returned (Value.int .i64 x97) ∧
                                                                (br (x97 == 80)
                                                                  (Calls Tryd.prog 13 #[Value.int .i64 x89] w129 fun e84 w130 =>
                                                                    ∃ x98 : Int, e84 = .returned (Value.int .i64 x98) ∧
                                                                    (br (x98 == 80)
                                                                      (br (x85 == 0)
                                                                        (br (x88 == 0)
                                                                          (Calls Tryd.prog 14 #[] w130 fun e85 w131 =>
                                                                            ∃ b79 : Bool, e85 = .returned (Value.bool b79) ∧
                                                                            (R (.returned (Value.bool b79)) w131))
                                                                          (R (.returned (Value.bool false)) w130))
                                                                        (R (.returned (Value.bool false)) w130))
                                                                      (R (.returned (Value.bool false)) w130)))
                                                                  (R (.returned (Value.bool false)) w129)))
                                                              (ldB ad4 w128 fun b80 =>
                                                                ldS (ad4.add 1) w128 fun s69 =>
                                                                Calls Tryd.prog 28 #[Value.agg #[Value.bool b80, s69.v]] w128 fun e86 w132 =>
                                                                ∃ x99 : Int, e86 = .returned (Value.int .i64 x99) ∧
                                                                (br (x99 == 0)
                                                                  (Calls Tryd.prog 13 #[Value.int .i64 x86] w132 fun e87 w133 =>
                                                                    ∃ x100 : Int, e87 = .returned (Value.int .i64 x100) ∧
                                                                    (br (x100 == 1)
                                                                      (br (x85 == 0)
                                                                        (Calls Tryd.prog 13 #[Value.int .i64 x89] w133 fun e88 w134 =>
                                                                          ∃ x101 : Int, e88 = .returned (Value.int .i64 x101) ∧
                                                                          (br (x101 == 0)
                                                                            (br (x88 == 0)
                                                                              (Calls Tryd.prog 14 #[] w134 fun e89 w135 =>
                                                                                ∃ b81 : Bool, e89 = .returned (Value.bool b81) ∧
                                                                                (R (.returned (Value.bool b81)) w135))
                                                                              (R (.returned (Value.bool false)) w134))
                                                                            (R (.returned (Value.bool false)) w134)))
                                                                        (R (.returned (Value.bool false)) w133))
                                                                      (R (.returned (Value.bool false)) w133)))
                                                                  (Calls Tryd.prog 13 #[Value.int .i64 x86] w132 fun e90 w136 =>
                                                                    ∃ x102 : Int, e90 = .returned (Value.int .i64 x102) ∧
                                                                    (br (x102 == 0)
                                                                      (ldB ad10 w136 fun b82 =>
                                                                        ldS (ad10.add 1) w136 fun s70 =>
                                                                        ldI .i64 (ad10.add 2) w136 fun x103 =>
                                                                        Calls Tryd.prog 33 #[Value.agg #[Value.bool b82, s70.v, Value.int .i64 x103]] w136 fun e91 w137 =>
                                                                        ∃ x104 : Int, e91 = .returned (Value.int .i64 x104) ∧
                                                                        (br (x85 == x104)
                                                                          (Calls Tryd.prog 13 #[Value.int .i64 x89] w137 fun e92 w138 =>
                                                                            ∃ x105 : Int, e92 = .returned (Value.int .i64 x105) ∧
                                                                            (br (x105 == 0)
                                                                              (ldS (ad10.add 1) w138 fun s71 =>
                                                                                Calls Tryd.prog 34 #[s71.v] w138 fun e93 w139 =>
                                                                                ∃ x106 : Int, e93 = .returned (Value.int .i64 x106) ∧
                                                                                (br (x88 == x106)
                                                                                  (Calls Tryd.prog 14 #[] w139 fun e94 w140 =>
                                                                                    ∃ b83 : Bool, e94 = .returned (Value.bool b83) ∧
                                                                                    (R (.returned (Value.bool b83)) w140))
                                                                                  (R (.returned (Value.bool false)) w139)))
                                                                              (R (.returned (Value.bool false)) w138)))
                                                                          (R (.returned (Value.bool false)) w137)))
                                                                      (R (.returned (Value.bool false)) w136))))))))))))))))))))))))))))))))))) :
    Calls Tryd.prog 5 #[Value.agg #[Value.bool a0_0, a0_1.v, Value.int .i64 a0_2], Value.int .i64 a1] w R := by
  refine calls_of_vc (fun _ => none) (by kernel_rfl) Tryd.func5 rfl ?_ ?_
  · refine kcast h ?_; kernel_rfl
  · exact (obl_seq (obl_reg (obl_seq (obl_reg (obl_seq (obl_reg (obl_seq (obl_reg (obl_seq (obl_reg (obl_seq (obl_seq (obl_reg (obl_cond (obl_reg (obl_skip (obl_seq (obl_reg (obl_seq (obl_seq (obl_reg (obl_cond (obl_reg (obl_skip (obl_seq (obl_reg (obl_seq (obl_reg (obl_seq (obl_reg (obl_seq (obl_seq (obl_held (by kernel_rfl) (by kernel_rfl) (obl_cond (obl_seq (obl_reg (obl_ret (obl_skip (obl_seq (obl_seq (obl_reg (obl_cond (obl_seq (obl_reg (obl_ret (obl_skip (obl_seq (obl_seq (obl_reg (obl_cond (obl_seq (obl_reg (obl_ret (obl_skip (obl_seq (obl_reg (obl_ret trivial)))))))))))))))))))))))))))))))))))))))))))))))))))))))))

set_option maxRecDepth 100000 in
/-- surd/surdlaw08.DyadicRounds: function 6. -/
theorem surdlaw08_DyadicRounds_vc (a0_0 : Bool) (a0_1 : Slc) (a0_2 : Int) (a1 : Int) (a2 : Int) (w : World) (R : Ending → World → Prop)
    
    (h : newC w #[Value.bool a0_0, a0_1.v, Value.int .i64 a0_2] 27 fun ad1 w1 =>
    ldB ad1 w1 fun b1 =>
    ldS (ad1.add 1) w1 fun s1 =>
    ldI .i64 (ad1.add 2) w1 fun x1 =>
    Calls Tryd.prog 19 #[Value.agg #[Value.bool b1, s1.v, Value.int .i64 x1]] w1 fun e1 w2 =>
    ∃ s2 : Slc, ∃ b2 : Bool, ∃ s3 : Slc, ∃ x2 : Int, e1 = .returned (Value.tuple #[s2.v, Value.agg #[Value.bool b2, s3.v, Value.int .i64 x2]]) ∧
    (newC w2 #[Value.bool false, (⟨none, 0, 0⟩ : Slc).v, Value.int .i64 0] 33 fun ad2 w3 =>
      stC ad2 (Value.bool b2) w3 fun w4 =>
      stC (ad2.add 1) s3.v w4 fun w5 =>
      stC (ad2.add 2) (Value.int .i64 x2) w5 fun w6 =>
      ldB ad1 w6 fun b3 =>
      ldS (ad1.add 1) w6 fun s4 =>
      ldI .i64 (ad1.add 2) w6 fun x3 =>
      Calls Tryd.prog 35 #[Value.agg #[Value.bool b3, s4.v, Value.int .i64 x3]] w6 fun e2 w7 =>
      ∃ b4 : Bool, ∃ s5 : Slc, ∃ x4 : Int, ∃ b5 : Bool, e2 = .returned (Value.tuple #[Value.agg #[Value.bool b4, s5.v, Value.int .i64 x4], Value.bool b5]) ∧
      (newC w7 #[Value.bool false, (⟨none, 0, 0⟩ : Slc).v, Value.int .i64 0] 47 fun ad3 w8 =>
        stC ad3 (Value.bool b4) w8 fun w9 =>
        stC (ad3.add 1) s5.v w9 fun w10 =>
        stC (ad3.add 2) (Value.int .i64 x4) w10 fun w11 =>
        ldB ad2 w11 fun b6 =>
        ldS (ad2.add 1) w11 fun s6 =>
        ldI .i64 (ad2.add 2) w11 fun x5 =>
        Calls Tryd.prog 36 #[Value.agg #[Value.bool b6, s6.v, Value.int .i64 x5], Value.int .i64 a1, Value.int .i64 a2] w11 fun e3 w12 =>
        ∃ b7 : Bool, ∃ s7 : Slc, ∃ x6 : Int, ∃ x7 : Int, e3 = .returned (Value.tuple #[Value.agg #[Value.bool b7, s7.v, Value.int .i64 x6], Value.int .i64 x7]) ∧
        (newC w12 #[Value.bool false, (⟨none, 0, 0⟩ : Slc).v, Value.int .i64 0] 33 fun ad4 w13 =>
          stC ad4 (Value.bool b7) w13 fun w14 =>
          stC (ad4.add 1) s7.v w14 fun w15 =>
          stC (ad4.add 2) (Value.int .i64 x6) w15 fun w16 =>
          newC w16 #[Value.bool false, (⟨none, 0, 0⟩ : Slc).v, Value.int .i64 0] 47 fun ad5 w17 =>
          stC ad5 (Value.bool false) w17 fun w18 =>
          stC (ad5.add 1) ((⟨none, 0, 0⟩ : Slc).v) w18 fun w19 =>
          stC (ad5.add 2) (Value.int .i64 0) w19 fun w20 =>
          br (!b5)
          (ldB ad4 w20 fun b8 =>
            ldS (ad4.add 1) w20 fun s8 =>
            ldI .i64 (ad4.add 2) w20 fun x8 =>
            ldB ad5 w20 fun b9 =>
            ldS (ad5.add 1) w20 fun s9 =>
            ldI .i64 (ad5.add 2) w20 fun x9 =>
            Calls Tryd.prog 26 #[Value.agg #[Value.bool b8, s8.v, Value.int .i64 x8], Value.int .i64 x7, Value.agg #[Value.bool b9, s9.v, Value.int .i64 x9], Value.int .i64 80] w20 fun e4 w21 =>
            ∃ b10 : Bool, e4 = .returned (Value.bool b10) ∧
            (br b10
              (ldS (ad4.add 1) w21 fun s10 =>
                newC w21 #[s10.v] 25 fun ad6 w22 =>
                Calls Tryd.prog 31 #[(⟨some ad6, 1, 1⟩ : Slc).v] w22 fun e5 w23 =>
                ∃ b11 : Bool, e5 = .returned (Value.bool b11) ∧
                (br b11
                  (ldS (ad1.add 1) w23 fun s11 =>
                    Calls Tryd.prog 32 #[s2.v, s11.v] w23 fun e6 w24 =>
                    ∃ b12 : Bool, e6 = .returned (Value.bool b12) ∧
                    (br b12
                      (Calls Tryd.prog 14 #[] w24 fun e7 w25 =>
                        ∃ b13 : Bool, e7 = .returned (Value.bool b13) ∧
                        (R (.returned (Value.bool b13)) w25))
                      (R (.returned (Value.bool false)) w24)))
                  (R (.returned (Value.bool false)) w23)))
              (R (.returned (Value.bool false)) w21)))
          (Calls Tryd.prog 15 #[Value.int .i64 a1] w20 fun e8 w26 =>
            ∃ b14 : Bool, e8 = .returned (Value.bool b14) ∧
            (br (!b14)
              (ldB ad4 w26 fun b15 =>
                ldS (ad4.add 1) w26 fun s12 =>
                ldI .i64 (ad4.add 2) w26 fun x10 =>
                ldB ad5 w26 fun b16 =>
                ldS (ad5.add 1) w26 fun s13 =>
                ldI .i64 (ad5.add 2) w26 fun x11 =>
                Calls Tryd.prog 26 #[Value.agg #[Value.bool b15, s12.v, Value.int .i64 x10], Value.int .i64 x7, Value.agg #[Value.bool b16, s13.v, Value.int .i64 x11], Value.int .i64 1] w26 fun e9 w27 =>
                ∃ b17 : Bool, e9 = .returned (Value.bool b17) ∧
                (br b17
                  (ldS (ad4.add 1) w27 fun s14 =>
                    newC w27 #[s14.v] 25 fun ad7 w28 =>
                    Calls Tryd.prog 31 #[(⟨some ad7, 1, 1⟩ : Slc).v] w28 fun e10 w29 =>
                    ∃ b18 : Bool, e10 = .returned (Value.bool b18) ∧
                    (br b18
                      (ldS (ad1.add 1) w29 fun s15 =>
                        Calls Tryd.prog 32 #[s2.v, s15.v] w29 fun e11 w30 =>
                        ∃ b19 : Bool, e11 = .returned (Value.bool b19) ∧
                        (br b19
                          (Calls Tryd.prog 14 #[] w30 fun e12 w31 =>
                            ∃ b20 : Bool, e12 = .returned (Value.bool b20) ∧
                            (R (.returned (Value.bool b20)) w31))
                          (R (.returned (Value.bool false)) w30)))
                      (R (.returned (Value.bool false)) w29)))
                  (R (.returned (Value.bool false)) w27)))
              (Calls Tryd.prog 37 #[Value.int .i64 a2] w26 fun e13 w32 =>
                ∃ b21 : Bool, e13 = .returned (Value.bool b21) ∧
                (br (!b21)
                  (ldB ad4 w32 fun b22 =>
                    ldS (ad4.add 1) w32 fun s16 =>
                    ldI .i64 (ad4.add 2) w32 fun x12 =>
                    ldB ad5 w32 fun b23 =>
                    ldS (ad5.add 1) w32 fun s17 =>
                    ldI .i64 (ad5.add 2) w32 fun x13 =>
                    Calls Tryd.prog 26 #[Value.agg #[Value.bool b22, s16.v, Value.int .i64 x12], Value.int .i64 x7, Value.agg #[Value.bool b23, s17.v, Value.int .i64 x13], Value.int .i64 81] w32 fun e14 w33 =>
                    ∃ b24 : Bool, e14 = .returned (Value.bool b24) ∧
                    (br b24
                      (ldS (ad4.add 1) w33 fun s18 =>
                        newC w33 #[s18.v] 25 fun ad8 w34 =>
                        Calls Tryd.prog 31 #[(⟨some ad8, 1, 1⟩ : Slc).v] w34 fun e15 w35 =>
                        ∃ b25 : Bool, e15 = .returned (Value.bool b25) ∧
                        (br b25
                          (ldS (ad1.add 1) w35 fun s19 =>
                            Calls Tryd.prog 32 #[s2.v, s19.v] w35 fun e16 w36 =>
                            ∃ b26 : Bool, e16 = .returned (Value.bool b26) ∧
                            (br b26
                              (Calls Tryd.prog 14 #[] w36 fun e17 w37 =>
                                ∃ b27 : Bool, e17 = .returned (Value.bool b27) ∧
                                (R (.returned (Value.bool b27)) w37))
                              (R (.returned (Value.bool false)) w36)))
                          (R (.returned (Value.bool false)) w35)))
                      (R (.returned (Value.bool false)) w33)))
                  (ldB ad3 w32 fun b28 =>
                    ldS (ad3.add 1) w32 fun s20 =>
                    ldI .i64 (ad3.add 2) w32 fun x14 =>
                    Calls Tryd.prog 38 #[Value.agg #[Value.bool b28, s20.v, Value.int .i64 x14], Value.int .i64 a1, Value.int .i64 a2] w32 fun e18 w38 =>
                    ∃ b29 : Bool, ∃ s21 : Slc, ∃ x15 : Int, e18 = .returned (Value.agg #[Value.bool b29, s21.v, Value.int .i64 x15]) ∧
                    (stC ad5 (Value.bool b29) w38 fun w39 =>
                      stC (ad5.add 1) s21.v w39 fun w40 =>
                      stC (ad5.add 2) (Value.int .i64 x15) w40 fun w41 =>
                      ldB ad4 w41 fun b30 =>
                      ldS (ad4.add 1) w41 fun s22 =>
                      ldI .i64 (ad4.add 2) w41 fun x16 =>
                      ldB ad5 w41 fun b31 =>
                      ldS (ad5.add 1) w41 fun s23 =>
                      ldI .i64 (ad5.add 2) w41 fun x17 =>
                      Calls Tryd.prog 26 #[Value.agg #[Value.bool b30, s22.v, Value.int .i64 x16], Value.int .i64 x7, Value.agg #[Value.bool b31, s23.v, Value.int .i64 x17], Value.int .i64 0] w41 fun e19 w42 =>
                      ∃ b32 : Bool, e19 = .returned (Value.bool b32) ∧
                      (br b32
                        (ldS (ad4.add 1) w42 fun s24 =>
                          newC w42 #[s24.v] 25 fun ad9 w43 =>
                          Calls Tryd.prog 31 #[(⟨some ad9, 1, 1⟩ : Slc).v] w43 fun e20 w44 =>
                          ∃ b33 : Bool, e20 = .returned (Value.bool b33) ∧
                          (br b33
                            (ldS (ad1.add 1) w44 fun s25 =>
                              Calls Tryd.prog 32 #[s2.v, s25.v] w44 fun e21 w45 =>
                              ∃ b34 : Bool, e21 = .returned (Value.bool b34) ∧
                              (br b34
                                (Calls Tryd.prog 14 #[] w45 fun e22 w46 =>
                                  ∃ b35 : Bool, e22 = .returned (Value.bool b35) ∧
                                  (R (.returned (Value.bool b35)) w46))
                                (R (.returned (Value.bool false)) w45)))
                            (R (.returned (Value.bool false)) w44)))
                        (R (.returned (Value.bool false)) w42)))))))))))) :
    Calls Tryd.prog 6 #[Value.agg #[Value.bool a0_0, a0_1.v, Value.int .i64 a0_2], Value.int .i64 a1, Value.int .i64 a2] w R := by
  refine calls_of_vc (fun _ => none) (by kernel_rfl) Tryd.func6 rfl ?_ ?_
  · refine kcast h ?_; kernel_rfl
  · exact (obl_seq (obl_reg (obl_seq (obl_reg (obl_seq (obl_reg (obl_seq (obl_reg (obl_seq (obl_reg (obl_seq (obl_reg (obl_seq (obl_blk rfl (obl_seq (obl_reg (obl_cond (obl_reg (obl_seq (obl_reg (obl_cond (obl_reg (obl_seq (obl_reg (obl_cond (obl_reg (obl_reg (obl_seq (obl_reg (obl_ret trivial))))))))))))))))))))))))))))))

end Go.Proofs.YthhbjhdnaopcnaaDoor
